/- Parts of the walk; written by programs, merged. -/
import Derived.Test.YtcbkaiakdhiloabGreatDoorRal
set_option linter.unusedSimpArgs false
set_option linter.unusedVariables false
set_option maxRecDepth 20000
set_option maxHeartbeats 8000000
namespace Go.Proofs.YtcbkaiakdhiloabGreatDoor
open Go.RowKit Go.Proofs
attribute [local go_sem] bs_size bs_append bs_extract
def over1Ok (pl : Nat) (F : Nat → Prop) (os : List OptD) (l : List UInt8) (x : Value) (w : World) : Prop :=
  x = .int .i64 0 ∧ ∃ os', optRd os l = some os' ∧ LsA w pl F os' ∧ wtO os' ≤ wtO os + l.length
def over1Bad (os : List OptD) (l : List UInt8) (er : Int) : Prop := er = 1 ∧ optRd os l = none
theorem dhcOver1 (pl : Nat) (F : Nat → Prop) (p : Nat) (os : List OptD) (l : List UInt8) (w : World) (hL : LsA w pl F os) (hR : Rd w p l) (hpb : ¬ F p) (hF : ∀ k, w.heap.size ≤ k → F k) (hwt : wtO os + l.length ≤ 1099511627000) :
    Calls Tryz.prog 160 #[.pointer (some ⟨p, 0, none⟩), .pointer (some ⟨pl, 0, none⟩)] w (byPostW F (over1Ok pl F os l) (over1Bad os l) p w) := by
  go_enter Tryz.func160, Tryz.ntmps160
  go_wp2_with fail
  refine (dhcFrom pl F p os l w hL hR hpb hF hwt).mono ?_
  rintro e w1 (⟨os', r, h1, rfl, h2, h3, h4, h5⟩ | ⟨h1, rfl, h2⟩)
  · have H1 := Lib.hid h1
    clear h1
    go_wp2_with fail
    go_ret
    exact ⟨.inl ⟨_, ⟨rfl, os', H1.out, h2, h4⟩, rfl⟩, h5⟩
  · exact ⟨rfl, .inr ⟨1, ⟨rfl, h1⟩, rfl⟩, h2⟩
theorem LsA.at_size {w : World} {F : Nat → Prop} {pl : Nat} {os : List OptD} (h : LsA w pl F os) (n : Nat) : LsA w pl (fun k => (F k ∧ k < w.heap.size) ∨ w.heap.size + n ≤ k) os := by
  obtain ⟨h1, A, cap, h2, h3, h4⟩ := h
  refine ⟨.inl ⟨h1, h2.lt⟩, A, cap, h2, h3, ?_⟩
  rintro a rfl
  refine .inl ⟨h4 a rfl, ?_⟩
  obtain ⟨_, ⟨h5, _⟩ | ⟨g, _, cur, h5, _, hg, _⟩⟩ := h3
  · cases h5
  · cases h5; exact Bk.lt hg
theorem LsA.lt {w : World} {F : Nat → Prop} {pl : Nat} {os : List OptD} (h : LsA w pl F os) : pl < w.heap.size := by obtain ⟨_, _, _, h, _⟩ := h; exact h.lt
theorem over1Read (pl : Nat) (F : Nat → Prop) (os : List OptD) (l : List UInt8) (w : World) (hL : LsA w pl F os) (hwt : wtO os + l.length ≤ 1099511627000) :
    Calls Tryz.prog 159 #[.string (bs l), .func (.func 160) #[] #[.pointer (some ⟨pl, 0, none⟩)]] w fun e w' =>
      ((∃ os2, optRd os l = some os2 ∧ e = .returned (.tuple #[.int .i64 0, .int .i64 0]) ∧ LsA w' pl (fun k => F k ∨ w.heap.size ≤ k) os2 ∧ wtO os2 ≤ wtO os + l.length) ∨
       (optRd os l = none ∧ e = .returned (.tuple #[.int .i64 0, .int .i64 1]))) ∧ Fr F w w' := by
  have hL1 := hL.at_size 3
  refine (readWInt l w _ (fun k => (F k ∧ k < w.heap.size) ∨ w.heap.size + 3 ≤ k) (over1Ok pl (fun k => (F k ∧ k < w.heap.size) ∨ w.heap.size + 3 ≤ k) os l) (over1Bad os l) ?_ ?_ ?_ ?_).mono ?_
  · rintro k h1 h2 (h | h) <;> omega
  · rintro x w1 ⟨rfl, _⟩; exact ⟨0, rfl⟩
  · rintro x w1 w2 ⟨rfl, os', h1, h2, h3⟩ hf
    exact ⟨rfl, os', h1, h2.keep hf (by rintro k (h | h) (e | e) <;> omega), h3⟩
  · rintro p w1 rfl hR hf
    exact dhcOver1 pl _ _ os l w1 (hL1.keep hf (fun _ _ x => x)) hR (by rintro (h | h) <;> omega) (fun k hk => .inr (by have := Bk.lt hR; omega)) hwt
  · rintro e w1 ⟨⟨x, ⟨rfl, os', h1, h2, h3⟩, rfl⟩ | ⟨er, ⟨rfl, h1⟩, rfl⟩, hf⟩
    · exact ⟨.inl ⟨os', h1, rfl, h2.mono (by rintro k (h | h); exact .inl h.1; exact .inr (by omega)), h3⟩, hf.mono (by rintro b hb (h | h); exact h.1; omega)⟩
    · exact ⟨.inr ⟨h1, rfl⟩, hf.mono (by rintro b hb (h | h); exact h.1; omega)⟩
def OverP (S : Nat → Prop) (os : List OptD) (name file : List UInt8) (w : World) (e : Ending) (w' : World) : Prop :=
  ((∃ os' A' cap', overs os name file = (os', 0) ∧ e = .returned (.slice A' os'.length cap') ∧ SlR w' S 2 A' os'.length (optC os') ∧ wtO os' ≤ wtO os + name.length + file.length) ∨
   (∃ k : Nat, (overs os name file).2 = k + 1 ∧ e = .panicked (faultC ((k + 1 : Nat) : Int)))) ∧ Fr noB w w'
def notO (o : OptD) : Bool := !(o.code == 52)
theorem wtO_filter : ∀ os : List OptD, wtO (os.filter notO) ≤ wtO os
  | [] => Nat.le_refl _
  | o :: r => by
    have := wtO_filter r
    rw [List.filter_cons]
    split <;> simp only [wtO] <;> omega
theorem filter_take {os : List OptD} {i : Nat} {o : OptD} (h : os[i]? = some o) : (os.take (i + 1)).filter notO = (os.take i).filter notO ++ (if notO o then [o] else []) := by
  have hi : i < os.length := by
    rcases Nat.lt_or_ge i os.length with h1 | h1
    · exact h1
    · rw [List.getElem?_eq_none h1] at h; cases h
  rw [List.getElem?_eq_getElem hi] at h
  cases h
  rw [List.take_succ_eq_append_getElem hi, List.filter_append, List.filter_cons, List.filter_nil]
def areaL (name file : List UInt8) : Nat → Nat
  | 0 => 0
  | 1 => file.length
  | _ => file.length + name.length
def ovStep (x : UInt8) (name file : List UInt8) (a : List OptD) : Nat → Option (List OptD)
  | 0 => if x.toNat % 2 = 1 then optRd a file else some a
  | _ => if 2 ≤ x.toNat then optRd a name else some a
def ovAt (x : UInt8) (name file : List UInt8) (a : List OptD) : Nat → Option (List OptD)
  | 0 => some a
  | i + 1 => (ovAt x name file a i).bind fun b => ovStep x name file b i
theorem ovAt_none {x : UInt8} {name file : List UInt8} {a : List OptD} (h : ovAt x name file a 1 = none) : ovAt x name file a 2 = none := by rw [ovAt, h]; rfl
theorem overs_some (os : List OptD) (name file : List UInt8) (x : UInt8) (h : optOf os 52 = some [x]) : overs os name file =
    if x.toNat < 1 ∨ 3 < x.toNat then ([], 2) else match ovAt x name file (os.filter notO) 2 with
      | none => ([], 1)
      | some a => if (optOf a 52).isSome then ([], 2) else (a, 0) := by
  unfold overs
  rw [h]
  simp only
  split
  · rfl
  · simp only [ovAt, Option.bind_some, ovStep]
    rw [show (fun o : OptD => !(o.code == 52)) = notO from rfl]
    cases (if x.toNat % 2 = 1 then optRd (os.filter notO) file else some (os.filter notO)) with
    | none => rfl
    | some a => simp only [Option.bind_some]; cases (if 2 ≤ x.toNat then optRd a name else some a) <;> rfl
theorem overs_bad (os : List OptD) (name file : List UInt8) (d : List UInt8) (h : optOf os 52 = some d) (hd : d.length ≠ 1) : overs os name file = ([], 2) := by
  unfold overs
  rw [h]
  match d, hd with
  | [], _ => rfl
  | [_], hd => exact absurd rfl hd
  | _ :: _ :: _, _ => rfl
theorem dhcOver (S : Nat → Prop) (A : Option Addr) (cap : Nat) (os : List OptD) (name file : List UInt8) (w : World) (hAS : SlR w S 2 A os.length (optC os)) (hS : ∀ k, w.heap.size ≤ k → ¬ S k) (hwt : wtO os + name.length + file.length ≤ 1099511627000) :
    Calls Tryz.prog 120 #[.slice A os.length cap, .string (bs name), .string (bs file)] w (OverP S os name file w) := by
  have hA := hAS.sub (T := noB) (fun _ _ x => x.elim)
  have HAS := Lib.hid hAS
  have HS0 := Lib.hid hS
  clear hAS hS
  have hlw := wtO_len os
  obtain ⟨n, hn⟩ : ∃ n, os.length = n := ⟨_, rfl⟩
  rw [hn] at hA ⊢
  go_enter Tryz.func120, Tryz.ntmps120
  go_wp2_with fail
  have hOf := dhcOf noB A n cap os 52 w hA (by omega)
  rw [show (((52 : UInt8).toNat : Nat) : Int) = 52 by decide] at hOf
  refine hOf.mono ?_
  clear hOf
  rintro e w1 ⟨rfl, hf1⟩
  have hA1 := hA.keep hf1
  clear hA
  cases ho : optOf os 52 with
  | none =>
    have Ho := Lib.hid ho
    clear ho
    go_wp2_with fail
    go_ret
    refine ⟨.inl ⟨os, A, cap, ?_, by rw [hn]; rfl, HAS.out.keep (hf1.of_no S), by omega⟩, hf1⟩
    show overs os name file = (os, 0)
    unfold overs; rw [Ho.out]
  | some d =>
    simp only [Option.getD_some, Option.isSome_some]
    by_cases hd : d.length = 1
    rotate_left
    · have Hb := Lib.hid (overs_bad os name file d ho hd)
      clear ho
      have hdi : ¬ (d.length : Int) = 1 := by omega
      go_wp2_with fail
      refine (must_no 2 _).mono ?_
      rintro x w2 ⟨rfl, rfl⟩
      exact ⟨rfl, .inr ⟨1, by rw [Hb.out], rfl⟩, hf1⟩
    match d, hd with
    | [x], _ =>
    have Hs := Lib.hid (overs_some os name file x ho)
    clear ho
    have hx := x.toNat_lt
    have hg0 : ∀ h : 0 < (bs [x]).size, (bs [x])[0]'h = x := fun h => by rw [bs_get]; rfl
    by_cases hx1 : x.toNat < 1
    · have Hb : Hid (overs os name file = ([], 2)) := Lib.hid (by rw [Hs.out, if_pos (.inl hx1)])
      clear Hs
      have hxi : ¬ (1 : Int) ≤ (x.toNat : Int) := by omega
      go_wp2_with fail
      refine (must_no 2 _).mono ?_
      rintro e w2 ⟨rfl, rfl⟩
      exact ⟨rfl, .inr ⟨1, by rw [Hb.out], rfl⟩, hf1⟩
    have hxi : (1 : Int) ≤ (x.toNat : Int) := by omega
    by_cases hx3 : 3 < x.toNat
    · have Hb : Hid (overs os name file = ([], 2)) := Lib.hid (by rw [Hs.out, if_pos (.inr hx3)])
      clear Hs
      have hxj : ¬ (x.toNat : Int) ≤ (3 : Int) := by omega
      go_wp2_with fail
      refine (must_no 2 _).mono ?_
      rintro e w2 ⟨rfl, rfl⟩
      exact ⟨rfl, .inr ⟨1, by rw [Hb.out], rfl⟩, hf1⟩
    have hxj : (x.toNat : Int) ≤ (3 : Int) := by omega
    have HS : Hid (overs os name file = match ovAt x name file (os.filter notO) 2 with
      | none => ([], 1)
      | some a => if (optOf a 52).isSome then ([], 2) else (a, 0)) := Lib.hid (by rw [Hs.out, if_neg (by omega)])
    clear Hs
    go_wp2_with fail
    refine (must_yes 2 _).mono ?_
    rintro e w2 ⟨rfl, rfl⟩
    go_wp2_with fail
    have hL0 : LsA (w1.alloc (.cells #[.slice none 0 0] 191)) w1.heap.size (fromB w1.heap.size) [] :=
      ⟨Nat.le_refl _, none, 0, Bk.new _ _ _, ⟨rfl, .inl ⟨rfl, rfl⟩⟩, fun a h => by cases h⟩
    have hfa : Fr noB w1 (w1.alloc (.cells #[.slice none 0 0] 191)) := (Fr.refl _ _).alloc _
    obtain ⟨pl, hpl⟩ : ∃ pl, pl = w1.heap.size := ⟨_, rfl⟩
    rw [← hpl] at hL0 ⊢
    have Hpl := Lib.hid hpl
    clear hpl
    generalize w1.alloc (.cells #[.slice none 0 0] 191) = w3 at *
    obtain ⟨i0, hi0, hz0, hz1, hz2⟩ := info_parts opt_info
    go_loopw [42] (fun iv wr => ∃ (i : Nat), i ≤ n ∧ iv = .int .i64 (i : Int) ∧ LsA wr pl (fromB pl) ((os.take i).filter notO) ∧ Fr noB w1 wr) (fun iv _ => n - (intOf iv).toNat)
    case atStart => exact ⟨0, by omega, rfl, hL0, hfa⟩
    case round =>
      obtain ⟨i, hi, rfl, hL, hw⟩ := hrel
      by_cases hlt : i < n
      · obtain ⟨o, ho⟩ : ∃ o, os[i]? = some o := ⟨_, List.getElem?_eq_getElem (by omega)⟩
        obtain ⟨ad, rfl, c1, c2⟩ := (hA1.keep hw).optAt ho
        have hft := Lib.hid (filter_take ho)
        clear ho
        have hne := Fr.alloc hw (.cells #[.int .u8 (o.code.toNat : Int), .string (bs o.data)] 72)
        have hL2 := hL.keep ((Fr.refl noB wr).alloc (.cells #[.int .u8 (o.code.toNat : Int), .string (bs o.data)] 72)) (fun _ _ x => x)
        by_cases he : o.code = 52
        · have hei : (o.code.toNat : Int) = 52 := by rw [he]; decide
          have Hft : Hid ((os.take (i + 1)).filter notO = (os.take i).filter notO) := Lib.hid (by
            rw [hft.out, if_neg (by unfold notO; rw [he]; decide), List.append_nil])
          clear hft he
          rw [hei] at hL2 hne
          have HL2 := Lib.hid hL2
          clear hL2 hL
          go_wp2_with fail
          exact ⟨⟨i + 1, by omega, by rw [Int.natCast_add]; rfl, by rw [Hft.out]; exact HL2.out, hne⟩, by simp only [intOf]; omega⟩
        · have hei : ¬ (o.code.toNat : Int) = 52 := fun e => he (UInt8.toNat.inj (show o.code.toNat = 52 by omega))
          have Hft : Hid ((os.take (i + 1)).filter notO = (os.take i).filter notO ++ [o]) := Lib.hid (by
            rw [hft.out, if_pos (by unfold notO; simpa using he)])
          clear hft he
          obtain ⟨hbp, A1, cap1, hB, hO, hAF⟩ := hL2
          have hAp : ∀ a, A1 = some a → a.block ≠ pl := by
            rintro a rfl e
            obtain ⟨_, ⟨h2, _⟩ | ⟨g, _, cur, h2, _, hg, _⟩⟩ := hO
            · cases h2
            · cases h2
              rw [show g = pl from e, hB] at hg
              cases hg
          have hfw := wtO_filter os
          have hlen1 : ((os.take i).filter notO).length ≤ i := Nat.le_trans (List.length_filter_le _ _) (List.length_take_le i os)
          have hc0 := hB.cells
          have hb2 := hB.alloc (.cells #[.int .u8 (o.code.toNat : Int), .string (bs o.data)] 72)
          have hsr : SlR ((wr.alloc (.cells #[.int .u8 (o.code.toNat : Int), .string (bs o.data)] 72)).alloc (.cells #[.int .u8 (o.code.toNat : Int), .string (bs o.data)] 72)) noB 2 (some ⟨wr.heap.size + 1, 0, none⟩) 1 (optC [o]) := by
            have h := SlR.of_bk (n := 1) (size := 2) (S := noB) (Bk.new (wr.alloc (.cells #[.int .u8 (o.code.toNat : Int), .string (bs o.data)] 72)) 72 #[.int .u8 (o.code.toNat : Int), .string (bs o.data)]) (fun x => x) rfl
            rw [show (wr.alloc (.cells #[.int .u8 (o.code.toNat : Int), .string (bs o.data)] 72)).heap.size = wr.heap.size + 1 by simp] at h
            exact h
          have hO2 : ((wr.alloc (.cells #[.int .u8 (o.code.toNat : Int), .string (bs o.data)] 72)).alloc (.cells #[.int .u8 (o.code.toNat : Int), .string (bs o.data)] 72)).ownsRow 0 72 2 (.slice A1 ((os.take i).filter notO).length cap1) ((os.take i).filter notO).length (optC ((os.take i).filter notO)) :=
            own_keep hO (((Fr.refl noB (wr.alloc (.cells #[.int .u8 (o.code.toNat : Int), .string (bs o.data)] 72))).alloc _)) (fun _ _ x => x)
          obtain ⟨m, hm⟩ : ∃ m, ((os.take i).filter notO).length = m := ⟨_, rfl⟩
          have hop : ∃ l0, optC ((os.take i).filter notO) = l0 := ⟨_, rfl⟩
          obtain ⟨l0, hl0⟩ := hop
          rw [hm] at hO2 hO hB hc0 hb2 hlen1
          rw [hl0] at hO2 hO
          have Hm := Lib.hid hm
          have Hl0 := Lib.hid hl0
          clear hm hl0
          go_wp2_with (at_builtin
                       go_must (refine wpList_app rfl (.tmp 49) (.tmp 51) _ rfl 0 72 i0 _ 2 24 Tryz.underlying191 hi0 hz0 hz1 hz2 rfl (by omega) A1 _ _ _ rfl hO2 noB _ 1 1 _ rfl hsr optC_one (by unfold maxLen; omega) (by omega) (Nat.zero_le _) ?_)
                       intro A2 cap2 w4 hap
                       have hb3 := hb2.keep hap.fr (by rintro ⟨a, e, e2⟩; exact hAp a e e2)
                       have hc3 := hb3.cells
                       have hf3 := hb3.frees)
          have hLn : LsA (w4.setCell ⟨pl, 0, none⟩ (.slice A2 (m + 1) cap2)) pl (fromB pl) ((os.take (i + 1)).filter notO) := by
            rw [Hft.out]
            refine ⟨hbp, A2, cap2, ?_, ?_, ?_⟩
            · rw [List.length_append, Hm.out]; exact (by simpa using hb3.set 0 (.slice A2 (m + 1) cap2))
            · rw [List.length_append, optC_append, Hm.out, Hl0.out]; exact own_far hap.own hb3 (by decide) _
            · intro a e
              rcases hap.at_ a e with h | ⟨a0, e0, h⟩
              · have h1 := hB.lt; simp at h h1; unfold fromB; omega
              · rw [← h]; exact hAF a0 e0
          have hfn : Fr noB w1 (w4.setCell ⟨pl, 0, none⟩ (.slice A2 (m + 1) cap2)) := by
            have hpn : ¬ pl < w1.heap.size := by rw [Hpl.out]; omega
            refine (((hne.alloc _)).trans' hap.fr ?_).setCell (fun h => absurd h hpn) _
            rintro b hb ⟨a, e, rfl⟩
            have h := hAF a e
            unfold fromB at h; omega
          exact ⟨⟨i + 1, by omega, by rw [Int.natCast_add]; rfl, hLn, hfn⟩, by simp only [intOf]; omega⟩
      · obtain rfl : i = n := by omega
        have hL1 : LsA wr pl (fromB pl) (os.filter notO) := by rw [List.take_of_length_le (by omega)] at hL; exact hL
        clear hL
        have hL2 := (hL1.at_size 1).keep ((Fr.refl noB wr).alloc (.cells #[.string (bs file), .string (bs name)] 9)) (fun _ _ x => x)
        have hL3 : LsA (wr.alloc (.cells #[.string (bs file), .string (bs name)] 9)) pl (fun k => pl ≤ k ∧ k ≠ wr.heap.size) (os.filter notO) :=
          hL2.mono fun k h => by have := hL1.lt; unfold fromB at h; refine ⟨?_, ?_⟩ <;> rcases h with h | h <;> omega
        have hB2 := Bk.new wr 9 #[.string (bs file), .string (bs name)]
        have hf3 := hw.alloc (.cells #[.string (bs file), .string (bs name)] 9)
        have hpl2 := hL1.lt
        clear hL1 hL2
        go_wp2_with fail
        obtain ⟨g2, hg2⟩ : ∃ g2, wr.heap.size = g2 := ⟨_, rfl⟩
        rw [hg2] at hL3 hB2 hpl2
        rw [hg2]
        clear hg2
        have hw0 := wtO_filter os
        have Hw := Lib.hid (show w1.heap.size ≤ pl by rw [Hpl.out]; omega)
        generalize wr.alloc (.cells #[.string (bs file), .string (bs name)] 9) = w5 at *
        obtain ⟨a0, ha0⟩ : ∃ a0, os.filter notO = a0 := ⟨_, rfl⟩
        rw [ha0] at hL3 hw0 HS
        clear ha0
        go_loopw [58] (fun iv wr => ∃ (i : Nat), i ≤ 2 ∧ iv = .int .i64 (i : Int) ∧ ∃ os1, ovAt x name file a0 i = some os1 ∧ LsA wr pl (fun k => pl ≤ k ∧ k ≠ g2) os1 ∧ Bk wr g2 9 #[.string (bs file), .string (bs name)] ∧
          Fr noB w1 wr ∧ wtO os1 ≤ wtO os + areaL name file i) (fun iv _ => 2 - (intOf iv).toNat)
        case atStart => exact ⟨0, by omega, rfl, a0, rfl, hL3, hB2, hf3, hw0⟩
        case round =>
          obtain ⟨i, hi, rfl, os1, hov, hL, hB, hw, hwo⟩ := hrel
          by_cases hlt : i < 2
          · have hc := hB.cells
            have Hov := Lib.hid hov
            clear hov
            rcases (by omega : i = 0 ∨ i = 1) with rfl | rfl
            ·
              by_cases hbit : x.toNat % 2 = 1
              · have hb : bits BinOp.and IntKind.u8 (x.toNat : Int) 1 = 1 := by
                  rcases (by omega : x.toNat = 1 ∨ x.toNat = 3) with h | h <;> rw [h] <;> decide
                have Hn : Hid (ovAt x name file a0 1 = optRd os1 file) := Lib.hid (by rw [ovAt, Hov.out, Option.bind_some, ovStep, if_pos hbit])
                clear Hov
                go_wp2_with fail
                refine (over1Read pl _ os1 file _ hL (by simp only [areaL] at hwo; omega)).mono ?_
                rintro e w6 ⟨⟨os2, h1, rfl, h2, h3⟩ | ⟨h1, rfl⟩, hf6⟩
                · have hg := hB.lt
                  have hL6 : LsA w6 pl (fun k => pl ≤ k ∧ k ≠ g2) os2 := h2.mono (by rintro k (h | h); exact h; omega)
                  have hB6 := hB.keep hf6 (by rintro ⟨_, h⟩; exact h rfl)
                  have hw6 : Fr noB w1 w6 := hw.trans' hf6 (by rintro b hb ⟨h, _⟩; have := Hw.out; omega)
                  have H1 : Hid (ovAt x name file a0 1 = some os2) := Lib.hid (by rw [Hn.out, h1])
                  clear h1 h2 Hn
                  go_wp2_with fail
                  refine (must_yes 0 _).mono ?_
                  rintro e w7 ⟨rfl, rfl⟩
                  go_wp2_with fail
                  exact ⟨⟨1, by omega, rfl, os2, H1.out, hL6, hB6, hw6, by simp only [areaL] at hwo ⊢; omega⟩, by simp [intOf]⟩
                · have H1 : Hid ((overs os name file).2 = 1) := Lib.hid (by rw [HS.out, ovAt, Hn.out, h1, Option.bind_none])
                  have hw6 : Fr noB w w6 := hf1.none (hw.trans' hf6 (by rintro b hb ⟨h, _⟩; have := Hw.out; omega))
                  clear h1 Hn
                  go_wp2_with fail
                  refine (must_no 1 _).mono ?_
                  rintro e w7 ⟨rfl, rfl⟩
                  exact ⟨rfl, .inr ⟨0, H1.out, rfl⟩, hw6⟩
              · have hb : ¬ bits BinOp.and IntKind.u8 (x.toNat : Int) 1 = 1 := by
                  rw [show x.toNat = 2 by omega]; decide
                have Hn : Hid (ovAt x name file a0 1 = some os1) := Lib.hid (by rw [ovAt, Hov.out, Option.bind_some, ovStep, if_neg hbit])
                clear Hov
                go_wp2_with fail
                exact ⟨⟨1, by omega, rfl, os1, Hn.out, hL, hB, hw, by simp only [areaL] at hwo ⊢; omega⟩, by simp [intOf]⟩
            ·
              by_cases hbit : 2 ≤ x.toNat
              · have hb : bits BinOp.and IntKind.u8 ((x.toNat : Int) / 2) 1 = 1 := by
                  rcases (by omega : x.toNat = 2 ∨ x.toNat = 3) with h | h <;> rw [h] <;> decide
                have Hn : Hid (ovAt x name file a0 2 = optRd os1 name) := Lib.hid (by rw [ovAt, Hov.out, Option.bind_some, ovStep, if_pos hbit]; rintro h; cases h)
                clear Hov
                go_wp2_with fail
                refine (over1Read pl _ os1 name _ hL (by simp only [areaL] at hwo; omega)).mono ?_
                rintro e w6 ⟨⟨os2, h1, rfl, h2, h3⟩ | ⟨h1, rfl⟩, hf6⟩
                · have hg := hB.lt
                  have hL6 : LsA w6 pl (fun k => pl ≤ k ∧ k ≠ g2) os2 := h2.mono (by rintro k (h | h); exact h; omega)
                  have hB6 := hB.keep hf6 (by rintro ⟨_, h⟩; exact h rfl)
                  have hw6 : Fr noB w1 w6 := hw.trans' hf6 (by rintro b hb ⟨h, _⟩; have := Hw.out; omega)
                  have H1 : Hid (ovAt x name file a0 2 = some os2) := Lib.hid (by rw [Hn.out, h1])
                  clear h1 h2 Hn
                  go_wp2_with fail
                  refine (must_yes 0 _).mono ?_
                  rintro e w7 ⟨rfl, rfl⟩
                  go_wp2_with fail
                  exact ⟨⟨2, by omega, rfl, os2, H1.out, hL6, hB6, hw6, by simp only [areaL] at hwo ⊢; omega⟩, by simp [intOf]⟩
                · have H1 : Hid ((overs os name file).2 = 1) := Lib.hid (by rw [HS.out, Hn.out, h1])
                  have hw6 : Fr noB w w6 := hf1.none (hw.trans' hf6 (by rintro b hb ⟨h, _⟩; have := Hw.out; omega))
                  clear h1 Hn
                  go_wp2_with fail
                  refine (must_no 1 _).mono ?_
                  rintro e w7 ⟨rfl, rfl⟩
                  exact ⟨rfl, .inr ⟨0, H1.out, rfl⟩, hw6⟩
              · have hb : ¬ bits BinOp.and IntKind.u8 ((x.toNat : Int) / 2) 1 = 1 := by
                  rw [show x.toNat = 1 by omega]; decide
                have Hn : Hid (ovAt x name file a0 2 = some os1) := Lib.hid (by rw [ovAt, Hov.out, Option.bind_some, ovStep, if_neg hbit]; rintro h; cases h)
                clear Hov
                go_wp2_with fail
                exact ⟨⟨2, by omega, rfl, os1, Hn.out, hL, hB, hw, by simp only [areaL] at hwo ⊢; omega⟩, by simp [intOf]⟩
          · obtain rfl : i = 2 := by omega
            have Hs2 : Hid (overs os name file = if (optOf os1 52).isSome then ([], 2) else (os1, 0)) := Lib.hid (by rw [HS.out, hov])
            clear hov
            obtain ⟨hbp, A1, cap1, hB1, hO1, hAF1⟩ := hL
            have hc1 := hB1.cells
            have hA2 := own_slr hO1
            have hl1 := wtO_len os1
            have hOf := dhcOf noB A1 os1.length cap1 os1 52 wr hA2 (by simp only [areaL] at hwo; omega)
            rw [show (((52 : UInt8).toNat : Nat) : Int) = 52 by decide] at hOf
            go_wp2_with fail
            refine hOf.mono ?_
            clear hOf
            rintro e w6 ⟨rfl, hf6⟩
            have hA4 : SlR w6 S 2 A1 os1.length (optC os1) := (own_slrS hO1 (by intro a e h; have h1 := hAF1 a e; exact HS0.out _ (by have := Hw.out; have := hf1.size; omega) h)).keep (hf6.of_no S)
            have hB3 := hB1.keep hf6 (fun x => x)
            have hc3 := hB3.cells
            have hw6 : Fr noB w w6 := hf1.none (hw.none hf6)
            cases hos : (optOf os1 52).isSome with
            | true =>
              have H1 : Hid ((overs os name file).2 = 2) := Lib.hid (by rw [Hs2.out, hos]; rfl)
              clear Hs2
              go_wp2_with fail
              refine (must_no 2 _).mono ?_
              rintro e w7 ⟨rfl, rfl⟩
              exact ⟨rfl, .inr ⟨1, H1.out, rfl⟩, hw6⟩
            | false =>
              have H1 : Hid (overs os name file = (os1, 0)) := Lib.hid (by rw [Hs2.out, hos]; rfl)
              clear Hs2
              go_wp2_with fail
              refine (must_yes 2 _).mono ?_
              rintro e w7 ⟨rfl, rfl⟩
              go_wp2_with fail
              go_ret
              exact ⟨.inl ⟨os1, A1, cap1, H1.out, rfl, hA4, by simp only [areaL] at hwo; omega⟩, hw6⟩
end Go.Proofs.YtcbkaiakdhiloabGreatDoor
namespace Go.Proofs.YtcbkaiakdhiloabGreatDoor
open Go.RowKit Go.Proofs
attribute [local go_sem] bs_size bs_append bs_extract
def zcDhc : Array Value := #[.bool false, .int .u32 0, .int .u32 0, .int .u32 0, .int .u32 0, .int .u8 0, .int .u8 0, .int .u8 0, .int .u8 0, .int .u8 0, .int .u8 0, .slice none 0 0]
theorem catchDhc (gx ge : Nat) (er : Int) (w : World) (hx : Bk w gx 75 zcDhc) (he : Bk w ge 28 #[.int .i64 0]) (hne : gx ≠ ge) :
    CallsD Tryz.prog 156 #[.pointer (some ⟨gx, 0, none⟩), .pointer (some ⟨ge, 0, none⟩)] (.panicking (faultC er)) w fun r u' w' =>
      r = .returned (.tuple #[]) ∧ u' = .panicking [{ v := .iface 182 (.agg #[.int .i64 er]), recovered := true }] ∧ Bk w' gx 75 zcDhc ∧ Bk w' ge 28 #[.int .i64 er] ∧ Fr (twoB gx ge) w w' := by
  have hta := fault_is er
  have hbf := (Bk.new w 182 #[.int .i64 er]).alloc (.cells zcDhc 75)
  have hbz := Bk.new (w.alloc (.cells #[.int .i64 er] 182)) 75 zcDhc
  rw [show (w.alloc (.cells #[.int .i64 er] 182)).heap.size = w.heap.size + 1 by simp] at hbz
  have hx2 := (hx.alloc (.cells #[.int .i64 er] 182)).alloc (.cells zcDhc 75)
  have he2 := (he.alloc (.cells #[.int .i64 er] 182)).alloc (.cells zcDhc 75)
  have hf2 : Fr (twoB gx ge) w ((w.alloc (.cells #[.int .i64 er] 182)).alloc (.cells zcDhc 75)) := ((Fr.refl _ _).alloc _).alloc _
  have hgx := hx.lt
  have hge := he.lt
  refine callsD_of_wpS Tryz.func156 rfl fun c₀ cs hu => ?_
  apply wpS_seq
  apply wpS_region
  simp [wpOpsS, go_sem, recoverD, hu, Tryz.ntmps156, Exit.thenS, faultC]
  refine wpS_of_wp ?_
  simp only [Array.replicate_succ, Array.replicate_zero, List.push_toArray, List.append_toArray, List.nil_append, List.cons_append, List.setIfInBounds_toArray, List.set_cons_zero, List.set_cons_succ]
  go_wp2_with fail
  unfold zcDhc at hbf hbz hx2 he2 hf2
  generalize (w.alloc (.cells #[.int .i64 er] 182)).alloc (.cells #[.bool false, .int .u32 0, .int .u32 0, .int .u32 0, .int .u32 0, .int .u8 0, .int .u8 0, .int .u8 0, .int .u8 0, .int .u8 0, .int .u8 0, .slice none 0 0] 75) = w2 at *
  refine wp_region_ssa (by kernel_rfl) (by kernel_rfl) (by kernel_rfl)
    (fun u => ⟨#[.pointer (some ⟨gx, 0, none⟩), .pointer (some ⟨ge, 0, none⟩), undef, .pointer (some ⟨w.heap.size, 0, none⟩), .pointer (some ⟨w.heap.size + 1, 0, none⟩), undef,
      .iface 182 (.agg #[.int .i64 er]), undef, .bool false, .tuple #[.agg #[.int .i64 er], .bool true], .bool true, .agg #[.int .i64 er], u 0, u 1, u 2], []⟩)
    (fun j v _ => match j with | 0 => v = .agg zcDhc | 1 => v = .pointer (some ⟨w.heap.size, 0, none⟩) | 2 => v = .int .i64 er | _ => True)
    (fun L w3 => Bk w3 w.heap.size 182 #[.int .i64 er] ∧ Bk w3 (w.heap.size + 1) 75 zcDhc ∧ Bk w3 gx 75 zcDhc ∧ Bk w3 ge 28 #[if L 4 then .int .i64 er else .int .i64 0] ∧ Fr (twoB gx ge) w w3) (fun _ => undef) ⟨hbf.drew, hbz.drew, hx2.drew, he2.drew, hf2.drew⟩ ?_ ?_
  · rintro L u w3 i o ⟨g1, g2, g3, g4, g5⟩ hΦ ho hL hd K hK
    match i, ho with
    | 0, ho =>
      simp at ho; subst ho
      refine wp_load_row 75 (.tmp 4) rfl (w.heap.size + 1) rfl _ _ _ _ g2 Tryz.underlying75 rfl (by kernel_rfl) ?_
      exact hK _ _ rfl ⟨g1, g2, g3, g4, g5⟩ (fun _ _ _ h => h)
    | 1, ho =>
      simp at ho; subst ho
      clear hΦ hd
      go_simp
      exact hK _ _ rfl ⟨g1, g2, g3, g4, g5⟩ (fun _ _ _ h => h)
    | 2, ho =>
      simp at ho; subst ho
      have hu1 := hΦ 1 (hd ⟨1, .data⟩ (by simp) (by rfl))
      simp only at hu1
      have hc := g1.cells
      clear hΦ hd
      go_simp
      have hk := hK _ w3 rfl ⟨g1, g2, g3, g4, g5⟩ (fun _ _ _ h => h)
      simp only [upd, hu1] at hk
      exact hk
    | 3, ho =>
      simp at ho; subst ho
      have hu0 := hΦ 0 (hd ⟨0, .data⟩ (by simp) (by rfl))
      refine wp_store_bk 75 (.tmp 0) (.tmp 12) rfl gx _ _ _ rfl hu0 g3 rfl (by kernel_rfl) (by kernel_rfl) ?_
      intro w4 b4 f4
      refine hK undef _ trivial ⟨g1.keep f4 ?_, g2.keep f4 ?_, b4, g4.keep f4 ?_, g5.trans' f4 ?_⟩ (fun _ _ _ h => h)
      · unfold oneB; omega
      · unfold oneB; omega
      · unfold oneB; omega
      · intro b _ e; exact .inl e
    | 4, ho =>
      simp at ho; subst ho
      have hu2 := hΦ 2 (hd ⟨2, .data⟩ (by simp) (by rfl))
      simp only [hL] at g4 hu2
      have hc := g4.cells
      have hz := g4.frees
      clear hΦ hd
      go_simp
      have h4 : Bk (w3.setCell ⟨ge, 0, none⟩ (.int .i64 er)) ge 28 #[.int .i64 er] := by simpa using g4.set 0 (.int .i64 er)
      have hk := hK undef (w3.setCell ⟨ge, 0, none⟩ (.int .i64 er)) trivial ⟨g1.far (by simp; omega) _, g2.far (by simp; omega) _, g3.far (by simpa using hne) _, h4, g5.setCell (p := ⟨ge, 0, none⟩) (fun _ => .inr rfl) _⟩ (fun _ _ _ h => h)
      simp only [upd, hu2] at hk
      exact hk
  · rintro u w3 hΦ L hall ⟨g1, g2, g3, g4, g5⟩
    rw [hall 4 (by simp)] at g4
    exact ⟨rfl, _, rfl, .tuple #[], by simp [results, Tryz.results156], rfl, rfl, g3, by simpa using g4, g5⟩
theorem idleDhc (gx ge : Nat) (w : World) :
    CallsD Tryz.prog 156 #[.pointer (some ⟨gx, 0, none⟩), .pointer (some ⟨ge, 0, none⟩)] .returning w fun r u' w' =>
      r = .returned (.tuple #[]) ∧ u' = .returning ∧ w' = w := by
  refine callsD_of_wpS Tryz.func156 rfl fun c₀ cs hu => ?_
  apply wpS_seq
  apply wpS_region
  simp [wpOpsS, go_sem, recoverD, hu, Tryz.ntmps156, Exit.thenS]
  refine wpS_of_wp ?_
  simp only [Array.replicate_succ, Array.replicate_zero, List.push_toArray, List.append_toArray, List.nil_append, List.cons_append, List.setIfInBounds_toArray, List.set_cons_zero, List.set_cons_succ]
  go_wp2_with fail
  simp [Exit.inBlock, bodyPostS, results, Tryz.results156]
  cases c₀
  simp at hu
  simp [hu]
end Go.Proofs.YtcbkaiakdhiloabGreatDoor
namespace Go.Proofs.YtcbkaiakdhiloabGreatDoor
open Go.RowKit Go.Proofs
attribute [local go_sem] bs_size bs_append bs_extract
theorem readWDhc (l : List UInt8) (w : World) (q0 : Value) (S : Nat → Prop) (ok : Value → World → Prop) (bad : Int → Prop) (hS : ∀ k, w.heap.size ≤ k → k < w.heap.size + 2 → ¬ S k)
    (hok : ∀ x w1, ok x w1 → ∃ c : Array Value, x = .agg c ∧ c.size = zcDhc.size ∧ c.all (·.oneCell') = true) (hst : ∀ x w1 w2, ok x w1 → Fr (twoB w.heap.size (w.heap.size + 1)) w1 w2 → ok x w2)
    (hby : ∀ (p : Nat) (w1 : World), p = w.heap.size + 2 → Rd w1 p l → Fr noB w w1 → Calls Tryz.prog 117 #[.pointer (some ⟨p, 0, none⟩), q0] w1 (byPostW S ok bad p w1)) :
    Calls Tryz.prog 116 #[.string (bs l), .func (.func 117) #[] #[q0]] w (readPostW (.agg zcDhc) S ok bad w) := by
  have hmf : ∀ (fn : Fn) (first cap : Array Value) (w : World), (Instr.makeFunc fn first cap).run Tryz.prog w = .ok (.func fn first cap) w := fun _ _ _ _ => rfl
  go_enter_defers Tryz.func116, Tryz.ntmps116
  have Hby := Lib.hid hby
  have Hok := Lib.hid hok
  have Hst := Lib.hid hst
  have HS := Lib.hid hS
  clear hby hok hst hS
  go_wp2_with fail
  have hx0 := ((Bk.new w 75 zcDhc).alloc (.cells #[.int .i64 0] 28)).alloc (.cells #[.string (bs l)] 184)
  have he0 := (Bk.new (w.alloc (.cells zcDhc 75)) 28 #[.int .i64 0]).alloc (.cells #[.string (bs l)] 184)
  have hr0 := Bk.new ((w.alloc (.cells zcDhc 75)).alloc (.cells #[.int .i64 0] 28)) 184 #[.string (bs l)]
  rw [show ((w.alloc (.cells zcDhc 75)).alloc (.cells #[.int .i64 0] 28)).heap.size = w.heap.size + 1 + 1 by simp] at hr0
  rw [show (w.alloc (.cells zcDhc 75)).heap.size = w.heap.size + 1 by simp] at he0
  have hf0 : Fr noB w (((w.alloc (.cells zcDhc 75)).alloc (.cells #[.int .i64 0] 28)).alloc (.cells #[.string (bs l)] 184)) := (((Fr.refl _ _).alloc _).alloc _).alloc _
  unfold zcDhc at hx0 he0 hr0 hf0
  generalize ((w.alloc (.cells #[.bool false, .int .u32 0, .int .u32 0, .int .u32 0, .int .u32 0, .int .u8 0, .int .u8 0, .int .u8 0, .int .u8 0, .int .u8 0, .int .u8 0, .slice none 0 0] 75)).alloc (.cells #[.int .i64 0] 28)).alloc (.cells #[.string (bs l)] 184) = w1 at *
  refine (Hby.out _ w1 (by omega) hr0 hf0).mono ?_
  have HX : ¬ orB (w.heap.size + 1 + 1) S w.heap.size := by rintro (h | h); omega; exact HS.out _ (by omega) (by omega) h
  have HE : ¬ orB (w.heap.size + 1 + 1) S (w.heap.size + 1) := by rintro (h | h); omega; exact HS.out _ (by omega) (by omega) h
  rintro e w2 ⟨⟨x0, hx, rfl⟩ | ⟨er, hbad, rfl⟩, hf1⟩
  · have hx1 := hx0.keep hf1 HX
    have he1 := he0.keep hf1 HE
    obtain ⟨x, rfl, hsx, hox⟩ := Hok.out x0 w2 hx
    have Hsx := Lib.hid hsx
    have Hox := Lib.hid hox
    have hix : (Tryz.prog.info? 75).map (·.size) = some x.size := by rw [hsx]; kernel_rfl
    have Hix := Lib.hid hix
    clear hsx hox hix
    go_wp2_with ((refine wpList_store_bk rfl 75 (.tmp 4) (.tmp 11) rfl w.heap.size _ _ x rfl rfl hx1 Hsx.out Hix.out Hox.out ?_); intro w3 hx3 hf3; have he3 := he1.keep hf3 (by unfold oneB; omega); have hc3 := he3.cells; have hz3 := he3.frees)
    have hb3 : Bk (w3.setCell ⟨w.heap.size + 1, 0, none⟩ (.int .i64 0)) (w.heap.size + 1) 28 #[.int .i64 0] := by simpa using he3.set 0 (.int .i64 0)
    have hx4 := hx3.far (p := ⟨w.heap.size + 1, 0, none⟩) (by simp) (.int .i64 0)
    have hst4 : Fr (twoB w.heap.size (w.heap.size + 1)) w2 (w3.setCell ⟨w.heap.size + 1, 0, none⟩ (.int .i64 0)) := (hf3.mono fun b _ e => .inl e).setCell (p := ⟨w.heap.size + 1, 0, none⟩) (fun _ => .inr rfl) _
    have hfin : Fr S w (w3.setCell ⟨w.heap.size + 1, 0, none⟩ (.int .i64 0)) := by
      refine ((((hf0.of_no S).trans' hf1 ?_).trans' hf3 ?_).setCell ?_ _)
      · rintro b hb (e | e); omega; exact e
      · intro b hb e; unfold oneB at e; omega
      · intro e; exact absurd e (by simp)
    generalize w3.setCell ⟨w.heap.size + 1, 0, none⟩ (.int .i64 0) = w4 at *
    refine leaves_cons (f := 156) (args := #[.pointer (some ⟨w.heap.size, 0, none⟩), .pointer (some ⟨w.heap.size + 1, 0, none⟩)]) (by simp) (by simp [go_sem]) ?_
    refine (idleDhc _ _ _).mono ?_
    rintro e u' w5 ⟨rfl, rfl, rfl⟩
    refine ⟨.tuple #[.agg x, .int .i64 0], ?_, ⟨.inl ⟨_, Hst.out _ _ _ hx hst4, rfl⟩, hfin⟩⟩
    exact results_row_int Tryz.results116 _ w5 w.heap.size (w.heap.size + 1) _ _ x 0 _ _ rfl rfl hx4 hb3 Tryz.underlying75 rfl Hix.out Tryz.underlying28
  · have hx1 := hx0.keep hf1 HX
    have he1 := he0.keep hf1 HE
    have hfin : Fr S w w2 := (hf0.of_no S).trans' hf1 (by rintro b hb (e | e); omega; exact e)
    refine leaves_cons (f := 156) (args := #[.pointer (some ⟨w.heap.size, 0, none⟩), .pointer (some ⟨w.heap.size + 1, 0, none⟩)]) (by simp) (by simp [go_sem]) ?_
    refine (catchDhc w.heap.size (w.heap.size + 1) er w2 hx1 he1 (by omega)).mono ?_
    rintro e u' w5 ⟨rfl, rfl, hx5, he5, hf5⟩
    refine ⟨.tuple #[.agg zcDhc, .int .i64 er], ?_, ⟨.inr ⟨er, hbad, rfl⟩, hfin.trans' hf5 ?_⟩⟩
    · exact results_row_int Tryz.results116 _ w5 w.heap.size (w.heap.size + 1) _ _ _ er _ _ rfl rfl hx5 he5 Tryz.underlying75 rfl (by kernel_rfl) Tryz.underlying28
    · intro b hb e; unfold twoB at e; omega
end Go.Proofs.YtcbkaiakdhiloabGreatDoor
namespace Go.Proofs.YtcbkaiakdhiloabGreatDoor
open Go.RowKit Go.Proofs
attribute [local go_sem] bs_size bs_append bs_extract bs_toList
def dhcC (d : DhcD) (A : Option Addr) (cap : Nat) : Array Value :=
  #[.bool d.reply, .int .u32 (d.xid : Int), .int .u32 (d.client : Int), .int .u32 (d.yours : Int), .int .u32 (d.next : Int),
    .int .u8 (d.mac.1.toNat : Int), .int .u8 (d.mac.2.1.toNat : Int), .int .u8 (d.mac.2.2.1.toNat : Int), .int .u8 (d.mac.2.2.2.1.toNat : Int), .int .u8 (d.mac.2.2.2.2.1.toNat : Int), .int .u8 (d.mac.2.2.2.2.2.toNat : Int),
    .slice A d.os.length cap]
def DhcOk (B : Nat) (l : List UInt8) (x : Value) (w : World) : Prop :=
  ∃ d A cap, x = .agg (dhcC d A cap) ∧ readDHCP l = (d, 0) ∧ SlR w (fun k => k < B) 2 A d.os.length (optC d.os) ∧ wtO d.os ≤ l.length
def DhcBad (l : List UInt8) (er : Int) : Prop := ∃ k : Nat, er = ((k + 1 : Nat) : Int) ∧ readDHCP l = (dhc0, k + 1)
theorem sub_one (l : List UInt8) (i : Nat) (h : i < l.length) : ∃ c, sub l i (i + 1) = [c] ∧ num (sub l i (i + 1)) = c.toNat := by
  refine ⟨l[i], ?_, ?_⟩
  · rw [← take_drop_sub, List.drop_eq_getElem_cons h]; rfl
  · rw [← take_drop_sub, List.drop_eq_getElem_cons h, List.take_succ_cons, List.take_zero]; simp [num]
theorem dhcBy (B : Nat) (l : List UInt8) (hl : l.length ≤ 1099511000000) (p q : Nat) (w : World) (hR : Rd w p l) (hq : Bk w q 9 #[.string (bs l)]) (hpq : p ≠ q) (hB : B ≤ w.heap.size) :
    Calls Tryz.prog 117 #[.pointer (some ⟨p, 0, none⟩), .pointer (some ⟨q, 0, none⟩)] w (byPostW noB (DhcOk B l) (DhcBad l) p w) := by
  have hp := Bk.lt hR
  have hql := hq.lt
  go_enter Tryz.func117, Tryz.ntmps117
  have hr0 : Rd (w.alloc (.cells zcDhc 75)) p (l.drop 0) := by rw [List.drop_zero]; exact Bk.alloc hR _
  have hq0 := hq.alloc (.cells zcDhc 75)
  have hx0 := Bk.new w 75 zcDhc
  have hf0 : Fr noB w (w.alloc (.cells zcDhc 75)) := (Fr.refl _ _).alloc _
  have hqc := hq0.cells
  unfold zcDhc at hr0 hq0 hx0 hf0 hqc
  have hl63 : l.length ≤ 9223372036854775807 := by omega
  by_cases h240 : 240 ≤ l.length
  rotate_left
  · have h240i : ¬ (240 : Int) ≤ (l.length : Int) := by omega
    go_wp2_with fail
    refine (must_no 1 _).mono ?_
    rintro e w1 ⟨rfl, rfl⟩
    exact ⟨rfl, .inr ⟨1, ⟨0, rfl, by unfold readDHCP; rw [if_pos (by omega)]⟩, rfl⟩, hf0.of_no _⟩
  have h240i : (240 : Int) ≤ (l.length : Int) := by omega
  obtain ⟨c0, hc0, hn0⟩ := sub_one l 0 (by omega)
  rw [Nat.zero_add] at hn0 hc0
  go_wp2_with fail
  refine (must_yes 1 _).mono ?_
  rintro e w1 ⟨rfl, rfl⟩
  clear hqc h240i
  go_wp2_with fail
  generalize w.alloc (.cells #[.bool false, .int .u32 0, .int .u32 0, .int .u32 0, .int .u32 0, .int .u8 0, .int .u8 0, .int .u8 0, .int .u8 0, .int .u8 0, .int .u8 0, .slice none 0 0] 75) = v0 at *
  refine (aU8 0 p l _ hr0 hl63 (by omega)).mono ?_
  rintro e v1 ⟨rfl, hr1, g1⟩
  rw [Nat.zero_add, hn0]
  clear hr0 hn0
  go_wp2_with fail
  refine (aTake 1 p l _ hr1 hl63 2 (by omega)).mono ?_
  rintro e v2 ⟨rfl, hr2, f2⟩
  have g2 := g1.trans f2
  clear hr1 g1 f2
  go_wp2_with fail
  refine (aU8 3 p l _ hr2 hl63 (by omega)).mono ?_
  rintro e v3 ⟨rfl, hr3, f3⟩
  have g3 := g2.trans f3
  clear hr2 g2 f3
  go_wp2_with fail
  refine (aU32 4 p l _ hr3 hl63 (by omega)).mono ?_
  rintro e v4 ⟨rfl, hr4, f4⟩
  have g4 := g3.trans f4
  clear hr3 g3 f4
  go_wp2_with fail
  obtain ⟨b, hb⟩ : ∃ b, ((c0.toNat : Int) == 2) = b := ⟨_, rfl⟩
  rw [hb]
  obtain ⟨x, hxx⟩ : ∃ x, num (sub l 4 (4 + 4)) = x := ⟨_, rfl⟩
  rw [hxx]
  have Hb := Lib.hid hb
  have Hx := Lib.hid hxx
  clear hb hxx
  have hm5 := Bk.new v4 75 #[.bool b, .int .u32 (x : Int), .int .u32 0, .int .u32 0, .int .u32 0, .int .u8 0, .int .u8 0, .int .u8 0, .int .u8 0, .int .u8 0, .int .u8 0, .slice none 0 0]
  have hr5 := Bk.alloc hr4 (.cells #[.bool b, .int .u32 (x : Int), .int .u32 0, .int .u32 0, .int .u32 0, .int .u8 0, .int .u8 0, .int .u8 0, .int .u8 0, .int .u8 0, .int .u8 0, .slice none 0 0] 75)
  have g5 := g4.alloc (.cells #[.bool b, .int .u32 (x : Int), .int .u32 0, .int .u32 0, .int .u32 0, .int .u8 0, .int .u8 0, .int .u8 0, .int .u8 0, .int .u8 0, .int .u8 0, .slice none 0 0] 75)
  have hpm : p < v4.heap.size := Bk.lt hr4
  have hxm : w.heap.size < v4.heap.size := Nat.lt_of_lt_of_le hx0.lt g4.size
  have hvm : v0.heap.size ≤ v4.heap.size := g4.size
  obtain ⟨gm, hgm⟩ : ∃ gm, v4.heap.size = gm := ⟨_, rfl⟩
  rw [hgm] at hm5 hpm hxm hvm
  rw [hgm]
  have Hgm := Lib.hid hgm
  clear hgm g4 hr4
  generalize v4.alloc (.cells #[.bool b, .int .u32 (x : Int), .int .u32 0, .int .u32 0, .int .u32 0, .int .u8 0, .int .u8 0, .int .u8 0, .int .u8 0, .int .u8 0, .int .u8 0, .slice none 0 0] 75) = v5 at *
  refine (aTake 8 p l _ hr5 hl63 4 (by omega)).mono ?_
  rintro e v6 ⟨rfl, hr6, f6⟩
  have g6 := g5.trans f6
  have hm6 := hm5.keep f6 (by unfold oneB; omega)
  clear hr5 g5 f6 hm5
  go_wp2_with fail
  refine (aIP 12 p l _ hr6 hl63 (by omega)).mono ?_
  rintro e v7 ⟨rfl, hr7, f7⟩
  have g7 := g6.trans f7
  have hm7 := hm6.keep f7 (by unfold oneB; omega)
  clear hr6 g6 f7 hm6
  go_wp2_with fail
  refine (aIP 16 p l _ hr7 hl63 (by omega)).mono ?_
  rintro e v8 ⟨rfl, hr8, f8⟩
  have g8 := g7.trans f8
  have hm8 := hm7.keep f8 (by unfold oneB; omega)
  clear hr7 g7 f8 hm7
  go_wp2_with fail
  refine (aIP 20 p l _ hr8 hl63 (by omega)).mono ?_
  rintro e v9 ⟨rfl, hr9, f9⟩
  have g9 := g8.trans f9
  have hm9 := hm8.keep f9 (by unfold oneB; omega)
  clear hr8 g8 f9 hm8
  obtain ⟨x1, hx1⟩ : ∃ x, num (sub l 12 (12 + 4)) = x := ⟨_, rfl⟩
  obtain ⟨x2, hx2⟩ : ∃ x, num (sub l 16 (16 + 4)) = x := ⟨_, rfl⟩
  obtain ⟨x3, hx3⟩ : ∃ x, num (sub l 20 (20 + 4)) = x := ⟨_, rfl⟩
  rw [hx1, hx2, hx3]
  have Hx1 := Lib.hid hx1
  have Hx2 := Lib.hid hx2
  have Hx3 := Lib.hid hx3
  clear hx1 hx2 hx3
  have hm9c := hm9.cells
  have hm9f := hm9.frees
  go_wp2_with fail
  have hgn : ∀ {q : Prop}, gm < v0.heap.size → q := fun h => absurd h (by omega)
  have hm10 : Bk ((((v9).setCell ⟨gm, 2, none⟩ (.int .u32 (x1 : Int))).setCell ⟨gm, 3, none⟩ (.int .u32 (x2 : Int))).setCell ⟨gm, 4, none⟩ (.int .u32 (x3 : Int))) gm 75 #[.bool b, .int .u32 (x : Int), .int .u32 (x1 : Int), .int .u32 (x2 : Int), .int .u32 (x3 : Int), .int .u8 0, .int .u8 0, .int .u8 0, .int .u8 0, .int .u8 0, .int .u8 0, .slice none 0 0] := by simpa using (((hm9.set 2 (.int .u32 (x1 : Int))).set 3 (.int .u32 (x2 : Int))).set 4 (.int .u32 (x3 : Int)))
  have hr10 : Rd ((((v9).setCell ⟨gm, 2, none⟩ (.int .u32 (x1 : Int))).setCell ⟨gm, 3, none⟩ (.int .u32 (x2 : Int))).setCell ⟨gm, 4, none⟩ (.int .u32 (x3 : Int))) p (l.drop (20 + 4)) := (Bk.far (Bk.far (Bk.far hr9 (p := ⟨gm, 2, none⟩) (Nat.ne_of_lt hpm) _) (p := ⟨gm, 3, none⟩) (Nat.ne_of_lt hpm) _) (p := ⟨gm, 4, none⟩) (Nat.ne_of_lt hpm) _)
  have g10 : Fr (oneB p) v0 ((((v9).setCell ⟨gm, 2, none⟩ (.int .u32 (x1 : Int))).setCell ⟨gm, 3, none⟩ (.int .u32 (x2 : Int))).setCell ⟨gm, 4, none⟩ (.int .u32 (x3 : Int))) := (Fr.setCell (Fr.setCell (Fr.setCell g9 (p := ⟨gm, 2, none⟩) hgn _) (p := ⟨gm, 3, none⟩) hgn _) (p := ⟨gm, 4, none⟩) hgn _)
  clear hm9 hr9 g9 hm9c hm9f
  generalize (((v9).setCell ⟨gm, 2, none⟩ (.int .u32 (x1 : Int))).setCell ⟨gm, 3, none⟩ (.int .u32 (x2 : Int))).setCell ⟨gm, 4, none⟩ (.int .u32 (x3 : Int)) = v10 at *
  refine (aTake 24 p l _ hr10 hl63 4 (by omega)).mono ?_
  rintro e v11 ⟨rfl, hr11, f11⟩
  have g11 := g10.trans f11
  have hm11 := hm10.keep f11 (by unfold oneB; omega)
  clear hr10 g10 f11 hm10
  go_wp2_with fail
  refine (aMAC 28 p l _ hr11 hl63 (by omega)).mono ?_
  rintro e v12 ⟨rfl, hr12, f12⟩
  have g12 := g11.trans f12
  have hm12 := hm11.keep f12 (by unfold oneB; omega)
  clear hr11 g11 f12 hm11
  obtain ⟨mm, hmm⟩ : ∃ x, macOf (l.drop 28) = x := ⟨_, rfl⟩
  rw [hmm]
  have Hmm := Lib.hid hmm
  clear hmm
  have hm12c := hm12.cells
  have hm12f := hm12.frees
  unfold macV
  go_wp2_with fail
  have hm13 : Bk (((((((v12).setCell ⟨gm, 5, none⟩ (.int .u8 (mm.1.toNat : Int))).setCell ⟨gm, 6, none⟩ (.int .u8 (mm.2.1.toNat : Int))).setCell ⟨gm, 7, none⟩ (.int .u8 (mm.2.2.1.toNat : Int))).setCell ⟨gm, 8, none⟩ (.int .u8 (mm.2.2.2.1.toNat : Int))).setCell ⟨gm, 9, none⟩ (.int .u8 (mm.2.2.2.2.1.toNat : Int))).setCell ⟨gm, 10, none⟩ (.int .u8 (mm.2.2.2.2.2.toNat : Int))) gm 75 #[.bool b, .int .u32 (x : Int), .int .u32 (x1 : Int), .int .u32 (x2 : Int), .int .u32 (x3 : Int), .int .u8 (mm.1.toNat : Int), .int .u8 (mm.2.1.toNat : Int), .int .u8 (mm.2.2.1.toNat : Int), .int .u8 (mm.2.2.2.1.toNat : Int), .int .u8 (mm.2.2.2.2.1.toNat : Int), .int .u8 (mm.2.2.2.2.2.toNat : Int), .slice none 0 0] := by simpa using ((((((hm12.set 5 (.int .u8 (mm.1.toNat : Int))).set 6 (.int .u8 (mm.2.1.toNat : Int))).set 7 (.int .u8 (mm.2.2.1.toNat : Int))).set 8 (.int .u8 (mm.2.2.2.1.toNat : Int))).set 9 (.int .u8 (mm.2.2.2.2.1.toNat : Int))).set 10 (.int .u8 (mm.2.2.2.2.2.toNat : Int)))
  have hr13 : Rd (((((((v12).setCell ⟨gm, 5, none⟩ (.int .u8 (mm.1.toNat : Int))).setCell ⟨gm, 6, none⟩ (.int .u8 (mm.2.1.toNat : Int))).setCell ⟨gm, 7, none⟩ (.int .u8 (mm.2.2.1.toNat : Int))).setCell ⟨gm, 8, none⟩ (.int .u8 (mm.2.2.2.1.toNat : Int))).setCell ⟨gm, 9, none⟩ (.int .u8 (mm.2.2.2.2.1.toNat : Int))).setCell ⟨gm, 10, none⟩ (.int .u8 (mm.2.2.2.2.2.toNat : Int))) p (l.drop (28 + 6)) := (Bk.far (Bk.far (Bk.far (Bk.far (Bk.far (Bk.far hr12 (p := ⟨gm, 5, none⟩) (Nat.ne_of_lt hpm) _) (p := ⟨gm, 6, none⟩) (Nat.ne_of_lt hpm) _) (p := ⟨gm, 7, none⟩) (Nat.ne_of_lt hpm) _) (p := ⟨gm, 8, none⟩) (Nat.ne_of_lt hpm) _) (p := ⟨gm, 9, none⟩) (Nat.ne_of_lt hpm) _) (p := ⟨gm, 10, none⟩) (Nat.ne_of_lt hpm) _)
  have g13 : Fr (oneB p) v0 (((((((v12).setCell ⟨gm, 5, none⟩ (.int .u8 (mm.1.toNat : Int))).setCell ⟨gm, 6, none⟩ (.int .u8 (mm.2.1.toNat : Int))).setCell ⟨gm, 7, none⟩ (.int .u8 (mm.2.2.1.toNat : Int))).setCell ⟨gm, 8, none⟩ (.int .u8 (mm.2.2.2.1.toNat : Int))).setCell ⟨gm, 9, none⟩ (.int .u8 (mm.2.2.2.2.1.toNat : Int))).setCell ⟨gm, 10, none⟩ (.int .u8 (mm.2.2.2.2.2.toNat : Int))) := (Fr.setCell (Fr.setCell (Fr.setCell (Fr.setCell (Fr.setCell (Fr.setCell g12 (p := ⟨gm, 5, none⟩) hgn _) (p := ⟨gm, 6, none⟩) hgn _) (p := ⟨gm, 7, none⟩) hgn _) (p := ⟨gm, 8, none⟩) hgn _) (p := ⟨gm, 9, none⟩) hgn _) (p := ⟨gm, 10, none⟩) hgn _)
  clear hm12 hr12 g12 hm12c hm12f
  generalize ((((((v12).setCell ⟨gm, 5, none⟩ (.int .u8 (mm.1.toNat : Int))).setCell ⟨gm, 6, none⟩ (.int .u8 (mm.2.1.toNat : Int))).setCell ⟨gm, 7, none⟩ (.int .u8 (mm.2.2.1.toNat : Int))).setCell ⟨gm, 8, none⟩ (.int .u8 (mm.2.2.2.1.toNat : Int))).setCell ⟨gm, 9, none⟩ (.int .u8 (mm.2.2.2.2.1.toNat : Int))).setCell ⟨gm, 10, none⟩ (.int .u8 (mm.2.2.2.2.2.toNat : Int)) = v13 at *
  refine (aTake 34 p l _ hr13 hl63 10 (by omega)).mono ?_
  rintro e v14 ⟨rfl, hr14, f14⟩
  have g14 := g13.trans f14
  have hm14 := hm13.keep f14 (by unfold oneB; omega)
  clear hr13 g13 f14 hm13
  go_wp2_with fail
  refine (aTake 44 p l _ hr14 hl63 64 (by omega)).mono ?_
  rintro e v15 ⟨rfl, hr15, f15⟩
  have g15 := g14.trans f15
  have hm15 := hm14.keep f15 (by unfold oneB; omega)
  clear hr14 g14 f15 hm14
  go_wp2_with fail
  refine (aTake 108 p l _ hr15 hl63 128 (by omega)).mono ?_
  rintro e v16 ⟨rfl, hr16, f16⟩
  have g16 := g15.trans f16
  have hm16 := hm15.keep f16 (by unfold oneB; omega)
  clear hr15 g15 f16 hm15
  go_upto_region 12 with fail
  have Hx0 := Lib.hid (hx0.keep g16 (by unfold oneB; omega))
  have Hf0 := Lib.hid ((hf0.of_no (oneB p)).trans g16)
  clear hx0 hf0 hq0 hq g16
  have Hc0 := Lib.hid hc0
  clear hc0
  have hbad : ¬ ((sub l 0 1 = [1] ∨ sub l 0 1 = [2]) ∧ sub l 1 3 = [1, 6] ∧ sub l 236 240 = [99, 130, 83, 99]) → ∀ w', Fr (oneB p) v16 w' → byPostW noB (DhcOk B l) (DhcBad l) p w (.panicked (faultC 2)) w' := by
    intro hno w' hf
    refine ⟨.inr ⟨2, ⟨1, rfl, by unfold readDHCP; rw [if_neg (by omega), if_pos hno]⟩, rfl⟩, (Hf0.out.trans hf).mono fun b _ e => .inl e⟩
  have Hbad := Lib.hid hbad
  clear hbad
  go_cut [] from 10 (fun wx => (c0 = 1 ∨ c0 = 2) ∧ sub l 1 3 = [1, 6] ∧ sub l 236 240 = [99, 130, 83, 99] ∧ Rd wx p (l.drop 240) ∧ Fr (oneB p) v16 wx)
  case first =>
    have hkind : c0 = 1 ∨ c0 = 2 ∨ (c0 ≠ 1 ∧ c0 ≠ 2) := by by_cases h1 : c0 = 1; exact .inl h1; by_cases h2 : c0 = 2; exact .inr (.inl h2); exact .inr (.inr ⟨h1, h2⟩)
    by_cases hk : sub l 1 3 = [1, 6]
    rotate_left
    · have hkb : (sub l 1 3 == [1, 6]) = false := by simpa using hk
      have Hno : Hid (∀ w', Fr (oneB p) v16 w' → byPostW noB (DhcOk B l) (DhcBad l) p w (.panicked (faultC 2)) w') := Lib.hid (Hbad.out (by rintro ⟨_, h, _⟩; exact hk h))
      clear hk Hbad
      rcases hkind with rfl | rfl | ⟨h1, h2⟩
      · go_wp2_with fail
        refine (must_no 2 _).mono ?_
        rintro e w' ⟨rfl, rfl⟩
        exact ⟨rfl, Hno.out _ (Fr.refl _ _)⟩
      · go_wp2_with fail
        refine (must_no 2 _).mono ?_
        rintro e w' ⟨rfl, rfl⟩
        exact ⟨rfl, Hno.out _ (Fr.refl _ _)⟩
      · have b1 : ((c0.toNat : Int) == 1) = false := u8_ne h1
        have b2 : ((c0.toNat : Int) == 2) = false := u8_ne h2
        clear h1 h2
        go_wp2_with fail
        refine (must_no 2 _).mono ?_
        rintro e w' ⟨rfl, rfl⟩
        exact ⟨rfl, Hno.out _ (Fr.refl _ _)⟩
    · have hkb : (sub l 1 3 == [1, 6]) = true := by simpa using hk
      have Hk := Lib.hid hk
      clear hk
      rcases hkind with rfl | rfl | ⟨h1, h2⟩
      · go_wp2_with fail
        refine (aTake 236 p l _ hr16 hl63 4 (by omega)).mono ?_
        rintro e v17 ⟨rfl, hr17, f17⟩
        by_cases hck : sub l 236 240 = [99, 130, 83, 99]
        · have hckb : (sub l 236 (236 + 4) == [99, 130, 83, 99]) = true := by simpa using hck
          have Hck := Lib.hid hck
          clear hck
          go_wp2_with fail
          refine (must_yes 2 _).mono ?_
          rintro e w' ⟨rfl, rfl⟩
          go_wp2_with fail
          go_meet
          case rel => exact ⟨by simp, Hk.out, Hck.out, hr17, f17⟩
        · have hckb : (sub l 236 (236 + 4) == [99, 130, 83, 99]) = false := by simpa using hck
          have Hno : Hid (∀ w', Fr (oneB p) v16 w' → byPostW noB (DhcOk B l) (DhcBad l) p w (.panicked (faultC 2)) w') := Lib.hid (Hbad.out (by rintro ⟨_, _, h⟩; exact hck h))
          clear hck Hbad
          go_wp2_with fail
          refine (must_no 2 _).mono ?_
          rintro e w' ⟨rfl, rfl⟩
          exact ⟨rfl, Hno.out _ f17⟩
      · go_wp2_with fail
        refine (aTake 236 p l _ hr16 hl63 4 (by omega)).mono ?_
        rintro e v17 ⟨rfl, hr17, f17⟩
        by_cases hck : sub l 236 240 = [99, 130, 83, 99]
        · have hckb : (sub l 236 (236 + 4) == [99, 130, 83, 99]) = true := by simpa using hck
          have Hck := Lib.hid hck
          clear hck
          go_wp2_with fail
          refine (must_yes 2 _).mono ?_
          rintro e w' ⟨rfl, rfl⟩
          go_wp2_with fail
          go_meet
          case rel => exact ⟨by simp, Hk.out, Hck.out, hr17, f17⟩
        · have hckb : (sub l 236 (236 + 4) == [99, 130, 83, 99]) = false := by simpa using hck
          have Hno : Hid (∀ w', Fr (oneB p) v16 w' → byPostW noB (DhcOk B l) (DhcBad l) p w (.panicked (faultC 2)) w') := Lib.hid (Hbad.out (by rintro ⟨_, _, h⟩; exact hck h))
          clear hck Hbad
          go_wp2_with fail
          refine (must_no 2 _).mono ?_
          rintro e w' ⟨rfl, rfl⟩
          exact ⟨rfl, Hno.out _ f17⟩
      · have b1 : ((c0.toNat : Int) == 1) = false := u8_ne h1
        have b2 : ((c0.toNat : Int) == 2) = false := u8_ne h2
        have Hno : Hid (∀ w', Fr (oneB p) v16 w' → byPostW noB (DhcOk B l) (DhcBad l) p w (.panicked (faultC 2)) w') := Lib.hid (Hbad.out (by
          rintro ⟨h, _⟩
          rw [Hc0.out] at h
          rcases h with h | h
          · injection h with h; exact h1 h
          · injection h with h; exact h2 h))
        clear h1 h2 Hbad
        go_wp2_with fail
        refine (must_no 2 _).mono ?_
        rintro e w' ⟨rfl, rfl⟩
        exact ⟨rfl, Hno.out _ (Fr.refl _ _)⟩
  case rest =>
  obtain ⟨hcc, hck1, hck2, hrc, hfc⟩ := hcut
  have hspec : ¬ ¬ ((sub l 0 1 = [1] ∨ sub l 0 1 = [2]) ∧ sub l 1 3 = [1, 6] ∧ sub l 236 240 = [99, 130, 83, 99]) := by
    refine not_not_intro ⟨?_, hck1, hck2⟩
    rw [Hc0.out]
    rcases hcc with rfl | rfl
    · exact .inl rfl
    · exact .inr rfl
  have Hsp : Hid (readDHCP l = match optRd [] (l.drop 240) with
      | none => (dhc0, 1)
      | some os => match overs os (sub l 44 108) (sub l 108 236) with
        | (a, 0) => (⟨b, x, x1, x2, x3, mm, a⟩, 0)
        | (_, e + 1) => (dhc0, e + 1)) := Lib.hid (by
    unfold readDHCP
    rw [if_neg (by omega), if_neg hspec, ← Hx.out, ← Hx1.out, ← Hx2.out, ← Hx3.out, ← Hmm.out, ← Hb.out, Hc0.out]
    have e0 : (([c0] : List UInt8) == [2]) = ((c0.toNat : Int) == 2) := by
      by_cases h : c0 = 2
      · subst h; rfl
      · rw [show ((c0.toNat : Int) == 2) = false from u8_ne h]; simpa using h
    rw [e0]
    rfl)
  have hF0 := Hf0.out.trans hfc
  have hxc := Hx0.out.keep hfc (by unfold oneB; omega)
  have hmc := hm16.keep hfc (by unfold oneB; omega)
  clear hck1 hck2 hspec hcc Hbad hm16 Hx0 Hf0 Hc0 Hb Hx Hx1 Hx2 Hx3 Hmm hr16
  have hwl : w.heap.size ≤ wc.heap.size := hF0.size
  have hxl := hxc.lt
  have hml := hmc.lt
  have hrl := Bk.lt hrc
  have hL0 : LsA (wc.alloc (.cells #[.slice none 0 0] 191)) wc.heap.size (fromB wc.heap.size) [] :=
    ⟨Nat.le_refl _, none, 0, Bk.new _ _ _, ⟨rfl, .inl ⟨rfl, rfl⟩⟩, fun a h => by cases h⟩
  have hxa := hxc.alloc (.cells #[.slice none 0 0] 191)
  have hma := hmc.alloc (.cells #[.slice none 0 0] 191)
  have hra : Rd (wc.alloc (.cells #[.slice none 0 0] 191)) p (l.drop 240) := Bk.alloc hrc _
  have hFa := hF0.alloc (.cells #[.slice none 0 0] 191)
  have hsa : (wc.alloc (.cells #[.slice none 0 0] 191)).heap.size = wc.heap.size + 1 := by simp
  have Hsa := Lib.hid hsa
  clear hsa
  go_wp2_with fail
  obtain ⟨pl, hpl⟩ : ∃ pl, wc.heap.size = pl := ⟨_, rfl⟩
  rw [hpl] at hL0 hwl hxl hml hrl Hsa
  rw [hpl]
  clear hpl hmc hxc hrc hF0 hfc
  generalize wc.alloc (.cells #[.slice none 0 0] 191) = wd at *
  refine (dhcFrom pl (fromB pl) p [] (l.drop 240) wd hL0 hra (by unfold fromB; omega) (fun k hk => by unfold fromB; have := Hsa.out; omega) (by simp only [wtO, List.length_drop]; omega)).mono ?_
  rintro e we (⟨os1, r, h1, rfl, hL1, hR1, hw1, hf1⟩ | ⟨h1, rfl, hf1⟩)
  rotate_left
  · refine ⟨rfl, .inr ⟨1, ⟨0, rfl, by rw [Hsp.out, h1]⟩, rfl⟩, hFa.trans' hf1 ?_ |>.mono fun b _ e => .inl e⟩
    rintro b hb (e | e)
    · exact e
    · unfold fromB at e; omega
  have H1 := Lib.hid h1
  clear h1
  have hxe := hxa.keep hf1 (by rintro (e | e); omega; unfold fromB at e; omega)
  have hme := hma.keep hf1 (by rintro (e | e); omega; unfold fromB at e; omega)
  have hFe : Fr (oneB p) w we := hFa.trans' hf1 (by
    rintro b hb (e | e)
    · exact e
    · unfold fromB at e; omega)
  obtain ⟨hbp, A1, cap1, hB1, hO1, hAF1⟩ := hL1
  have hc1 := hB1.cells
  have hA1 : SlR we (fun k => k < pl) 2 A1 os1.length (optC os1) := own_slrS hO1 (fun a e => by have := hAF1 a e; unfold fromB at this; omega)
  have hel : pl < we.heap.size := hB1.lt
  go_wp2_with fail
  refine (dhcOver (fun k => k < pl) A1 cap1 os1 (sub l 44 (44 + 64)) (sub l 108 (108 + 128)) we hA1 (fun k hk => by omega) ?_).mono ?_
  · have a1 := sub_le l 44 (44 + 64)
    have a2 := sub_le l 108 (108 + 128)
    simp only [wtO, List.length_drop] at hw1
    omega
  rintro e wf ⟨⟨os2, A2, cap2, h2, rfl, hA2, hw2⟩ | ⟨k, h2, rfl⟩, hf2⟩
  rotate_left
  · refine ⟨rfl, .inr ⟨((k + 1 : Nat) : Int), ⟨k, rfl, ?_⟩, rfl⟩, (hFe.none hf2).mono fun b _ e => .inl e⟩
    rw [Hsp.out, H1.out]
    simp only [show (44 + 64 : Nat) = 108 from rfl, show (108 + 128 : Nat) = 236 from rfl] at h2
    obtain ⟨a, h3⟩ : ∃ a, overs os1 (sub l 44 108) (sub l 108 236) = (a, k + 1) := ⟨_, Prod.ext rfl h2⟩
    simp only [h3]
  have Hfin : Hid (readDHCP l = (⟨b, x, x1, x2, x3, mm, os2⟩, 0)) := Lib.hid (by
    rw [Hsp.out, H1.out]
    simp only [show (44 + 64 : Nat) = 108 from rfl, show (108 + 128 : Nat) = 236 from rfl] at h2
    simp only [h2])
  have hwt2 : wtO os2 ≤ l.length := by
    have a1 := sub_length l 44 (44 + 64) (by omega)
    have a2 := sub_length l 108 (108 + 128) (by omega)
    simp only [wtO, List.length_drop] at hw1
    omega
  clear h2 H1 Hsp
  have hxf := hxe.keep hf2 (fun x => x)
  have hmf := hme.keep hf2 (fun x => x)
  have hFf : Fr (oneB p) w wf := hFe.none hf2
  have hmc := hmf.cells
  have hmz := hmf.frees
  clear hxe hme hFe hf2
  have hmg : Bk (wf.setCell ⟨gm, 11, none⟩ (.slice A2 os2.length cap2)) gm 75 #[.bool b, .int .u32 (x : Int), .int .u32 (x1 : Int), .int .u32 (x2 : Int), .int .u32 (x3 : Int), .int .u8 (mm.1.toNat : Int), .int .u8 (mm.2.1.toNat : Int), .int .u8 (mm.2.2.1.toNat : Int), .int .u8 (mm.2.2.2.1.toNat : Int), .int .u8 (mm.2.2.2.2.1.toNat : Int), .int .u8 (mm.2.2.2.2.2.toNat : Int), .slice A2 os2.length cap2] := by simpa using hmf.set 11 (.slice A2 os2.length cap2)
  have hxg := hxf.far (p := ⟨gm, 11, none⟩) (by simp; omega) (.slice A2 os2.length cap2)
  have hAg : SlR (wf.setCell ⟨gm, 11, none⟩ (.slice A2 os2.length cap2)) (fun k => k < pl) 2 A2 os2.length (optC os2) := hA2.keep ((Fr.refl _ _).setCell (p := ⟨gm, 11, none⟩) (fun _ => by omega) _)
  have hFg : Fr (oneB p) w (wf.setCell ⟨gm, 11, none⟩ (.slice A2 os2.length cap2)) := hFf.setCell (p := ⟨gm, 11, none⟩) (fun h => absurd h (by simp; omega)) _
  have hlg : gm < (wf.setCell ⟨gm, 11, none⟩ (.slice A2 os2.length cap2)).heap.size := hmg.lt
  have hmgc := hmg.cells
  go_wp2_with ((refine wpList_store_bk rfl 75 (.tmp 3) (.tmp 70) rfl w.heap.size _ _ _ rfl rfl hxg rfl (by kernel_rfl) (by kernel_rfl) ?_); intro w9 hx9 hf9)
  have hcx := hx9.cells
  refine bodyPost_ret (v := Value.agg (dhcC ⟨b, x, x1, x2, x3, mm, os2⟩ A2 cap2)) (by simp [results, Tryz.results117, go_sem, hcx, dhcC]) rfl ?_
  refine ⟨.inl ⟨_, ⟨_, A2, cap2, rfl, Hfin.out, ?_, hwt2⟩, rfl⟩, (hFg.trans' hf9 (fun b hb e => by unfold oneB at e; omega)).mono fun b _ e => .inl e⟩
  exact (hAg.keep (hf9.mono fun b hb e => by unfold oneB at e; omega)).sub (fun b hb h => by omega)
end Go.Proofs.YtcbkaiakdhiloabGreatDoor
namespace Go.Proofs.YtcbkaiakdhiloabGreatDoor
open Go.RowKit Go.Proofs
attribute [local go_sem] bs_size bs_append bs_extract bs_toList
def dhcPost (l : List UInt8) (w : World) (e : Ending) (w' : World) : Prop :=
  (∃ A cap, e = .returned (.tuple #[.agg (dhcC (readDHCP l).1 A cap), .int .i64 ((readDHCP l).2 : Int)]) ∧ SlR w' (fun k => k < w.heap.size) 2 A (readDHCP l).1.os.length (optC (readDHCP l).1.os)) ∧ Fr noB w w'
theorem dhcC_size (d : DhcD) (A : Option Addr) (cap : Nat) : (dhcC d A cap).size = 12 := rfl
theorem dhcC_one (d : DhcD) (A : Option Addr) (cap : Nat) : (dhcC d A cap).all (·.oneCell') = true := by simp [dhcC, Value.oneCell']
theorem dhc_info (d : DhcD) (A : Option Addr) (cap : Nat) : (Tryz.prog.info? 75).map (·.size) = some (dhcC d A cap).size := by rw [dhcC_size]; kernel_rfl
theorem dhcpRead (l : List UInt8) (w : World) (hl : l.length ≤ 1099511000000) :
    Calls Tryz.prog 82 #[.string (bs l)] w (dhcPost l w) := by
  go_enter Tryz.func82, Tryz.ntmps82
  have hmf : ∀ (fn : Fn) (first cap : Array Value) (w : World), (Instr.makeFunc fn first cap).run Tryz.prog w = .ok (.func fn first cap) w := fun _ _ _ _ => rfl
  go_wp2_with fail
  have hs0 := (Bk.new w 9 #[.string (bs l)]).alloc (.cells zcDhc 75)
  have hx0 := Bk.new (w.alloc (.cells #[.string (bs l)] 9)) 75 zcDhc
  have hf0 : Fr noB w ((w.alloc (.cells #[.string (bs l)] 9)).alloc (.cells zcDhc 75)) := ((Fr.refl _ _).alloc _).alloc _
  have hsz : ((w.alloc (.cells #[.string (bs l)] 9)).alloc (.cells zcDhc 75)).heap.size = w.heap.size + 2 := by simp
  rw [show (w.alloc (.cells #[.string (bs l)] 9)).heap.size = w.heap.size + 1 by simp] at hx0
  unfold zcDhc at hs0 hx0 hf0 hsz
  generalize (w.alloc (.cells #[.string (bs l)] 9)).alloc (.cells #[.bool false, .int .u32 0, .int .u32 0, .int .u32 0, .int .u32 0, .int .u8 0, .int .u8 0, .int .u8 0, .int .u8 0, .int .u8 0, .int .u8 0, .slice none 0 0] 75) = w1 at *
  have Hsz := Lib.hid hsz
  clear hsz
  refine (readWDhc l w1 (.pointer (some ⟨w.heap.size, 0, none⟩)) noB (DhcOk (w1.heap.size + 2) l) (DhcBad l) (fun _ _ _ x => x) ?_ ?_ ?_).mono ?_
  · rintro x w2 ⟨d, A, cap, rfl, _⟩; exact ⟨_, rfl, rfl, dhcC_one d A cap⟩
  · rintro x w2 w3 ⟨d, A, cap, rfl, h1, h2, h3⟩ hf
    exact ⟨d, A, cap, rfl, h1, h2.keep (hf.mono fun b _ e => by rcases e with e | e <;> omega), h3⟩
  · rintro p w2 rfl hR hf
    exact dhcBy _ l hl _ w.heap.size w2 hR (hs0.keep hf (fun x => x)) (by have := Hsz.out; omega) (by have := Bk.lt hR; omega)
  rintro e w2 ⟨hcase, hf1⟩
  have hx1 := hx0.keep hf1 (fun x => x)
  have key : ∃ A cap, e = .returned (.tuple #[.agg (dhcC (readDHCP l).1 A cap), .int .i64 ((readDHCP l).2 : Int)]) ∧ SlR w2 (fun k => k < w.heap.size + 2) 2 A (readDHCP l).1.os.length (optC (readDHCP l).1.os) := by
    rcases hcase with ⟨x, ⟨d, A, cap, rfl, h1, h2, h3⟩, rfl⟩ | ⟨er, ⟨k, rfl, h1⟩, rfl⟩
    · rw [h1]; exact ⟨A, cap, rfl, h2.sub (fun b hb h => by have := Hsz.out; omega)⟩
    · rw [h1]; exact ⟨none, 0, rfl, SlR.nil⟩
  obtain ⟨A, cap, rfl, hA⟩ := key
  generalize hr : readDHCP l = r at *
  have Hr := Lib.hid hr
  clear hr hcase
  have hin := Lib.hid (dhc_info r.1 A cap)
  have hon := Lib.hid (dhcC_one r.1 A cap)
  have hsz := Lib.hid (dhcC_size r.1 A cap)
  generalize hc : dhcC r.1 A cap = c at *
  have Hc := Lib.hid hc
  clear hc
  go_wp2_with ((refine wpList_store_bk rfl 75 (.tmp 2) (.tmp 7) rfl (w.heap.size + 1) _ _ c rfl rfl hx1 hsz.out hin.out hon.out ?_); intro w9 hx9 hf9)
  refine bodyPost_ret (results_row_tmp Tryz.results82 _ w9 (w.heap.size + 1) _ c _ _ rfl rfl hx9 Tryz.underlying75 rfl hin.out) rfl ?_
  refine ⟨⟨A, cap, by rw [Hr.out, Hc.out]; rfl, ?_⟩, (hf0.none hf1).trans' hf9 (fun b hb e => by unfold oneB at e; omega)⟩
  rw [Hr.out]
  exact (hA.keep (hf9.mono fun b hb e => by unfold oneB at e; omega)).sub (fun b hb h => by omega)
end Go.Proofs.YtcbkaiakdhiloabGreatDoor
