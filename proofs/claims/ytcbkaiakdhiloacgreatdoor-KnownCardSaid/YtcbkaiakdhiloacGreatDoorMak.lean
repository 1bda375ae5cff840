/- Parts of the walk; written by programs, merged. -/
import Derived.Test.YtcbkaiakdhiloacGreatDoorMaj
import Derived.Lib.SlBytesRow
import Derived.Deep.CutBlock
set_option linter.unusedSimpArgs false
set_option linter.unusedVariables false
set_option maxRecDepth 20000
set_option maxHeartbeats 8000000
namespace Go.Proofs.YtcbkaiakdhiloacGreatDoor
open Go.RowKit Go.Proofs
attribute [local go_sem] bs_size bs_append bs_extract
theorem own_set {w : World} {base : Nat} {e : TypeId} {size n cap g j : Nat} {xs : List Value} {u : Value} (h : w.ownsRow base e size (.slice (some ⟨g, 0, none⟩) n cap) n xs) (hj : j < n * size) :
    (w.setCell ⟨g, j, none⟩ u).ownsRow base e size (.slice (some ⟨g, 0, none⟩) n cap) n (xs.set j u) := by
  obtain ⟨h1, ⟨h2, _⟩ | ⟨g', cap', cur, hv, hb, hg, hn, hm, hc, ht⟩⟩ := h
  · cases h2
  · cases hv
    refine ⟨by simpa using h1, .inr ⟨g, cap, cur.setIfInBounds j u, rfl, hb, Bk.set hg j u, hn, hm, by simpa using hc, ?_⟩⟩
    rw [Array.toList_setIfInBounds, List.take_set, ht]
theorem own_keep {w w' : World} {S : Nat → Prop} {base : Nat} {e : TypeId} {size n : Nat} {v : Value} {xs : List Value} (h : w.ownsRow base e size v n xs) (hf : Fr S w w') (hS : ∀ k, base ≤ k → ¬ S k) :
    w'.ownsRow base e size v n xs := by
  obtain ⟨h1, h2 | ⟨g', cap', cur, hv, hb, hg, hn, hm, hc, ht⟩⟩ := h
  · exact ⟨h1, .inl h2⟩
  · exact ⟨h1, .inr ⟨g', cap', cur, hv, hb, Bk.keep hg hf (hS g' hb), hn, hm, hc, ht⟩⟩
theorem own_far {w : World} {base : Nat} {e t : TypeId} {size n : Nat} {v : Value} {xs : List Value} {cs : Array Value} {p : Addr} (h : w.ownsRow base e size v n xs) (hp : Bk w p.block t cs) (ht : t ≠ e) (u : Value) :
    (w.setCell p u).ownsRow base e size v n xs := by
  obtain ⟨h1, h2 | ⟨g', cap', cur, hv, hb, hg, hn, hm, hc, ht'⟩⟩ := h
  · exact ⟨h1, .inl h2⟩
  · refine ⟨h1, .inr ⟨g', cap', cur, hv, hb, Bk.far hg (fun e1 => ?_) u, hn, hm, hc, ht'⟩⟩
    rw [← e1, Bk, hg] at hp
    injection hp with hp; injection hp with _ hp; exact ht hp.symm
theorem own_at {w : World} {base : Nat} {e : TypeId} {size n g cap j : Nat} {xs : List Value} {u : Value} (h : w.ownsRow base e size (.slice (some ⟨g, 0, none⟩) n cap) n xs) (hj : xs[j]? = some u) : w.cell? ⟨g, j, none⟩ = some u := by
  obtain ⟨h1, ⟨h2, _⟩ | ⟨g', cap', cur, hv, hb, hg, hn, hm, hc, ht⟩⟩ := h
  · cases h2
  · cases hv
    rw [Bk.cell hg j]
    have hl : j < xs.length := by
      rcases Nat.lt_or_ge j xs.length with h1 | h1
      · exact h1
      · rw [List.getElem?_eq_none h1] at hj; cases hj
    rw [← ht, List.getElem?_take, if_pos (by omega)] at hj
    simpa using hj
theorem own_free {w : World} {base : Nat} {e : TypeId} {size n g cap j : Nat} {xs : List Value} (h : w.ownsRow base e size (.slice (some ⟨g, 0, none⟩) n cap) n xs) : w.frozen? ⟨g, j, none⟩ = false := by
  obtain ⟨h1, ⟨h2, _⟩ | ⟨g', cap', cur, hv, hb, hg, hn, hm, hc, ht⟩⟩ := h
  · cases h2
  · cases hv; exact Bk.free hg j
theorem optC_one {os : List OptD} : ∀ u ∈ optC os, u.oneCell' = true := by
  induction os with
  | nil => intro u h; cases h
  | cons o r ih =>
    intro u h
    simp only [optC, List.mem_cons] at h
    rcases h with rfl | rfl | h
    · rfl
    · rfl
    · exact ih u h
theorem opt_info : (Tryz.prog.info? 66).map (fun i => (i.zero, i.size, i.bytes)) = some (some (.agg #[.int .u8 0, .string ⟨#[]⟩]), 2, 24) := by kernel_rfl
def LsA (w : World) (pl : Nat) (F : Nat → Prop) (os : List OptD) : Prop :=
  F pl ∧ ∃ A cap, Bk w pl 184 #[.slice A os.length cap] ∧ w.ownsRow 0 66 2 (.slice A os.length cap) os.length (optC os) ∧ ∀ a, A = some a → F a.block
theorem own_keepAt {w w' : World} {S : Nat → Prop} {base : Nat} {e : TypeId} {size n cap : Nat} {A : Option Addr} {xs : List Value} (h : w.ownsRow base e size (.slice A n cap) n xs) (hf : Fr S w w') (hS : ∀ a, A = some a → ¬ S a.block) :
    w'.ownsRow base e size (.slice A n cap) n xs := by
  obtain ⟨h1, h2 | ⟨g', cap', cur, hv, hb, hg, hn, hm, hc, ht⟩⟩ := h
  · exact ⟨h1, .inl h2⟩
  · cases hv
    exact ⟨h1, .inr ⟨g', cap, cur, rfl, hb, Bk.keep hg hf (hS _ rfl), hn, hm, hc, ht⟩⟩
theorem LsA.keep {w w' : World} {S F : Nat → Prop} {pl : Nat} {os : List OptD} (h : LsA w pl F os) (hf : Fr S w w') (hS : ∀ k, F k → ¬ S k) : LsA w' pl F os := by
  obtain ⟨h1, A, cap, h2, h3, h4⟩ := h
  exact ⟨h1, A, cap, h2.keep hf (hS pl h1), own_keepAt h3 hf (fun a e => hS _ (h4 a e)), h4⟩
theorem LsA.mono {w : World} {F F' : Nat → Prop} {pl : Nat} {os : List OptD} (h : LsA w pl F os) (hF : ∀ k, F k → F' k) : LsA w pl F' os := by
  obtain ⟨h1, A, cap, h2, h3, h4⟩ := h
  exact ⟨hF _ h1, A, cap, h2, h3, fun a e => hF _ (h4 a e)⟩
theorem own_blk {w : World} {base : Nat} {e : TypeId} {size n cap : Nat} {A : Option Addr} {xs : List Value} (h : w.ownsRow base e size (.slice A n cap) n xs) : ∀ a, A = some a → base ≤ a.block := by
  rintro a rfl
  obtain ⟨h1, ⟨h2, _⟩ | ⟨g', cap', cur, hv, hb, _⟩⟩ := h
  · cases h2
  · cases hv; exact hb
def wtO : List OptD → Nat
  | [] => 0
  | o :: r => o.data.length + 1 + wtO r
theorem wtO_len : ∀ os : List OptD, os.length ≤ wtO os
  | [] => Nat.le_refl _
  | o :: r => by have := wtO_len r; simp only [List.length_cons, wtO]; omega
theorem wtO_at : ∀ (os : List OptD) (k : Nat) (o : OptD), os[k]? = some o → o.data.length ≤ wtO os
  | [], _, _, h => by cases h
  | o :: r, 0, o', h => by cases h; simp only [wtO]; omega
  | o :: r, k + 1, o', h => by have := wtO_at r k o' h; simp only [wtO]; omega
theorem wtO_add : ∀ (os : List OptD) (c : UInt8) (d : List UInt8), wtO (optAdd os c d) ≤ wtO os + d.length + 1
  | [], c, d => by simp only [optAdd, wtO]; omega
  | o :: r, c, d => by
    simp only [optAdd]
    split
    · simp only [wtO, List.length_append]; omega
    · have := wtO_add r c d; simp only [wtO]; omega
theorem optC_set : ∀ (os : List OptD) (k : Nat) (o : OptD) (d : List UInt8), os[k]? = some o → (optC os).set (k * 2 + 1) (.string (bs d)) = optC (os.set k ⟨o.code, d⟩)
  | [], _, _, _, h => by cases h
  | o :: r, 0, o', d, h => by cases h; rfl
  | o :: r, k + 1, o', d, h => by
    rw [show (k + 1) * 2 + 1 = k * 2 + 1 + 1 + 1 by omega]
    simp only [optC, List.set_cons_succ]
    rw [optC_set r k o' d h]
theorem optAdd_at : ∀ (os : List OptD) (k : Nat) (o : OptD) (c : UInt8) (d : List UInt8), os[k]? = some o → o.code = c → (∀ j o', j < k → os[j]? = some o' → o'.code ≠ c) → optAdd os c d = os.set k ⟨o.code, o.data ++ d⟩
  | [], _, _, _, _, h, _, _ => by cases h
  | o :: r, 0, o', c, d, h, hc, _ => by cases h; simp only [optAdd, if_pos hc, List.set_cons_zero]
  | o :: r, k + 1, o', c, d, h, hc, hn => by
    simp only [optAdd, List.set_cons_succ]
    rw [if_neg (hn 0 o (by omega) rfl), optAdd_at r k o' c d h hc fun j o2 hj h2 => hn (j + 1) o2 (by omega) h2]
theorem optAdd_new : ∀ (os : List OptD) (c : UInt8) (d : List UInt8), (∀ j o', j < os.length → os[j]? = some o' → o'.code ≠ c) → optAdd os c d = os ++ [⟨c, d⟩]
  | [], c, d, _ => rfl
  | o :: r, c, d, hn => by
    simp only [optAdd, List.cons_append]
    rw [if_neg (hn 0 o (by simp) rfl), optAdd_new r c d fun j o2 hj h2 => hn (j + 1) o2 (by simpa using hj) h2]
theorem dhcAdd (pl : Nat) (F : Nat → Prop) (os : List OptD) (c : UInt8) (d : List UInt8) (w : World) (hL : LsA w pl F os) (hwt : wtO os + d.length + 1 ≤ 1099511627776) (hF : ∀ k, w.heap.size ≤ k → F k) :
    Calls Tryz.prog 152 #[.pointer (some ⟨pl, 0, none⟩), .int .u8 (c.toNat : Int), .string (bs d)] w fun e w' =>
      e = .returned (.tuple #[]) ∧ LsA w' pl F (optAdd os c d) ∧ Fr F w w' := by
  obtain ⟨hbp, A, cap, hB, hO, hAF⟩ := hL
  have HF := Lib.hid hF
  have HAF := Lib.hid hAF
  clear hF hAF
  have hlw := wtO_len os
  have hc0 := hB.cells
  have hf0 := hB.frees
  have hAp : ∀ a, A = some a → a.block ≠ pl := by
    rintro a rfl e
    obtain ⟨_, ⟨h2, _⟩ | ⟨g, _, cur, h2, _, hg, _⟩⟩ := hO
    · cases h2
    · cases h2
      rw [show g = pl from e, hB] at hg
      cases hg
  obtain ⟨i0, hi0, hz0, hz1, hz2⟩ := info_parts opt_info
  obtain ⟨n, hn⟩ : ∃ n, n = os.length := ⟨_, rfl⟩
  rw [← hn] at hc0 hB hO
  go_enter Tryz.func152, Tryz.ntmps152
  go_wp2_with fail
  go_loopw [11] (fun iv wr => ∃ (i : Nat), i ≤ n ∧ iv = .int .i64 (i : Int) ∧ (∀ j o', j < i → os[j]? = some o' → o'.code ≠ c) ∧ wr = w) (fun iv _ => n - (intOf iv).toNat)
  case atStart => exact ⟨0, by omega, rfl, fun j o' h => absurd h (by omega), rfl⟩
  case round =>
    obtain ⟨i, hi, rfl, ha, hw⟩ := hrel
    subst hw
    by_cases hlt : i < n
    · obtain ⟨o, ho⟩ : ∃ o, os[i]? = some o := ⟨_, List.getElem?_eq_getElem (by omega)⟩
      obtain ⟨g, rfl⟩ : ∃ g, A = some ⟨g, 0, none⟩ := by
        obtain ⟨A', cap', e, h1⟩ := own_slice hO
        cases e
        rcases h1 with rfl | ⟨g, rfl⟩
        · obtain ⟨_, ⟨h2, h3⟩ | ⟨g, _, _, h2, _⟩⟩ := hO
          · omega
          · cases h2
        · exact ⟨g, rfl⟩
      have c1 := own_at hO (optC_code os i o ho)
      have c2 := own_at hO (optC_data os i o ho)
      have f2 : ∀ x : Nat, wr.frozen? ⟨g, x, none⟩ = false := fun x => own_free hO
      have hol := wtO_at os i o ho
      have Ha := Lib.hid ha
      have Ho := Lib.hid ho
      clear ha ho
      by_cases he : o.code = c
      · subst he
        go_wp2_with fail
        refine bodyPost_ret (v := .tuple #[]) ?_ ?_ ?_
        · exact results_none rfl _ _ _
        · rfl
        rw [optAdd_at os i o o.code d Ho.out rfl Ha.out]
        refine ⟨rfl, ⟨hbp, some ⟨g, 0, none⟩, cap, ?_, ?_, HAF.out⟩, (Fr.refl _ _).setCell (fun _ => ?_) _⟩
        · rw [List.length_set, ← hn]; exact hB.far (p := ⟨g, i * 2 + 1, none⟩) (fun e => hAp _ rfl e.symm) _
        · rw [List.length_set, ← hn, ← optC_set os i o _ Ho.out]; exact own_set hO (by omega)
        · exact HAF.out ⟨g, 0, none⟩ rfl
      · have hbi : ¬ (o.code.toNat : Int) = (c.toNat : Int) := fun e => he (UInt8.toNat.inj (by omega))
        have H1 : Hid (∀ j o', j < i + 1 → os[j]? = some o' → o'.code ≠ c) := Lib.hid (by
          intro j o' hj h2
          rcases Nat.lt_or_ge j i with h3 | h3
          · exact Ha.out j o' h3 h2
          · obtain rfl : j = i := by omega
            rw [Ho.out] at h2; cases h2; exact he)
        clear Ha he
        go_wp2_with fail
        exact ⟨⟨i + 1, by omega, by rw [Int.natCast_add]; rfl, H1.out, trivial⟩, by simp only [intOf]; omega⟩
    · obtain rfl : i = n := by omega
      subst hn
      have H1 : Hid _ := Lib.hid (optAdd_new os c d ha)
      clear ha
      have hb2 := (hB.alloc (.cells #[.int .u8 (c.toNat : Int), .string (bs d)] 66))
      have hsr : SlR (wr.alloc (.cells #[.int .u8 (c.toNat : Int), .string (bs d)] 66)) noB 2 (some ⟨wr.heap.size, 0, none⟩) 1 (optC [⟨c, d⟩]) :=
        SlR.of_bk (n := 1) (size := 2) (S := noB) (Bk.new wr 66 #[.int .u8 (c.toNat : Int), .string (bs d)]) (fun x => x) rfl
      have hO2 : (wr.alloc (.cells #[.int .u8 (c.toNat : Int), .string (bs d)] 66)).ownsRow 0 66 2 (.slice A os.length cap) os.length (optC os) :=
        own_keep hO (((Fr.refl noB wr).alloc _)) (fun _ _ x => x)
      go_wp2_with (at_builtin
                   go_must (refine wpList_app rfl (.tmp 38) (.tmp 42) _ rfl 0 66 i0 _ 2 24 Tryz.underlying184 hi0 hz0 hz1 hz2 rfl (by omega) A _ _ _ rfl hO2 noB _ 1 1 _ rfl hsr optC_one (by unfold maxLen; omega) (by omega) (Nat.zero_le _) ?_)
                   intro A1 cap1 w1 hap
                   have hb3 := hb2.keep hap.fr (by rintro ⟨a, e, e2⟩; exact hAp a e e2)
                   have hc3 := hb3.cells
                   have hf3 := hb3.frees)
      refine bodyPost_end (results_none rfl _ _ _) rfl ?_
      rw [H1.out]
      refine ⟨rfl, ⟨hbp, A1, cap1, ?_, ?_, ?_⟩, ?_⟩
      · rw [List.length_append]; exact (by simpa using hb3.set 0 (.slice A1 (os.length + 1) cap1))
      · rw [List.length_append, optC_append]; exact own_far hap.own hb3 (by decide) _
      · intro a e
        rcases hap.at_ a e with h | ⟨a0, e0, h⟩
        · exact HF.out _ (by simp at h; omega)
        · rw [← h]; exact HAF.out _ e0
      · refine ((((Fr.refl noB wr).alloc _).of_no _).trans' hap.fr ?_).setCell (fun _ => hbp) _
        rintro b hb ⟨a, e, rfl⟩
        exact HAF.out a e
end Go.Proofs.YtcbkaiakdhiloacGreatDoor
namespace Go.Proofs.YtcbkaiakdhiloacGreatDoor
open Go.RowKit Go.Proofs
attribute [local go_sem] bs_size bs_append bs_extract
theorem own_slr {w : World} {base : Nat} {e : TypeId} {size n cap : Nat} {A : Option Addr} {xs : List Value} (h : w.ownsRow base e size (.slice A n cap) n xs) : SlR w noB size A n xs := by
  refine ⟨h.1, fun hn => ?_⟩
  obtain ⟨h1, ⟨h2, h3⟩ | ⟨g, cap', cur, hv, hb, hg, _⟩⟩ := id h
  · omega
  · cases hv
    exact ⟨_, rfl, Bk.lt hg, fun x => x, fun j u hu => by rw [addr_add, Nat.zero_add]; exact own_at h hu⟩
theorem own_slrS {w : World} {S : Nat → Prop} {base : Nat} {e : TypeId} {size n cap : Nat} {A : Option Addr} {xs : List Value} (h : w.ownsRow base e size (.slice A n cap) n xs) (hS : ∀ a, A = some a → ¬ S a.block) : SlR w S size A n xs := by
  have h1 := own_slr h
  refine ⟨h1.1, fun hn => ?_⟩
  obtain ⟨ad, e, hb, _, hc⟩ := h1.2 hn
  exact ⟨ad, e, hb, hS _ e, hc⟩
end Go.Proofs.YtcbkaiakdhiloacGreatDoor
namespace Go.Proofs.YtcbkaiakdhiloacGreatDoor
open Go.RowKit Go.Proofs
attribute [local go_sem] bs_size bs_append bs_extract bs_toList
theorem chunk_len : ∀ (k : Nat) (c : UInt8) (d : List UInt8), d.length ≤ k → (chunk c d).length ≤ 3 * d.length + 2
  | 0, c, d, h => by
    rw [chunk_small c d (by omega)]; simp; omega
  | k + 1, c, d, h => by
    rcases Nat.lt_or_ge 255 d.length with h1 | h1
    · rw [chunk_big c d h1]
      have := chunk_len k c (d.drop 255) (by rw [List.length_drop]; omega)
      rw [List.length_drop] at this
      simp [List.length_take]; omega
    · rw [chunk_small c d h1]; simp; omega
def optsB (os : List OptD) : List UInt8 := os.flatMap fun o => chunk o.code o.data
theorem optsB_len : ∀ os : List OptD, (optsB os).length ≤ 3 * wtO os
  | [] => Nat.le_refl _
  | o :: r => by
    have h1 := chunk_len o.data.length o.code o.data (Nat.le_refl _)
    have h2 := optsB_len r
    unfold optsB at h2 ⊢
    rw [List.flatMap_cons, List.length_append]
    simp only [wtO]; omega
theorem optsB_succ {os : List OptD} {i : Nat} {o : OptD} (h : os[i]? = some o) : optsB (os.take (i + 1)) = optsB (os.take i) ++ chunk o.code o.data := by
  have hi : i < os.length := by
    rcases Nat.lt_or_ge i os.length with h1 | h1
    · exact h1
    · rw [List.getElem?_eq_none h1] at h; cases h
  rw [List.getElem?_eq_getElem hi] at h
  cases h
  unfold optsB
  rw [List.take_succ_eq_append_getElem hi, List.flatMap_append]; simp
theorem wtO_take : ∀ (os : List OptD) (i : Nat), wtO (os.take i) ≤ wtO os
  | [], i => by simp
  | o :: r, 0 => Nat.zero_le _
  | o :: r, i + 1 => by have := wtO_take r i; simp only [List.take_succ_cons, wtO]; omega
theorem SlR.fresh {w : World} {S : Nat → Prop} {size n : Nat} {A : Option Addr} {xs : List Value} (h : SlR w S size A n xs) : SlR w (fun k => w.heap.size ≤ k) size A n xs :=
  ⟨h.1, fun hn => by
    obtain ⟨ad, e, hb, hS, hc⟩ := h.2 hn
    exact ⟨ad, e, hb, fun x => by omega, hc⟩⟩
def goodTo (os : List OptD) (i : Nat) : Prop := ∀ j o, j < i → os[j]? = some o → optBad o = false
theorem goodTo_any {os : List OptD} (h : goodTo os os.length) : os.any optBad = false := by
  rw [List.any_eq_false]
  intro o ho
  obtain ⟨j, hj, e⟩ := List.getElem_of_mem ho
  have := h j o hj (by rw [List.getElem?_eq_getElem hj, e])
  simp [this]
theorem dhcpWrite (rp : Bool) (xid client yours next : Nat) (m0 m1 m2 m3 m4 m5 : UInt8) (os : List OptD) (Ao : Option Addr) (cap : Nat) (w : World)
    (hxid : xid < 4294967296) (hcl : client < 4294967296) (hyo : yours < 4294967296) (hnx : next < 4294967296) (hA : SlR w noB 2 Ao os.length (optC os)) (hwt : wtO os ≤ 2097152) :
    Calls Tryz.prog 161 #[.agg #[.bool rp, .int .u32 (xid : Int), .int .u32 (client : Int), .int .u32 (yours : Int), .int .u32 (next : Int), .int .u8 (m0.toNat : Int), .int .u8 (m1.toNat : Int), .int .u8 (m2.toNat : Int), .int .u8 (m3.toNat : Int), .int .u8 (m4.toNat : Int), .int .u8 (m5.toNat : Int), .slice Ao os.length cap]] w (strPost (wrDHCP rp xid client yours next [m0, m1, m2, m3, m4, m5] os) w) := by
  have hpa := (Bk.new w 62 #[.bool rp, .int .u32 (xid : Int), .int .u32 (client : Int), .int .u32 (yours : Int), .int .u32 (next : Int), .int .u8 (m0.toNat : Int), .int .u8 (m1.toNat : Int), .int .u8 (m2.toNat : Int), .int .u8 (m3.toNat : Int), .int .u8 (m4.toNat : Int), .int .u8 (m5.toNat : Int), .slice Ao os.length cap]).alloc (.cells #[.slice none 0 0] 226)
  have hbw := Bk.new (w.alloc (.cells #[.bool rp, .int .u32 (xid : Int), .int .u32 (client : Int), .int .u32 (yours : Int), .int .u32 (next : Int), .int .u8 (m0.toNat : Int), .int .u8 (m1.toNat : Int), .int .u8 (m2.toNat : Int), .int .u8 (m3.toNat : Int), .int .u8 (m4.toNat : Int), .int .u8 (m5.toNat : Int), .slice Ao os.length cap] 62)) 226 #[.slice none 0 0]
  rw [show (w.alloc (.cells #[.bool rp, .int .u32 (xid : Int), .int .u32 (client : Int), .int .u32 (yours : Int), .int .u32 (next : Int), .int .u8 (m0.toNat : Int), .int .u8 (m1.toNat : Int), .int .u8 (m2.toNat : Int), .int .u8 (m3.toNat : Int), .int .u8 (m4.toNat : Int), .int .u8 (m5.toNat : Int), .slice Ao os.length cap] 62)).heap.size = w.heap.size + 1 by simp] at hbw
  have hpa0 := (Bk.new w 62 #[.bool rp, .int .u32 (xid : Int), .int .u32 (client : Int), .int .u32 (yours : Int), .int .u32 (next : Int), .int .u8 (m0.toNat : Int), .int .u8 (m1.toNat : Int), .int .u8 (m2.toNat : Int), .int .u8 (m3.toNat : Int), .int .u8 (m4.toNat : Int), .int .u8 (m5.toNat : Int), .slice Ao os.length cap]).cells
  obtain ⟨n, hn⟩ : ∃ n, os.length = n := ⟨_, rfl⟩
  rw [hn] at hA hpa hbw hpa0 ⊢
  go_enter Tryz.func161, Tryz.ntmps161
  go_upto_if 12 with fail
  go_cut [4] from 11 (fun s4 wx => s4 = .int .u8 ((if rp then (2 : UInt8) else 1).toNat : Int) ∧ wx = w.alloc (.cells #[.bool rp, .int .u32 (xid : Int), .int .u32 (client : Int), .int .u32 (yours : Int), .int .u32 (next : Int), .int .u8 (m0.toNat : Int), .int .u8 (m1.toNat : Int), .int .u8 (m2.toNat : Int), .int .u8 (m3.toNat : Int), .int .u8 (m4.toNat : Int), .int .u8 (m5.toNat : Int), .slice Ao n cap] 62))
  case first =>
    cases rp
    · go_wp2_with fail
      go_meet
      case rel => exact ⟨rfl, rfl⟩
    · go_wp2_with fail
      go_meet
      case rel => exact ⟨rfl, rfl⟩
  case rest =>
  obtain ⟨rfl, rfl⟩ := hcut
  clear hpa0
  go_upto_region 5 with fail
  have hf0 : Fr noB w ((w.alloc (.cells #[.bool rp, .int .u32 (xid : Int), .int .u32 (client : Int), .int .u32 (yours : Int), .int .u32 (next : Int), .int .u8 (m0.toNat : Int), .int .u8 (m1.toNat : Int), .int .u8 (m2.toNat : Int), .int .u8 (m3.toNat : Int), .int .u8 (m4.toNat : Int), .int .u8 (m5.toNat : Int), .slice Ao n cap] 62)).alloc (.cells #[.slice none 0 0] 226)) := ((Fr.refl _ _).alloc _).alloc _
  have hsz : ((w.alloc (.cells #[.bool rp, .int .u32 (xid : Int), .int .u32 (client : Int), .int .u32 (yours : Int), .int .u32 (next : Int), .int .u8 (m0.toNat : Int), .int .u8 (m1.toNat : Int), .int .u8 (m2.toNat : Int), .int .u8 (m3.toNat : Int), .int .u8 (m4.toNat : Int), .int .u8 (m5.toNat : Int), .slice Ao n cap] 62)).alloc (.cells #[.slice none 0 0] 226)).heap.size = w.heap.size + 2 := by simp
  have hA1 := hA.keep hf0
  generalize (w.alloc (.cells #[.bool rp, .int .u32 (xid : Int), .int .u32 (client : Int), .int .u32 (yours : Int), .int .u32 (next : Int), .int .u8 (m0.toNat : Int), .int .u8 (m1.toNat : Int), .int .u8 (m2.toNat : Int), .int .u8 (m3.toNat : Int), .int .u8 (m4.toNat : Int), .int .u8 (m5.toNat : Int), .slice Ao n cap] 62)).alloc (.cells #[.slice none 0 0] 226) = w1 at *
  have hwr0 := Chn.start0 (Wr.zero hbw) rfl
  refine wp_at (c := regionOf Tryz.f161 5) (by kernel_rfl) (dwR5 w.heap.size rp xid client yours next n cap Ao m0 m1 m2 m3 m4 m5 (if rp then 2 else 1) w1 (w.heap.size + 1) w1.heap.size none [] _ _ _ ⟨rfl, rfl⟩ rfl rfl rfl hpa (by omega) hxid hcl hyo hnx hwr0 (by simp) ?_)
  intro a5 w5 A5 hs5 kp5 hch5
  obtain ⟨l5, hl5⟩ : ∃ l, ([] ++ [(if rp then (2 : UInt8) else 1), 1, 6, 0] ++ big 4 (xid : Int).toNat ++ bigs 2 [0] : List UInt8) = l := ⟨_, rfl⟩
  rw [hl5] at hch5
  have hn5 : l5.length = 10 := by rw [← hl5]; simp [big_length, bigs_length]
  have Hl5 := Lib.hid hl5
  clear hl5 hwr0 hbw
  have hp5 : w1.heap.size = w.heap.size + 2 := hsz
  have Hsz := Lib.hid hsz
  clear hsz hp5
  have e1 : sl a5 1 = .pointer (some ⟨w.heap.size, 0, none⟩) := kp5 1 (by decide)
  have e2 : sl a5 2 = .string ⟨#[]⟩ := kp5 2 (by decide)
  have e3 : sl a5 3 = .int .i64 0 := kp5 3 (by decide)
  have e5 : sl a5 5 = .pointer (some ⟨w.heap.size + 1, 0, none⟩) := kp5 5 (by decide)
  rw [dwF_of hs5]
  simp only [dwF, e1, e2, e3, e5]
  clear kp5 hs5 e1 e2 e3 e5
  generalize sl a5 = z
  have hc5 := (hpa.keep hch5.fr (by unfold oneB; omega)).cells
  go_upto_if 26 with fail
  clear hc5
  go_cut [] from 11 (fun wx => ∃ A, Chn w1 (w.heap.size + 1) w1.heap.size A (l5 ++ (if client = 0 then [128, 0] else [0, 0])) wx)
  case first =>
    rename_i J K' hJ hK'
    by_cases hc : client = 0
    · have hci : (client : Int) = 0 := by omega
      rw [if_pos hc] at hJ
      clear hc
      go_upto_region 7 with fail
      refine wp_at (c := regionOf Tryz.f161 7) (by kernel_rfl) (dwR7 w1 (w.heap.size + 1) w1.heap.size A5 l5 _ _ _ ⟨rfl, rfl⟩ rfl hch5 (by omega) ?_)
      intro a6 w6 A6 hs6 kp6 hch6
      refine hK' _ _ (Met.intro (hJ _ _ ?_))
      rw [dwF_of hs6]
      simp only [dwF, kp6 0 (by decide), kp6 1 (by decide), kp6 2 (by decide), kp6 3 (by decide), kp6 4 (by decide), kp6 5 (by decide), kp6 6 (by decide), kp6 7 (by decide), kp6 8 (by decide), kp6 9 (by decide), kp6 10 (by decide)]
      repeat apply Exists.intro
      exact ⟨⟨A6, hch6⟩, rfl⟩
    · have hci : ¬ (client : Int) = 0 := by omega
      rw [if_neg hc] at hJ
      clear hc
      go_upto_region 8 with fail
      refine wp_at (c := regionOf Tryz.f161 8) (by kernel_rfl) (dwR8 w1 (w.heap.size + 1) w1.heap.size A5 l5 _ _ _ ⟨rfl, rfl⟩ rfl hch5 (by omega) ?_)
      intro a6 w6 A6 hs6 kp6 hch6
      refine hK' _ _ (Met.intro (hJ _ _ ?_))
      rw [dwF_of hs6]
      simp only [dwF, kp6 0 (by decide), kp6 1 (by decide), kp6 2 (by decide), kp6 3 (by decide), kp6 4 (by decide), kp6 5 (by decide), kp6 6 (by decide), kp6 7 (by decide), kp6 8 (by decide), kp6 9 (by decide), kp6 10 (by decide)]
      repeat apply Exists.intro
      exact ⟨⟨A6, hch6⟩, rfl⟩
  case rest =>
  obtain ⟨A6, hch6⟩ := hcut
  rename_i w6
  go_upto_region 9 with fail
  refine wp_at (c := regionOf Tryz.f161 9) (by kernel_rfl) (dwR9 w.heap.size rp xid client yours next n cap Ao m0 m1 m2 m3 m4 m5 w1 (w.heap.size + 1) w1.heap.size A6 _ _ _ _ ⟨rfl, rfl⟩ rfl rfl hpa (by omega) hxid hcl hyo hnx hch6 (by simp only [List.length_append, hn5]; split <;> simp) ?_)
  intro a9 w9 A9 hs9 kp9 hch9
  have hhead : (l5 ++ (if client = 0 then [128, 0] else [0, 0]) ++ bigs 4 [(client : Int), (yours : Int), (next : Int), 0] ++ List.flatMap macB [(m0, m1, m2, m3, m4, m5)] ++
      List.replicate (236 - List.length (α := UInt8) (l5 ++ (if client = 0 then [128, 0] else [0, 0]) ++ bigs 4 [(client : Int), (yours : Int), (next : Int), 0] ++ List.flatMap macB [(m0, m1, m2, m3, m4, m5)])) (0 : UInt8) ++ List.flatten [[99, 130, 83, 99]]) = dhcHead rp xid client yours next [m0, m1, m2, m3, m4, m5] := by
    rw [← Hl5.out]
    unfold dhcHead zeroTo
    have e0 : ([] ++ [(if rp then (2 : UInt8) else 1), 1, 6, 0] ++ big 4 (xid : Int).toNat ++ bigs 2 [0] ++ (if client = 0 then [128, 0] else [0, 0]) ++ bigs 4 [(client : Int), (yours : Int), (next : Int), 0] ++ List.flatMap macB [(m0, m1, m2, m3, m4, m5)] : List UInt8) =
      [if rp then 2 else 1, 1, 6, 0] ++ big 4 xid ++ [0, 0] ++ (if client = 0 then [128, 0] else [0, 0]) ++ big 4 client ++ big 4 yours ++ big 4 next ++ big 4 0 ++ [m0, m1, m2, m3, m4, m5] := by
      simp [bigs, macB, big]
    rw [e0]
    simp
  rw [hhead] at hch9
  obtain ⟨l9, hl9⟩ : ∃ l, dhcHead rp xid client yours next [m0, m1, m2, m3, m4, m5] = l := ⟨_, rfl⟩
  have hn9 : l9.length = 240 := by rw [← hl9]; exact dhcHead_length _ _ _ _ _ _ rfl
  rw [hl9] at hch9
  have Hl9 := Lib.hid hl9
  clear hl9 hhead hch6 Hl5 hn5
  have e1 : sl a9 1 = .pointer (some ⟨w.heap.size, 0, none⟩) := kp9 1 (by decide)
  have e2 : sl a9 2 = .string ⟨#[]⟩ := kp9 2 (by decide)
  have e3 : sl a9 3 = .int .i64 0 := kp9 3 (by decide)
  have e5 : sl a9 5 = .pointer (some ⟨w.heap.size + 1, 0, none⟩) := kp9 5 (by decide)
  rw [dwF_of hs9]
  simp only [dwF, e1, e2, e3, e5]
  clear kp9 hs9 e1 e2 e3 e5
  generalize sl a9 = z
  have hc9 := (hpa.keep hch9.fr (by unfold oneB; omega)).cells
  go_wp2_with fail
  have hlw := wtO_len os
  have hAf : SlR w1 (fun k => w.heap.size ≤ k) 2 Ao n (optC os) := hA.fresh.keep (hf0.of_no _)
  go_loopw [52] (fun iv wr => ∃ (i : Nat) (A : Option Addr), i ≤ n ∧ iv = .int .i64 (i : Int) ∧ Chn w1 (w.heap.size + 1) w1.heap.size A (l9 ++ optsB (os.take i)) wr ∧ goodTo os i) (fun iv _ => n - (intOf iv).toNat)
  case atStart => exact ⟨0, A9, by omega, rfl, by simpa [optsB] using hch9, fun j o h => absurd h (by omega)⟩
  case round =>
    obtain ⟨i, A, hi, rfl, hch, hgood⟩ := hrel
    have hbl : (l9 ++ optsB (os.take i)).length ≤ 20000000 := by
      have h1 := optsB_len (os.take i)
      have h2 := wtO_take os i
      rw [List.length_append]; omega
    by_cases hlt : i < n
    · obtain ⟨o, ho⟩ : ∃ o, os[i]? = some o := ⟨_, List.getElem?_eq_getElem (by omega)⟩
      obtain ⟨ad, rfl, c1, c2⟩ := (hAf.keep (hch.fr.mono (by rintro b _ rfl; omega))).optAt ho
      have hol := wtO_at os i o ho
      have hxo := AlS.beside hch 66 #[.int .u8 (o.code.toNat : Int), .string (bs o.data)]
      have hch2 := hch.alloc (.cells #[.int .u8 (o.code.toNat : Int), .string (bs o.data)] 66)
      have Ho := Lib.hid ho
      have Hgood := Lib.hid hgood
      have Hch2 := Lib.hid hch2
      have Hxo := Lib.hid hxo
      clear ho hgood hch2 hxo hc9
      have hfb : Fr noB w (wr.alloc (.cells #[.int .u8 (o.code.toNat : Int), .string (bs o.data)] 66)) := (hf0.trans' hch.fr (by rintro b hb rfl; omega)).alloc _
      have hbadP : optBad o = true → wrDHCP rp xid client yours next [m0, m1, m2, m3, m4, m5] os = ([], 2) := by
        intro hb; unfold wrDHCP; rw [if_pos (List.any_eq_true.2 ⟨o, List.mem_of_getElem? Ho.out, hb⟩)]
      have HbadP := Lib.hid hbadP
      clear hbadP
      have hk : o.code = 0 ∨ o.code = 255 ∨ o.code = 52 ∨ (o.code ≠ 0 ∧ o.code ≠ 255 ∧ o.code ≠ 52) := by
        by_cases h1 : o.code = 0
        · exact .inl h1
        · by_cases h2 : o.code = 255
          · exact .inr (.inl h2)
          · by_cases h3 : o.code = 52
            · exact .inr (.inr (.inl h3))
            · exact .inr (.inr (.inr ⟨h1, h2, h3⟩))
      rcases hk with hk | hk | hk | ⟨k1, k2, k3⟩
      · have hki : (o.code.toNat : Int) = 0 := by rw [hk]; decide
        have Hno := Lib.hid (HbadP.out (by unfold optBad; rw [hk]; decide))
        rw [hki] at hfb
        clear hk HbadP Hxo Hch2
        go_wp2_with fail
        go_ret2
        exact ⟨by rw [Hno.out]; rfl, hfb⟩
      · have hki : (o.code.toNat : Int) = 255 := by rw [hk]; decide
        have Hno := Lib.hid (HbadP.out (by unfold optBad; rw [hk]; decide))
        rw [hki] at hfb
        clear hk HbadP Hxo Hch2
        go_wp2_with fail
        go_ret2
        exact ⟨by rw [Hno.out]; rfl, hfb⟩
      · have hki : (o.code.toNat : Int) = 52 := by rw [hk]; decide
        have Hno := Lib.hid (HbadP.out (by unfold optBad; rw [hk]; decide))
        rw [hki] at hfb
        clear hk HbadP Hxo Hch2
        go_wp2_with fail
        go_ret2
        exact ⟨by rw [Hno.out]; rfl, hfb⟩
      · have k1i : ((o.code.toNat : Int) == 0) = false := u8_ne k1
        have k2i : ((o.code.toNat : Int) == 255) = false := u8_ne k2
        have k3i : ((o.code.toNat : Int) == 52) = false := u8_ne k3
        have Hg1 : Hid (goodTo os (i + 1)) := Lib.hid (by
          intro j o' hj h2
          rcases Nat.lt_or_ge j i with h3 | h3
          · exact Hgood.out j o' h3 h2
          · obtain rfl : j = i := by omega
            rw [Ho.out] at h2; cases h2
            unfold optBad; simp [k1, k2, k3])
        clear k1 k2 k3 HbadP hfb
        go_wp2_with fail
        obtain ⟨go, hgo⟩ : ∃ go, wr.heap.size = go := ⟨_, rfl⟩
        rw [hgo] at Hxo
        rw [hgo]
        obtain ⟨w4, hw4⟩ : ∃ w4, wr.alloc (.cells #[.int .u8 (o.code.toNat : Int), .string (bs o.data)] 66) = w4 := ⟨_, rfl⟩
        rw [hw4] at Hch2 Hxo
        rw [hw4]
        have hch4 := Hch2.out
        have hxo4 := Hxo.out
        clear hgo hw4 Hch2 Hxo c1 c2 hch
        obtain ⟨lb, hlb⟩ : ∃ lb, l9 ++ optsB (os.take i) = lb := ⟨_, rfl⟩
        rw [hlb] at hch4 hbl
        have Hlb := Lib.hid hlb
        clear hlb
        have hcl := chunk_len o.data.length o.code o.data (Nat.le_refl _)
        go_loopw [8] (fun dv wx => ∃ (d l : List UInt8) (A' : Option Addr), dv = .string (bs d) ∧ Chn w1 (w.heap.size + 1) w1.heap.size A' l wx ∧ AlS true (.slice (some ⟨go, 0, none⟩) 0 0) 0 66 #[.int .u8 (o.code.toNat : Int), .string (bs o.data)] w1.heap.size A' wx ∧
            l ++ chunk o.code d = lb ++ chunk o.code o.data ∧ d.length ≤ o.data.length) (fun dv _ => match dv with | .string s => s.size | _ => 0)
        case atStart => exact ⟨o.data, lb, A, rfl, hch4, hxo4, rfl, Nat.le_refl _⟩
        case round =>
          obtain ⟨d, l, A', rfl, hchd, hxd, hld, hdl⟩ := hrel
          have hll : l.length ≤ 30000000 := by
            have h1 := congrArg List.length hld
            rw [List.length_append, List.length_append] at h1
            omega
          rcases Nat.lt_or_ge 255 d.length with h255 | h255
          · have hmin : min (d.length : Int) 255 = ((255 : Nat) : Int) := by omega
            have hne : (d.drop 255 == []) = false := by rw [beq_eq_false_iff_ne]; intro h; have := congrArg List.length h; simp at this; omega
            go_upto_region 17 with fail
            refine wp_at (c := regionOf Tryz.f161 17) (by kernel_rfl) (dwR17 go 255 o.code o.data d w1 (w.heap.size + 1) w1.heap.size A' l _ _ _ ⟨rfl, rfl⟩ rfl rfl rfl rfl (by omega) (by omega) (by omega) hxd hchd (by omega) ?_)
            intro a17 w17 A17 hs17 kp17 hch17 hx17
            rw [kp17.eq_put (n := 101) [74, 75, 76, 77, 78, 79, 80, 81, 82, 83, 84, 85] ⟨rfl, rfl⟩ hs17 (by decide) (by decide)]
            simp only [List.foldl, Act.put, List.setIfInBounds_toArray, List.set_cons_succ, List.set_cons_zero]
            generalize sl a17 = z17
            go_wp2_with fail
            refine ⟨⟨d.drop 255, _, A17, rfl, hch17, hx17, ?_, by rw [List.length_drop]; omega⟩, by simp [bs_size]; omega⟩
            rw [← hld, chunk_big o.code d h255]
            simp
          · have hmin : min (d.length : Int) 255 = (d.length : Int) := by omega
            have hne : (d.drop d.length == []) = true := by rw [List.drop_length]; rfl
            go_upto_region 17 with fail
            refine wp_at (c := regionOf Tryz.f161 17) (by kernel_rfl) (dwR17 go d.length o.code o.data d w1 (w.heap.size + 1) w1.heap.size A' l _ _ _ ⟨rfl, rfl⟩ rfl rfl rfl rfl (by omega) (by omega) (by omega) hxd hchd (by omega) ?_)
            intro a17 w17 A17 hs17 kp17 hch17 hx17
            rw [kp17.eq_put (n := 101) [74, 75, 76, 77, 78, 79, 80, 81, 82, 83, 84, 85] ⟨rfl, rfl⟩ hs17 (by decide) (by decide)]
            simp only [List.foldl, Act.put, List.setIfInBounds_toArray, List.set_cons_succ, List.set_cons_zero]
            generalize sl a17 = z17
            go_wp2_with fail
            refine ⟨⟨i + 1, A17, by omega, by rw [Int.natCast_add]; rfl, ?_, Hg1.out⟩, by simp only [intOf]; omega⟩
            have e : l9 ++ optsB (os.take (i + 1)) = l ++ [o.code, UInt8.ofNat d.length] ++ List.flatten [List.take d.length d] := by
              rw [optsB_succ Ho.out, ← List.append_assoc, Hlb.out, ← hld, chunk_small o.code d h255]
              simp
            rw [e]
            exact hch17
    · obtain rfl : i = n := by omega
      rw [List.take_of_length_le (by omega)] at hch hbl
      have hg : os.any optBad = false := goodTo_any (by rw [hn]; exact hgood)
      have Hg := Lib.hid hg
      clear hg hgood
      go_upto_region 21 with fail
      refine wp_at (c := regionOf Tryz.f161 21) (by kernel_rfl) (dwR21 w1 (w.heap.size + 1) w1.heap.size A _ _ _ _ ⟨rfl, rfl⟩ rfl hch (by omega) ?_)
      intro a21 w21 A21 hs21 kp21 ho10 hch21
      obtain ⟨lf, hlf⟩ : ∃ lf, dhcBody (dhcHead rp xid client yours next [m0, m1, m2, m3, m4, m5]) os = lf := ⟨_, rfl⟩
      have e10 : sl a21 10 = .string (bs lf) := by
        rw [ho10, ← hlf, Hl9.out]
        unfold dhcBody zeroTo optsB
        rfl
      have hsp : wrDHCP rp xid client yours next [m0, m1, m2, m3, m4, m5] os = if 1472 < lf.length then ([], 7) else (lf, 0) := by
        unfold wrDHCP
        rw [Hg.out, hlf]
        rfl
      have Hsp := Lib.hid hsp
      have hfr : Fr noB w w21 := hf0.trans' hch21.fr (by rintro b hb rfl; omega)
      clear hlf ho10 hsp
      rw [kp21.eq_put (n := 101) [92, 93, 94, 95, 96, 10] ⟨rfl, rfl⟩ hs21 (by decide) (by decide)]
      simp only [List.foldl, Act.put, List.setIfInBounds_toArray, List.set_cons_succ, List.set_cons_zero, e10]
      generalize sl a21 = z21
      by_cases hlen : 1472 < lf.length
      · have hli : (1472 : Int) < (lf.length : Int) := by omega
        have Hr : Hid (wrDHCP rp xid client yours next [m0, m1, m2, m3, m4, m5] os = ([], 7)) := Lib.hid (by rw [Hsp.out, if_pos hlen])
        clear hlen
        go_wp2_with fail
        go_ret2
        exact ⟨by rw [Hr.out]; rfl, hfr⟩
      · have hli : ¬ (1472 : Int) < (lf.length : Int) := by omega
        have Hr : Hid (wrDHCP rp xid client yours next [m0, m1, m2, m3, m4, m5] os = (lf, 0)) := Lib.hid (by rw [Hsp.out, if_neg hlen])
        clear hlen
        go_wp2_with fail
        go_ret2
        exact ⟨by rw [Hr.out]; rfl, hfr⟩
end Go.Proofs.YtcbkaiakdhiloacGreatDoor
namespace Go.Proofs.YtcbkaiakdhiloacGreatDoor
open Go.RowKit Go.Proofs
theorem conv_one {P : Program} (w : World) (src dst e : TypeId) (g : Nat) (c : UInt8) (hs : P.underlying src = some (.slice e)) (he : P.underlying e = some (.int .u8)) (hd : P.underlying dst = some .string) (hc : w.cell? ⟨g, 0, none⟩ = some (.int .u8 (c.toNat : Int))) :
    (convert src dst (.slice (some ⟨g, 0, none⟩) 1 1)).run P w = .ok (.string (bs [c])) w :=
  Lib.run_convert_whole w src e dst hs he hd g 0 (bs [c]) (fun i h => by
    have h1 : i < 1 := h
    obtain rfl : i = 0 := by omega
    exact hc) 1
end Go.Proofs.YtcbkaiakdhiloacGreatDoor
namespace Go.Proofs.YtcbkaiakdhiloacGreatDoor
open Go.RowKit Go.Proofs
attribute [local go_sem] bs_size bs_append bs_extract bs_toList
theorem wrDHCP_len (rp : Bool) (a b c d : Nat) (m : List UInt8) (os : List OptD) : (wrDHCP rp a b c d m os).1.length ≤ 1472 := by
  unfold wrDHCP
  split
  · simp
  · split
    · simp
    · simp only []; omega
theorem optC_app : ∀ a b : List OptD, optC (a ++ b) = optC a ++ optC b
  | [], b => rfl
  | o :: r, b => by simp only [List.cons_append, optC, optC_app r b]
theorem own_ne {w : World} {base : Nat} {e t : TypeId} {size n cap p : Nat} {A : Option Addr} {xs : List Value} {cs : Array Value} (h : w.ownsRow base e size (.slice A n cap) n xs) (hp : Bk w p t cs) (ht : t ≠ e) : ∀ a, A = some a → p ≠ a.block := by
  rintro a rfl rfl
  obtain ⟨_, ⟨h2, _⟩ | ⟨g', cap', cur, hv, hb, hg, _⟩⟩ := h
  · cases h2
  · cases hv
    rw [Bk, hg] at hp
    cases hp
    exact ht rfl
theorem wtO_app : ∀ (a b : List OptD), wtO (a ++ b) = wtO a + wtO b
  | [], b => by simp [wtO]
  | o :: r, b => by simp only [List.cons_append, wtO, wtO_app r b]; omega
theorem bootSayL0 (L : Lay) (s : St) (kind : UInt8) (os : List OptD) (A : Option Addr) (cap n : Nat) (w : World) (h : BootAt w L s) (hn : os.length = n) (hA : SlR w noB 2 A n (optC os)) (hwt : wtO os ≤ 1000) :
    Calls Tryz.prog 136 #[.pointer (some ⟨L.p, 0, none⟩), .int .u8 (kind.toNat : Int), .bool false, .slice A n cap] w (LPost L (s.say kind false os) (.tuple #[]) w) := by
  obtain ⟨mb, hmb⟩ : ∃ mb, (wrDHCP false s.xid s.address 0 0 [s.c.card.1, s.c.card.2.1, s.c.card.2.2.1, s.c.card.2.2.2.1, s.c.card.2.2.2.2.1, s.c.card.2.2.2.2.2] (St.msgO kind os)).1 = mb := ⟨_, rfl⟩
  have hmbl : mb.length ≤ 1472 := by rw [← hmb]; exact wrDHCP_len _ _ _ _ _ _ _
  have hsay : s.say kind false os = s.took.send (255, 255, 255, 255, 255, 255) 2048 (s.packet 4294967295 68 67 mb) := by rw [← hmb]; rfl
  have hadr : s.address < 4294967296 := by unfold St.address; split; exact h.ok.addr; omega
  have hnw : n ≤ 1000 := by have := wtO_len os; omega
  have Hn := Lib.hid hn
  have Hmb := Lib.hid hmb
  have Hsay := Lib.hid hsay
  clear hmb hsay hn
  go_enter Tryz.func136, Tryz.ntmps136
  go_upto_region 0 with fail
  go_cut [8] from 11 to 23 (fun v wx => ∃ g, v = .pointer (some ⟨g, 0, none⟩) ∧ w.heap.size ≤ g ∧ Bk wx g 62 #[.bool false, .int .u32 (s.xid : Int), .int .u32 (s.address : Int), .int .u32 0, .int .u32 0, .int .u8 (s.c.card.1.toNat : Int), .int .u8 (s.c.card.2.1.toNat : Int), .int .u8 (s.c.card.2.2.1.toNat : Int), .int .u8 (s.c.card.2.2.2.1.toNat : Int), .int .u8 (s.c.card.2.2.2.2.1.toNat : Int), .int .u8 (s.c.card.2.2.2.2.2.toNat : Int), .slice none 0 0] ∧ Fr noB w wx)
  case first =>
    refine wp_region_pls (by kernel_rfl) (fun w' => BootAt w' L s ∧ SlR w' noB 2 A n (optC os) ∧ Fr noB w w') [14] (.p 0 (.p 1 (.p 2 (.p 3 (.p 5 (.p 7 (.p 8 (.p 9 (.p 10 (.q 4 (.q 11 (.e2 6 (.p 12 (.e 13 (.e 14 (.nil)))) 13 (.e 6 (.p 12 (.e 14 (.nil)))))))))))))))) (by kernel_rfl) (⟨h.drew, hA.keep (Fr.refl _ _).drew, (Fr.refl _ _).drew⟩) ?_
    intro ops Q' hO hQ' wr1 hR1
    iterate 9 (refine pl_p0 hO rfl rfl ?_ (fun w' => ?_) ?_; rotate_left 1; (focus (go_simp; ((try with_reducible rfl); done))); simp only [Act.put, List.setIfInBounds_toArray, List.set_cons_zero, List.set_cons_succ])
    iterate 2 (refine pl_q0 hO rfl rfl ?_ (fun w' hS => ?_) ?_; rotate_left 1; (focus (obtain ⟨hB, hA', hF⟩ := hS; have c0 := hB.g0; have c1 := hB.g1; have c2 := hB.g2; have c3 := hB.g3; have c4 := hB.g4; have c5 := hB.g5; have c22 := hB.g22; go_simp; ((try with_reducible rfl); done))); simp only [Act.put, List.setIfInBounds_toArray, List.set_cons_zero, List.set_cons_succ])
    refine pl_e2 ?_ ?_
    · skip
      refine pl_e0 hO rfl rfl rfl (fun K hK => ?_)
      go_simp
      refine (bootAddress L s _ hR1.1).mono ?_
      rintro e w2 ⟨rfl, h2⟩
      subst h2
      refine hK _ _ (hR1) (fun hR_6 => ?_)
      clear hK K
      refine pl_p0 hO rfl rfl ?_ (fun w' => ?_) ?_; rotate_left 1; (focus (go_simp; ((try with_reducible rfl); done))); simp only [Act.put, List.setIfInBounds_toArray, List.set_cons_zero, List.set_cons_succ]
      refine pl_e0 hO rfl rfl rfl (fun K hK => ?_)
      go_simp
      refine hK _ _ (⟨hR_6.1.none ((Fr.refl _ _).alloc _), hR_6.2.1.keep ((Fr.refl _ _).alloc _), hR_6.2.2.none ((Fr.refl _ _).alloc _)⟩) (fun hR_13 => ?_)
      clear hK K
      refine pl_b0 hO rfl rfl rfl (fun K hK => ?_)
      refine wp_store_bk 62 (.tmp 8) (.tmp 23) rfl wr1.heap.size _ _ #[.bool false, .int .u32 (s.xid : Int), .int .u32 (s.address : Int), .int .u32 0, .int .u32 0, .int .u8 (s.c.card.1.toNat : Int), .int .u8 (s.c.card.2.1.toNat : Int), .int .u8 (s.c.card.2.2.1.toNat : Int), .int .u8 (s.c.card.2.2.2.1.toNat : Int), .int .u8 (s.c.card.2.2.2.2.1.toNat : Int), .int .u8 (s.c.card.2.2.2.2.2.toNat : Int), .slice none 0 0] rfl rfl (Bk.new wr1 62 #[.bool false, .int .u32 0, .int .u32 0, .int .u32 0, .int .u32 0, .int .u8 0, .int .u8 0, .int .u8 0, .int .u8 0, .int .u8 0, .int .u8 0, .slice none 0 0]) rfl (by kernel_rfl) (by kernel_rfl) ?_
      intro w9 hx9 hf9
      refine hK _ _ ?_
      clear hK K
      refine pl_nil (hQ' _ _ ?_)
      go_wp2_with fail
      go_meet
      case rel => exact ⟨_, rfl, hR1.2.2.size, hx9, (hR1.2.2.alloc (.cells #[.bool false, .int .u32 0, .int .u32 0, .int .u32 0, .int .u32 0, .int .u8 0, .int .u8 0, .int .u8 0, .int .u8 0, .int .u8 0, .int .u8 0, .slice none 0 0] 62)).trans' hf9 (fun b hb e => by have e' : b = wr1.heap.size := e; have := hR1.2.2.size; omega)⟩
    · skip
      refine pl_e0 hO rfl rfl rfl (fun K hK => ?_)
      go_simp
      refine hK _ _ (⟨hR1.1.none ((Fr.refl _ _).alloc _), hR1.2.1.keep ((Fr.refl _ _).alloc _), hR1.2.2.none ((Fr.refl _ _).alloc _)⟩) (fun hR_13 => ?_)
      clear hK K
      refine pl_e0 hO rfl rfl rfl (fun K hK => ?_)
      go_simp
      refine (bootAddress L s _ hR_13.1).mono ?_
      rintro e w2 ⟨rfl, h2⟩
      subst h2
      refine hK _ _ (hR_13) (fun hR_6 => ?_)
      clear hK K
      refine pl_p0 hO rfl rfl ?_ (fun w' => ?_) ?_; rotate_left 1; (focus (go_simp; ((try with_reducible rfl); done))); simp only [Act.put, List.setIfInBounds_toArray, List.set_cons_zero, List.set_cons_succ]
      refine pl_b0 hO rfl rfl rfl (fun K hK => ?_)
      refine wp_store_bk 62 (.tmp 8) (.tmp 23) rfl wr1.heap.size _ _ #[.bool false, .int .u32 (s.xid : Int), .int .u32 (s.address : Int), .int .u32 0, .int .u32 0, .int .u8 (s.c.card.1.toNat : Int), .int .u8 (s.c.card.2.1.toNat : Int), .int .u8 (s.c.card.2.2.1.toNat : Int), .int .u8 (s.c.card.2.2.2.1.toNat : Int), .int .u8 (s.c.card.2.2.2.2.1.toNat : Int), .int .u8 (s.c.card.2.2.2.2.2.toNat : Int), .slice none 0 0] rfl rfl (Bk.new wr1 62 #[.bool false, .int .u32 0, .int .u32 0, .int .u32 0, .int .u32 0, .int .u8 0, .int .u8 0, .int .u8 0, .int .u8 0, .int .u8 0, .int .u8 0, .slice none 0 0]) rfl (by kernel_rfl) (by kernel_rfl) ?_
      intro w9 hx9 hf9
      refine hK _ _ ?_
      clear hK K
      refine pl_nil (hQ' _ _ ?_)
      go_wp2_with fail
      go_meet
      case rel => exact ⟨_, rfl, hR1.2.2.size, hx9, (hR1.2.2.alloc (.cells #[.bool false, .int .u32 0, .int .u32 0, .int .u32 0, .int .u32 0, .int .u8 0, .int .u8 0, .int .u8 0, .int .u8 0, .int .u8 0, .int .u8 0, .slice none 0 0] 62)).trans' hf9 (fun b hb e => by have e' : b = wr1.heap.size := e; have := hR1.2.2.size; omega)⟩
  case rest =>
  obtain ⟨g, rfl, hg, hB, hF⟩ := hcut
  obtain ⟨i0, hi0, hz0, hz1, hz2⟩ := info_parts opt_info
  have hcv := conv_one (P := Tryz.prog) (wc.alloc (.cells #[.int .u8 (kind.toNat : Int)] 5)) 102 9 5 wc.heap.size kind Tryz.underlying102 Tryz.underlying5 Tryz.underlying9 ((Bk.new wc 5 #[.int .u8 (kind.toNat : Int)]).cells 0)
  have hO1 := World.ownsRow_lit (base := w.heap.size) (e := 66) (size := 2) (wc.alloc (.cells #[.int .u8 (kind.toNat : Int)] 5)) #[.int .u8 53, .string (bs [kind])] 1 (by have := hF.size; simp; omega) (by decide) rfl
  rw [show (wc.alloc (.cells #[.int .u8 (kind.toNat : Int)] 5)).heap.size = wc.heap.size + 1 by simp] at hO1
  have f2 : Fr noB wc ((wc.alloc (.cells #[.int .u8 (kind.toNat : Int)] 5)).alloc (.cells #[.int .u8 53, .string (bs [kind])] 66)) := ((Fr.refl _ _).alloc _).alloc _
  have hA2 := (hA.keep hF).keep f2
  have hlt := hB.lt
  have HO1 := Lib.hid hO1
  have Hwl := Lib.hid hF.size
  have HA2 := Lib.hid hA2
  have Hlt := Lib.hid hlt
  have Hg := Lib.hid hg
  clear hO1 hA2 hlt hg
  go_upto_region 1 with fail
  go_cut [] from 24 to 31 (fun wx => ∃ A3 cap3, Bk wx g 62 #[.bool false, .int .u32 (s.xid : Int), .int .u32 (s.address : Int), .int .u32 0, .int .u32 0, .int .u8 (s.c.card.1.toNat : Int), .int .u8 (s.c.card.2.1.toNat : Int), .int .u8 (s.c.card.2.2.1.toNat : Int), .int .u8 (s.c.card.2.2.2.1.toNat : Int), .int .u8 (s.c.card.2.2.2.2.1.toNat : Int), .int .u8 (s.c.card.2.2.2.2.2.toNat : Int), .slice A3 (1 + n) cap3] ∧ wx.ownsRow w.heap.size 66 2 (.slice A3 (1 + n) cap3) (1 + n) (optC ([⟨53, [kind]⟩] ++ os)) ∧ Fr noB w wx)
  case first =>
    go_wp2_with ((refine wpList_app rfl (.tmp 28) (.tmp 29) _ rfl w.heap.size 66 i0 _ 2 24 Tryz.underlying60 hi0 hz0 hz1 hz2 rfl (by omega) (some ⟨wc.heap.size + 1, 0, none⟩) 1 _ _ rfl HO1.out noB A n _ _ rfl HA2.out optC_one (by unfold maxLen; omega) (by omega) (by have := Hwl.out; simp; omega) ?_); intro A3 cap3 w3 hap; have f3 : Fr noB wc w3 := f2.trans' hap.fr (by rintro b hb ⟨a, e, e2⟩; cases e; simp only at e2; omega); have hB3 := hB.keep f3 (fun x => x); have hBc3 := hB3.cells; have hBf3 := hB3.frees; have Hap := Lib.hid hap; have HB3 := Lib.hid hB3; have HF3 := Lib.hid f3; clear hap hB3 f3 hcv hi0 hz0 hz1 hz2 f2 hB)
    go_meet
    case rel =>
      have hap := Hap.out
      have f3 := HF3.out
      have hB3 := HB3.out
      exact ⟨A3, cap3, hB3.set 11 (.slice A3 (1 + n) cap3), own_far hap.own (p := ⟨g, 11, none⟩) hB3 (by decide) (.slice A3 (1 + n) cap3), (hF.none f3).setCell (p := ⟨g, 11, none⟩) (fun x => absurd x (by have := Hg.out; show ¬ g < w.heap.size; omega)) _⟩
  case rest =>
  obtain ⟨A3, cap3, hB4, hO4, f4⟩ := hcut
  obtain ⟨N, hN⟩ : ∃ N, 1 + n = N := ⟨_, rfl⟩
  rw [hN] at hB4 hO4
  have hNb : N ≤ 1001 := by omega
  have HN := Lib.hid hN
  have Hws := Lib.hid f4.size
  clear hN hcv f2 hB hF
  obtain ⟨w4, hw4⟩ : ∃ w4, w4 = wc := ⟨_, rfl⟩
  subst hw4
  by_cases hk : kind = 4
  · have hk1 : ((kind.toNat : Int) != 4) = false := by rw [hk]; rfl
    have hm : St.msgO kind os = [⟨53, [kind]⟩] ++ os := by unfold St.msgO; rw [if_pos hk, List.append_nil]
    have hO5 : w4.ownsRow w.heap.size 66 2 (.slice A3 N cap3) N (optC (St.msgO kind os)) := by rw [hm]; exact hO4
    have hN2 : (St.msgO kind os).length = N := by rw [hm, List.length_append, Hn.out]; exact HN.out
    have hosw : wtO (St.msgO kind os) ≤ 2097152 := by rw [hm, wtO_app]; simp only [wtO, List.length_cons, List.length_nil]; omega
    clear hm hk hO4
    have hBt := hB4
    have hBc := hBt.cells
    have hAt := own_slr hO5
    have hFt := f4
    have hMt := h.none hFt
    have hw := dhcpWrite false s.xid s.address 0 0 s.c.card.1 s.c.card.2.1 s.c.card.2.2.1 s.c.card.2.2.2.1 s.c.card.2.2.2.2.1 s.c.card.2.2.2.2.2 ((St.msgO kind os)) A3 cap3 w4 h.ok.xid hadr (by decide) (by decide) (by rw [hN2]; exact hAt) hosw
    rw [hN2] at hw
    have Hw := Lib.hid hw
    clear hw
    go_wp2_with fail
    refine Hw.out.mono ?_
    rintro e w6 ⟨rfl, f6⟩
    rw [Hmb.out]
    have hM6 := hMt.none f6
    have hF6 := hFt.none f6
    go_upto_region 7 with fail
    refine wp_region_pls (by kernel_rfl) (fun w' => BootAt w' L s ∧ Fr noB w w') [4, 5] (.p 0 (.p 2 (.p 3 (.e2 1 (.e 4 (.e 5 (.nil))) 4 (.e 1 (.e 5 (.nil))))))) (by kernel_rfl) (⟨hM6.drew, hF6.drew⟩) ?_
    intro ops Q' hO hQ' wr1 hR1
    iterate 3 (refine pl_p0 hO rfl rfl ?_ (fun w' => ?_) ?_; rotate_left 1; (focus (go_simp; ((try with_reducible rfl); done))); simp only [Act.put, List.setIfInBounds_toArray, List.set_cons_zero, List.set_cons_succ])
    refine pl_e2 ?_ ?_
    · skip
      refine pl_e0 hO rfl rfl rfl (fun K hK => ?_)
      have o0 := hR1.1.gb.all.2 0 _ rfl; have o1 := hR1.1.gb.all.2 1 _ rfl; have o2 := hR1.1.gb.all.2 2 _ rfl; have o3 := hR1.1.gb.all.2 3 _ rfl; have o4 := hR1.1.gb.all.2 4 _ rfl; have o5 := hR1.1.gb.all.2 5 _ rfl
      go_simp
      refine hK _ _ (hR1) (fun hR_1 => ?_)
      clear hK K
      refine pl_b0 hO rfl rfl rfl (fun K hK => ?_)
      go_simp
      refine (bootPacketL L s 4294967295 68 67 mb _ hR_1.1 (by decide) (by decide) (by decide) (by omega)).mono ?_
      rintro e w7 ⟨rfl, hM7, f7⟩
      have hpl := packet_len s 4294967295 68 67 mb
      obtain ⟨pk, hpk⟩ : ∃ pk, s.packet 4294967295 68 67 mb = pk := ⟨_, rfl⟩
      rw [hpk] at hpl ⊢
      have Hpk := Lib.hid hpk
      clear hpk
      refine hK _ _ ?_
      clear hK K
      refine pl_b0 hO rfl rfl rfl (fun K hK => ?_)
      go_simp
      refine (bootSendL L s.took 255 255 255 255 255 255 2048 pk _ hM7 (by decide) (by omega)).mono ?_
      rintro e w8 ⟨rfl, hM8, f8⟩
      refine hK _ _ ?_
      clear hK K
      refine pl_nil (hQ' _ _ ?_)
      go_wp2_with fail
      refine bodyPost_end (results_none rfl _ _ _) rfl ?_
      rw [Hsay.out, Hpk.out]
      exact ⟨rfl, hM8, (hR1.2.of_no (own' L)).trans (f7.trans f8)⟩
    · skip
      refine pl_b0 hO rfl rfl rfl (fun K hK => ?_)
      go_simp
      refine (bootPacketL L s 4294967295 68 67 mb _ hR1.1 (by decide) (by decide) (by decide) (by omega)).mono ?_
      rintro e w7 ⟨rfl, hM7, f7⟩
      have hpl := packet_len s 4294967295 68 67 mb
      obtain ⟨pk, hpk⟩ : ∃ pk, s.packet 4294967295 68 67 mb = pk := ⟨_, rfl⟩
      rw [hpk] at hpl ⊢
      have Hpk := Lib.hid hpk
      clear hpk
      refine hK _ _ ?_
      clear hK K
      refine pl_b0 hO rfl rfl rfl (fun K hK => ?_)
      have o0 := hM7.gb.all.2 0 _ rfl; have o1 := hM7.gb.all.2 1 _ rfl; have o2 := hM7.gb.all.2 2 _ rfl; have o3 := hM7.gb.all.2 3 _ rfl; have o4 := hM7.gb.all.2 4 _ rfl; have o5 := hM7.gb.all.2 5 _ rfl
      go_simp
      refine hK _ _ ?_
      clear hK K
      refine pl_b0 hO rfl rfl rfl (fun K hK => ?_)
      go_simp
      refine (bootSendL L s.took 255 255 255 255 255 255 2048 pk _ hM7 (by decide) (by omega)).mono ?_
      rintro e w8 ⟨rfl, hM8, f8⟩
      refine hK _ _ ?_
      clear hK K
      refine pl_nil (hQ' _ _ ?_)
      go_wp2_with fail
      refine bodyPost_end (results_none rfl _ _ _) rfl ?_
      rw [Hsay.out, Hpk.out]
      exact ⟨rfl, hM8, (hR1.2.of_no (own' L)).trans (f7.trans f8)⟩
  · have hk1 : ((kind.toNat : Int) != 4) = true := by
      have h1 : kind.toNat ≠ 4 := fun e => hk (UInt8.toNat_inj.1 e)
      simp; omega
    have hm : St.msgO kind os = ([⟨53, [kind]⟩] ++ os) ++ [⟨55, [1, 3, 51, 54, 58, 59]⟩] := by unfold St.msgO; rw [if_neg hk]
    obtain ⟨i0, hi0, hz0, hz1, hz2⟩ := info_parts opt_info
    have hBc4 := hB4.cells
    have hO5 := hO4.alloc (.cells #[.int .u8 55, .string ⟨#[1, 3, 51, 54, 58, 59]⟩] 66)
    have hsr : SlR (w4.alloc (.cells #[.int .u8 55, .string ⟨#[1, 3, 51, 54, 58, 59]⟩] 66)) noB 2 (some ⟨w4.heap.size, 0, none⟩) 1 (optC [⟨55, [1, 3, 51, 54, 58, 59]⟩]) := SlR.of_bk (Bk.new w4 66 #[.int .u8 55, .string ⟨#[1, 3, 51, 54, 58, 59]⟩]) (fun x => x) rfl
    have hblk := own_blk hO4
    have hgne := own_ne hO4 hB4 (by decide)
    go_upto_region 3 with fail
    go_cut [] from 34 to 39 (fun wx => ∃ A4 cap4, Bk wx g 62 #[.bool false, .int .u32 (s.xid : Int), .int .u32 (s.address : Int), .int .u32 0, .int .u32 0, .int .u8 (s.c.card.1.toNat : Int), .int .u8 (s.c.card.2.1.toNat : Int), .int .u8 (s.c.card.2.2.1.toNat : Int), .int .u8 (s.c.card.2.2.2.1.toNat : Int), .int .u8 (s.c.card.2.2.2.2.1.toNat : Int), .int .u8 (s.c.card.2.2.2.2.2.toNat : Int), .slice A4 (N + 1) cap4] ∧ wx.ownsRow w.heap.size 66 2 (.slice A4 (N + 1) cap4) (N + 1) (optC (St.msgO kind os)) ∧ Fr noB w wx)
    case first =>
      go_wp2_with ((refine wpList_app rfl (.tmp 35) (.tmp 37) _ rfl w.heap.size 66 i0 _ 2 24 Tryz.underlying60 hi0 hz0 hz1 hz2 rfl (by omega) A3 N _ _ rfl hO5 noB (some ⟨w4.heap.size, 0, none⟩) 1 _ _ rfl hsr optC_one (by unfold maxLen; omega) (by omega) (by have := Hws.out; simp; omega) ?_); intro A4 cap4 w6 hap2; have f6 : Fr noB w w6 := (f4.alloc (.cells #[.int .u8 55, .string ⟨#[1, 3, 51, 54, 58, 59]⟩] 66)).trans' hap2.fr (by rintro b hb ⟨a, e, e2⟩; have := hblk a e; omega); have hB6 := (hB4.alloc (.cells #[.int .u8 55, .string ⟨#[1, 3, 51, 54, 58, 59]⟩] 66)).keep hap2.fr (by rintro ⟨a, e, e2⟩; exact hgne a e e2.symm); have hBc6 := hB6.cells; have hBf6 := hB6.frees; have Hap2 := Lib.hid hap2; have HB6 := Lib.hid hB6; have HF6 := Lib.hid f6; clear hap2 hB6 f6 hi0 hz0 hz1 hz2)
      go_meet
      case rel =>
        have hap2 := Hap2.out
        have f6 := HF6.out
        have hB6 := HB6.out
        exact ⟨A4, cap4, hB6.set 11 (.slice A4 (N + 1) cap4), by rw [hm, optC_app]; exact own_far hap2.own (p := ⟨g, 11, none⟩) hB6 (by decide) (.slice A4 (N + 1) cap4), f6.setCell (p := ⟨g, 11, none⟩) (fun x => absurd x (by have := Hg.out; show ¬ g < w.heap.size; omega)) _⟩
    case rest =>
    obtain ⟨A4, cap4, hB7, hO8, f7⟩ := hcut
    obtain ⟨w7, hw7⟩ : ∃ w7, w7 = wc := ⟨_, rfl⟩
    subst hw7
    obtain ⟨N2, hN⟩ : ∃ N2, N + 1 = N2 := ⟨_, rfl⟩
    rw [hN] at hB7 hO8
    have hN2 : (St.msgO kind os).length = N2 := by rw [hm, List.length_append, List.length_append, Hn.out]; have := HN.out; simp only [List.length_cons, List.length_nil]; omega
    have hosw : wtO (St.msgO kind os) ≤ 2097152 := by rw [hm, wtO_app, wtO_app]; simp only [wtO, List.length_cons, List.length_nil]; omega
    clear hm hk hN
    have hBt := hB7
    have hBc := hBt.cells
    have hAt := own_slr hO8
    have hFt := f7
    have hMt := h.none hFt
    have hw := dhcpWrite false s.xid s.address 0 0 s.c.card.1 s.c.card.2.1 s.c.card.2.2.1 s.c.card.2.2.2.1 s.c.card.2.2.2.2.1 s.c.card.2.2.2.2.2 ((St.msgO kind os)) A4 cap4 w7 h.ok.xid hadr (by decide) (by decide) (by rw [hN2]; exact hAt) hosw
    rw [hN2] at hw
    have Hw := Lib.hid hw
    clear hw
    go_wp2_with fail
    refine Hw.out.mono ?_
    rintro e w6 ⟨rfl, f6⟩
    rw [Hmb.out]
    have hM6 := hMt.none f6
    have hF6 := hFt.none f6
    go_upto_region 7 with fail
    refine wp_region_pls (by kernel_rfl) (fun w' => BootAt w' L s ∧ Fr noB w w') [4, 5] (.p 0 (.p 2 (.p 3 (.e2 1 (.e 4 (.e 5 (.nil))) 4 (.e 1 (.e 5 (.nil))))))) (by kernel_rfl) (⟨hM6.drew, hF6.drew⟩) ?_
    intro ops Q' hO hQ' wr1 hR1
    iterate 3 (refine pl_p0 hO rfl rfl ?_ (fun w' => ?_) ?_; rotate_left 1; (focus (go_simp; ((try with_reducible rfl); done))); simp only [Act.put, List.setIfInBounds_toArray, List.set_cons_zero, List.set_cons_succ])
    refine pl_e2 ?_ ?_
    · skip
      refine pl_e0 hO rfl rfl rfl (fun K hK => ?_)
      have o0 := hR1.1.gb.all.2 0 _ rfl; have o1 := hR1.1.gb.all.2 1 _ rfl; have o2 := hR1.1.gb.all.2 2 _ rfl; have o3 := hR1.1.gb.all.2 3 _ rfl; have o4 := hR1.1.gb.all.2 4 _ rfl; have o5 := hR1.1.gb.all.2 5 _ rfl
      go_simp
      refine hK _ _ (hR1) (fun hR_1 => ?_)
      clear hK K
      refine pl_b0 hO rfl rfl rfl (fun K hK => ?_)
      go_simp
      refine (bootPacketL L s 4294967295 68 67 mb _ hR_1.1 (by decide) (by decide) (by decide) (by omega)).mono ?_
      rintro e w7 ⟨rfl, hM7, f7⟩
      have hpl := packet_len s 4294967295 68 67 mb
      obtain ⟨pk, hpk⟩ : ∃ pk, s.packet 4294967295 68 67 mb = pk := ⟨_, rfl⟩
      rw [hpk] at hpl ⊢
      have Hpk := Lib.hid hpk
      clear hpk
      refine hK _ _ ?_
      clear hK K
      refine pl_b0 hO rfl rfl rfl (fun K hK => ?_)
      go_simp
      refine (bootSendL L s.took 255 255 255 255 255 255 2048 pk _ hM7 (by decide) (by omega)).mono ?_
      rintro e w8 ⟨rfl, hM8, f8⟩
      refine hK _ _ ?_
      clear hK K
      refine pl_nil (hQ' _ _ ?_)
      go_wp2_with fail
      refine bodyPost_end (results_none rfl _ _ _) rfl ?_
      rw [Hsay.out, Hpk.out]
      exact ⟨rfl, hM8, (hR1.2.of_no (own' L)).trans (f7.trans f8)⟩
    · skip
      refine pl_b0 hO rfl rfl rfl (fun K hK => ?_)
      go_simp
      refine (bootPacketL L s 4294967295 68 67 mb _ hR1.1 (by decide) (by decide) (by decide) (by omega)).mono ?_
      rintro e w7 ⟨rfl, hM7, f7⟩
      have hpl := packet_len s 4294967295 68 67 mb
      obtain ⟨pk, hpk⟩ : ∃ pk, s.packet 4294967295 68 67 mb = pk := ⟨_, rfl⟩
      rw [hpk] at hpl ⊢
      have Hpk := Lib.hid hpk
      clear hpk
      refine hK _ _ ?_
      clear hK K
      refine pl_b0 hO rfl rfl rfl (fun K hK => ?_)
      have o0 := hM7.gb.all.2 0 _ rfl; have o1 := hM7.gb.all.2 1 _ rfl; have o2 := hM7.gb.all.2 2 _ rfl; have o3 := hM7.gb.all.2 3 _ rfl; have o4 := hM7.gb.all.2 4 _ rfl; have o5 := hM7.gb.all.2 5 _ rfl
      go_simp
      refine hK _ _ ?_
      clear hK K
      refine pl_b0 hO rfl rfl rfl (fun K hK => ?_)
      go_simp
      refine (bootSendL L s.took 255 255 255 255 255 255 2048 pk _ hM7 (by decide) (by omega)).mono ?_
      rintro e w8 ⟨rfl, hM8, f8⟩
      refine hK _ _ ?_
      clear hK K
      refine pl_nil (hQ' _ _ ?_)
      go_wp2_with fail
      refine bodyPost_end (results_none rfl _ _ _) rfl ?_
      rw [Hsay.out, Hpk.out]
      exact ⟨rfl, hM8, (hR1.2.of_no (own' L)).trans (f7.trans f8)⟩
end Go.Proofs.YtcbkaiakdhiloacGreatDoor
namespace Go.Proofs.YtcbkaiakdhiloacGreatDoor
open Go.RowKit Go.Proofs
attribute [local go_sem] bs_size bs_append bs_extract bs_toList
theorem cacheLen (cb co b : Nat) (l : List EntD) (w : World) (hc : w.cell? ⟨cb, co, none⟩ = some (.map (some b))) (hm : MapAt w b l) (hl4 : l.length ≤ 4) :
    Calls Tryz.prog 37 #[.pointer (some ⟨cb, co, none⟩)] w fun e w' => e = .returned (.int .i64 (l.length : Int)) ∧ Fr noB w w' := by
  obtain ⟨D, hown, hrep⟩ := hm
  go_enter Tryz.func37, Tryz.ntmps37
  go_wp2_with fail
  rw [hown.len Tryz.underlying97 3, hrep.size]
  go_wp2_with fail
  go_ret
  exact ⟨rfl, Fr.refl _ _⟩
end Go.Proofs.YtcbkaiakdhiloacGreatDoor
namespace Go.Proofs.YtcbkaiakdhiloacGreatDoor
open Go.RowKit Go.Proofs
attribute [local go_sem] bs_size bs_append bs_extract bs_toList
theorem bootFour (ip : Nat) (w : World) (hip : ip < 4294967296) :
    Calls Tryz.prog 137 #[.int .u32 (ip : Int)] w fun e w' => e = .returned (.string (bs (big 4 ip))) ∧ Fr noB w w' := by
  have hf0 : Fr noB w ((w.alloc (.cells #[.slice none 0 0] 226)).alloc (.cells #[.int .u32 (ip : Int)] 38)) := ((Fr.refl _ _).alloc _).alloc _
  have hbw := (Bk.new w 226 #[.slice none 0 0]).alloc (.cells #[.int .u32 (ip : Int)] 38)
  have hbs := Bk.new (w.alloc (.cells #[.slice none 0 0] 226)) 38 #[.int .u32 (ip : Int)]
  rw [show (w.alloc (.cells #[.slice none 0 0] 226)).heap.size = w.heap.size + 1 by simp] at hbs
  have hwr := Wr.zero hbw
  have hcall := wIP w.heap.size none [] _ (some ⟨w.heap.size + 1, 0, none⟩) 1 1 [(ip : Int)] hwr (SlR.of_bk hbs (by rintro (h | ⟨a, h, _⟩); omega; cases h) rfl) (by simp; omega) (by decide) (by simp)
  have Hcall := Lib.hid hcall
  clear hcall
  go_enter Tryz.func137, Tryz.ntmps137
  go_wp2_with fail
  refine Hcall.out.mono ?_
  rintro e w2 ⟨rfl, A', hw2, hf2, ha2⟩
  go_wp2_with fail
  refine (wString w.heap.size A' _ w2 hw2).mono ?_
  rintro e w3 ⟨rfl, rfl⟩
  go_wp2_with fail
  go_ret
  refine ⟨by simp [bigs], hf0.trans' hf2 ?_⟩
  rintro b hb (rfl | ⟨a, h, _⟩)
  · exact absurd hb (Nat.lt_irrefl _)
  · cases h
end Go.Proofs.YtcbkaiakdhiloacGreatDoor
namespace Go.Proofs.YtcbkaiakdhiloacGreatDoor
open Go.RowKit Go.Proofs
attribute [local go_sem] bs_size bs_append bs_extract bs_toList
theorem cacheClear (cb co : Nat) (v : Value) (w : World) (hc : w.cell? ⟨cb, co, none⟩ = some v) (hfz : w.frozen? ⟨cb, co, none⟩ = false) :
    Calls Tryz.prog 35 #[.pointer (some ⟨cb, co, none⟩)] w fun e w' => e = .returned (.tuple #[]) ∧ w' = (w.alloc (.map #[] 0)).setCell ⟨cb, co, none⟩ (.map (some w.heap.size)) := by
  have hlt := cell_lt' hc
  have hc2 : (w.alloc (.map #[] 0)).cell? ⟨cb, co, none⟩ = some v := by
    rw [show (w.alloc (.map #[] 0)).cell? ⟨cb, co, none⟩ = w.cell? ⟨cb, co, none⟩ from by unfold World.cell?; rw [Below.heap_alloc w _ cb hlt]]
    exact hc
  have hf2 : (w.alloc (.map #[] 0)).frozen? ⟨cb, co, none⟩ = false := by
    rw [show (w.alloc (.map #[] 0)).frozen? ⟨cb, co, none⟩ = w.frozen? ⟨cb, co, none⟩ from by unfold World.frozen?; rw [Below.heap_alloc w _ cb hlt]]
    exact hfz
  have hmm := @run_makeMap Tryz.prog
  go_enter Tryz.func35, Tryz.ntmps35
  go_wp2_with fail
  exact bodyPost_end (results_none rfl _ _ _) rfl ⟨rfl, rfl⟩
theorem cleared {w : World} {cb co : Nat} (hlt : cb < w.heap.size) : MapAt ((w.alloc (.map #[] 0)).setCell ⟨cb, co, none⟩ (.map (some w.heap.size))) w.heap.size [] := by
  have h1 : MapAt (w.alloc (.map #[] 0)) w.heap.size [] := ⟨_, w.ownsMap_made _ _ _, Rep.nil⟩
  have hf : Fr (oneB cb) (w.alloc (.map #[] 0)) ((w.alloc (.map #[] 0)).setCell ⟨cb, co, none⟩ (.map (some w.heap.size))) := (Fr.refl (oneB cb) (w.alloc (.map #[] 0))).setCell (p := ⟨cb, co, none⟩) (fun _ => rfl) (.map (some w.heap.size))
  exact h1.keep hf (fun x => by have x' : w.heap.size = cb := x; omega)
end Go.Proofs.YtcbkaiakdhiloacGreatDoor
