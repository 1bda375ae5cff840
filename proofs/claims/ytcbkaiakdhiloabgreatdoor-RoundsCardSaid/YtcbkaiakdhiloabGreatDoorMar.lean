/- tftp.fields: options and their values, up to the end. -/
import Derived.Test.YtcbkaiakdhiloabGreatDoorMaq
import Derived.Test.YtcbkaiakdhiloabGreatDoorMaj
import Derived.Test.YtcbkaiakdhiloabGreatDoorMai
import Derived.Test.YtcbkaiakdhiloabGreatDoorMac
import Derived.Test.YtcbkaiakdhiloabGreatDoorMam
set_option linter.unusedSimpArgs false
set_option linter.unusedVariables false
namespace Go.Proofs.YtcbkaiakdhiloabGreatDoor
open Go.RowKit Go.Proofs
attribute [local go_sem] bs_size bs_append bs_extract bs_toList

/-- how much a reader still holds -/
def leftT (p : Nat) (w : World) : Nat := match w.cell? ⟨p, 0, none⟩ with
  | some (.string s) => s.size
  | _ => 0
theorem leftT_of {p : Nat} {w : World} {l : List UInt8} (h : Rd w p l) : leftT p w = l.length := by
  unfold leftT
  rw [Bk.cell h 0]
  exact bs_size l
theorem wordB_asc {l : List UInt8} (h : wordB l = true) : asc l := by
  intro b hb
  unfold wordB at h
  simp only [Bool.and_eq_true, List.all_eq_true] at h
  have := h.1 b hb
  unfold chrOk at this
  simp at this; omega
theorem ownF_blk {w : World} {base : Nat} {e : TypeId} {size n cap : Nat} {A : Option Addr} {xs : List Value} (h : w.ownsRow base e size (.slice A n cap) n xs) : ∀ a, A = some a → base ≤ a.block ∧ a.block < w.heap.size := by
  rintro a rfl
  obtain ⟨h1, ⟨h2, _⟩ | ⟨g', cap', cur, hv, hb, hg, _⟩⟩ := h
  · cases h2
  · cases hv; exact ⟨hb, Bk.lt hg⟩
theorem ownF_keep {w w' : World} {S : Nat → Prop} {base : Nat} {e : TypeId} {size n cap : Nat} {A : Option Addr} {xs : List Value} (h : w.ownsRow base e size (.slice A n cap) n xs) (hf : Fr S w w') (hS : ∀ a, A = some a → ¬ S a.block) :
    w'.ownsRow base e size (.slice A n cap) n xs := by
  obtain ⟨h1, h2 | ⟨g', cap', cur, hv, hb, hg, hn, hm, hc, ht⟩⟩ := h
  · exact ⟨h1, .inl h2⟩
  · cases hv
    exact ⟨h1, .inr ⟨g', cap, cur, rfl, hb, Bk.keep hg hf (hS _ rfl), hn, hm, hc, ht⟩⟩
theorem ownF_slr {w : World} {S : Nat → Prop} {base : Nat} {e : TypeId} {size n cap : Nat} {A : Option Addr} {xs : List Value} (h : w.ownsRow base e size (.slice A n cap) n xs) (hS : ∀ a, A = some a → ¬ S a.block) : SlR w S size A n xs := by
  refine ⟨h.1, fun hn => ?_⟩
  obtain ⟨h1, ⟨h2, h3⟩ | ⟨g, cap', cur, hv, hb, hg, hnn, hm, hc, ht⟩⟩ := id h
  · omega
  · cases hv
    refine ⟨_, rfl, Bk.lt hg, hS _ rfl, fun j u hu => ?_⟩
    rw [addr_add, Nat.zero_add, Bk.cell hg j]
    have hl : j < xs.length := by
      rcases Nat.lt_or_ge j xs.length with h1 | h1
      · exact h1
      · rw [List.getElem?_eq_none h1] at hu; cases hu
    rw [← ht, List.getElem?_take, if_pos (by omega)] at hu
    simpa using hu

/-- what fields leaves -/
def FldsP (p : Nat) (l : List UInt8) (w : World) (e : Ending) (w' : World) : Prop :=
  (∃ fs A cap, fldRd [] l = some fs ∧ e = .returned (.slice A fs.length cap) ∧ SlR w' (fun k => k < w.heap.size) 2 A fs.length (fldC fs) ∧ Rd w' p [] ∧ wtF fs ≤ l.length ∧ Fr (oneB p) w w') ∨
  (fldRd [] l = none ∧ e = .panicked (faultC 2) ∧ Fr (oneB p) w w')
set_option maxRecDepth 20000 in
set_option maxHeartbeats 2000000 in
theorem tftFields (p : Nat) (l : List UInt8) (w : World) (hR : Rd w p l) (hT : Tabs w) (hp1 : ¬ oneB p 7) (hp2 : ¬ oneB p 8) (hl : l.length ≤ 1099511627) :
    Calls Tryz.prog 128 #[.pointer (some ⟨p, 0, none⟩)] w (FldsP p l w) := by
  have hpl := Bk.lt hR
  obtain ⟨i0, hi0, hz0, hz1, hz2⟩ := info_parts fld_info
  go_enter Tryz.func128, Tryz.ntmps128
  go_wp2_with fail
  go_loopw [3] (fun ov wr => ∃ (fs : List FldD) (l1 : List UInt8) (A : Option Addr) (cap : Nat), fldRd [] l = fldRd fs l1 ∧ ov = .slice A fs.length cap ∧ wr.ownsRow w.heap.size 83 2 (.slice A fs.length cap) fs.length (fldC fs) ∧
      Rd wr p l1 ∧ wtF fs + l1.length ≤ l.length ∧ Fr (oneB p) w wr ∧ Tabs wr) (fun _ wr => leftT p wr)
  case atStart => exact ⟨[], l, none, 0, rfl, rfl, ⟨rfl, .inl ⟨rfl, rfl⟩⟩, hR, by simp [wtF], Fr.refl _ _, hT⟩
  case round =>
    obtain ⟨fs, l1, A, cap, e1, rfl, hO, hR1, hw1, hf1, hT1⟩ := hrel
    have E1 := Lib.hid e1
    have hmu := leftT_of hR1
    have hone := hf1.size
    clear e1
    go_wp2_with fail
    refine (rLen p l1 _ hR1).mono ?_
    rintro e w2 ⟨rfl, rfl⟩
    by_cases hl1 : l1 = []
    · subst hl1
      have H1 : Hid (fldRd [] l = some fs) := Lib.hid (by rw [E1.out, fldRd_nil])
      have hA := ownF_slr (S := fun k => k < w.heap.size) hO (fun a e h => by have := (ownF_blk hO a e).1; omega)
      clear E1
      go_wp2_with fail
      go_ret
      exact .inl ⟨fs, A, cap, H1.out, rfl, hA, hR1, by simp only [List.length_nil] at hw1; omega, hf1⟩
    have hpos : (0 : Int) < (l1.length : Int) := by have := List.length_pos_iff.2 hl1; omega
    have Hne := Lib.hid hl1
    clear hl1
    go_wp2_with fail
    refine (rLine p l1 _ hR1 (by omega)).mono ?_
    rintro e w3 (⟨a, r, h1, rfl, hR2, hf2⟩ | ⟨h1, rfl, hf2⟩)
    rotate_left
    · exact ⟨rfl, .inr ⟨by rw [E1.out, fldRd_none1 fs l1 Hne.out h1], rfl, hf1.trans hf2⟩⟩
    have hlen1 := lineOf_len _ _ _ h1
    have Hl1 := Lib.hid h1
    have hF2 := hf1.trans hf2
    have hT2 := hT1.keep hf2 hp1 hp2
    have hO2 := ownF_keep hO hf2 (by rintro a e h; have := (ownF_blk hO a e).1; unfold oneB at h; omega)
    clear h1 hR1 hf1 hf2 hT1 hO
    go_wp2_with fail
    refine (rLine p r _ hR2 (by omega)).mono ?_
    rintro e w4 (⟨b, r2, h1, rfl, hR3, hf3⟩ | ⟨h1, rfl, hf3⟩)
    rotate_left
    · exact ⟨rfl, .inr ⟨by rw [E1.out, fldRd_none2 fs l1 a r Hl1.out h1], rfl, hF2.trans hf3⟩⟩
    have hlen2 := lineOf_len _ _ _ h1
    have Hl2 := Lib.hid h1
    have hF3 := hF2.trans hf3
    have hT3 := hT2.keep hf3 hp1 hp2
    have hO3 := ownF_keep hO2 hf3 (by rintro a e h; have := (ownF_blk hO2 a e).1; unfold oneB at h; omega)
    clear h1 hR2 hF2 hf3 hT2 hO2
    have hbf := Bk.new w4 83 #[.string (bs a), .string (bs b)]
    have hF4 := hF3.alloc (.cells #[.string (bs a), .string (bs b)] 83)
    have hT4 := hT3.none ((Fr.refl _ _).alloc (.cells #[.string (bs a), .string (bs b)] 83))
    have hR4 := Bk.alloc hR3 (.cells #[.string (bs a), .string (bs b)] 83)
    have hO4 := ownF_keep hO3 ((Fr.refl noB w4).alloc (.cells #[.string (bs a), .string (bs b)] 83)) (fun _ _ x => x)
    have hgl : w.heap.size ≤ w4.heap.size := hF3.size
    have hOb := fun a e => (ownF_blk hO3 a e).2
    have hbc := hbf.cells
    go_wp2_with fail
    obtain ⟨gf, hgf⟩ : ∃ gf, w4.heap.size = gf := ⟨_, rfl⟩
    rw [hgf] at hbf hgl hOb hbc
    rw [hgf]
    clear hgf hF3 hT3 hR3 hO3
    generalize w4.alloc (.cells #[.string (bs a), .string (bs b)] 83) = w5 at *
    have hwb : (wordB a && wordB b && !(named fs (lowL a))) = false → ∀ w', Fr (oneB p) w w' → FldsP p l w (.panicked (faultC 2)) w' := by
      intro hb w' hf
      exact .inr ⟨by rw [E1.out, fldRd_bad fs l1 a r b r2 Hl1.out Hl2.out hb], rfl, hf⟩
    have Hwb := Lib.hid hwb
    clear hwb
    refine (tftpAscii a w5 (by omega)).mono ?_
    rintro e w6 ⟨rfl, rfl⟩
    cases ha : wordB a with
    | false =>
      have Hno := Lib.hid (Hwb.out (by rw [ha]; rfl))
      clear Hwb ha
      go_wp2_with fail
      refine (must_no 2 _).mono ?_
      rintro x w7 ⟨rfl, rfl⟩
      exact ⟨rfl, Hno.out _ hF4⟩
    | true =>
    have Ha := Lib.hid ha
    clear ha
    go_wp2_with fail
    refine (tftpAscii b _ (by omega)).mono ?_
    rintro e w7 ⟨rfl, rfl⟩
    cases hb : wordB b with
    | false =>
      have Hno := Lib.hid (Hwb.out (by rw [Ha.out, hb]; rfl))
      clear Hwb hb
      go_wp2_with fail
      refine (must_no 2 _).mono ?_
      rintro x w7 ⟨rfl, rfl⟩
      exact ⟨rfl, Hno.out _ hF4⟩
    | true =>
    have Hb := Lib.hid hb
    clear hb
    go_wp2_with fail
    refine (must_yes 2 _).mono ?_
    rintro x w8 ⟨rfl, rfl⟩
    go_wp2_with fail
    refine (tftLower a _ (by omega) hT4).mono ?_
    rintro e w9 ⟨rfl, hf5⟩
    rw [lowD_asc a (wordB_asc Ha.out)]
    have hbf5 := hbf.keep hf5 (fun x => x)
    have hc5 := hbf5.cells
    have hz5 := hbf5.frees
    have hF5 := hF4.none hf5
    have hT5 := hT4.none hf5
    have hR5 := Bk.keep hR4 hf5 (fun x => x)
    have hO5 := ownF_keep hO4 hf5 (fun _ _ x => x)
    have hpgf : p ≠ gf := by omega
    clear hbf hf5 hF4 hT4 hR4 hO4 hbc
    obtain ⟨la, hla⟩ : ∃ la, lowL a = la := ⟨_, rfl⟩
    have hlal : la.length = a.length := by rw [← hla]; simp [lowL]
    rw [hla] at Hwb
    rw [hla]
    have Hla := Lib.hid hla
    clear hla
    have hF6 : Fr (oneB p) w (w9.setCell ⟨gf, 0, none⟩ (.string (bs la))) := hF5.setCell (p := ⟨gf, 0, none⟩) (fun h => absurd h (by simp; omega)) _
    have hT6 : Tabs (w9.setCell ⟨gf, 0, none⟩ (.string (bs la))) := hT5.keep (S := oneB gf) ((Fr.refl (oneB gf) w9).setCell (p := ⟨gf, 0, none⟩) (fun _ => rfl) _) (by have := hT.lt; unfold oneB; omega) (by have := hT.lt; unfold oneB; omega)
    have hR6 : Rd (w9.setCell ⟨gf, 0, none⟩ (.string (bs la))) p r2 := Bk.far hR5 (p := ⟨gf, 0, none⟩) hpgf _
    have hO6 : (w9.setCell ⟨gf, 0, none⟩ (.string (bs la))).ownsRow w.heap.size 83 2 (.slice A fs.length cap) fs.length (fldC fs) :=
      ownF_keep hO5 (S := oneB gf) ((Fr.refl (oneB gf) w9).setCell (p := ⟨gf, 0, none⟩) (fun _ => rfl) _) (by rintro ad e h; have := hOb ad e; unfold oneB at h; omega)
    have hbf6 : Bk (w9.setCell ⟨gf, 0, none⟩ (.string (bs la))) gf 83 #[.string (bs la), .string (bs b)] := by simpa using hbf5.set 0 (.string (bs la))
    clear hF5 hT5 hR5 hO5
    go_wp2_with fail
    clear hbf5 hc5 hz5
    generalize w9.setCell ⟨gf, 0, none⟩ (.string (bs la)) = w10 at *
    have hA6 := ownF_slr (S := noB) hO6 (fun _ _ x => x)
    have hlf := wtF_len fs
    go_loopw [30] (fun iv wx => ∃ (j : Nat), j ≤ fs.length ∧ iv = .int .i64 (j : Int) ∧ (∀ k o, k < j → fs[k]? = some o → o.name ≠ la) ∧ Fr noB w10 wx) (fun iv _ => fs.length - (intOf iv).toNat)
    case atStart => exact ⟨0, by omega, rfl, fun k o h => absurd h (by omega), Fr.refl _ _⟩
    case round =>
      obtain ⟨j, hj, rfl, hnm, hwx⟩ := hrel
      have hc7 := (hbf6.keep hwx (fun x => x)).cells
      by_cases hlt : j < fs.length
      · obtain ⟨o, ho⟩ : ∃ o, fs[j]? = some o := ⟨_, List.getElem?_eq_getElem hlt⟩
        obtain ⟨ad, rfl, c1, c2⟩ := (hA6.keep hwx).fldAt ho
        have hne := hwx.alloc (.cells #[.string (bs o.name), .string (bs o.value)] 83)
        have hc8 := ((hbf6.keep hwx (fun x => x)).alloc (.cells #[.string (bs o.name), .string (bs o.value)] 83)).cells
        by_cases he : o.name = la
        · have hbn : (o.name == la) = true := by simpa using he
          have Hno := Lib.hid (Hwb.out (by rw [named_at ho he]; simp))
          have hF7 := hF6.none hne
          clear Hwb he ho hnm
          go_wp2_with fail
          refine (must_no 2 _).mono ?_
          rintro x w11 ⟨rfl, rfl⟩
          exact ⟨rfl, Hno.out _ hF7⟩
        · have hbn : (o.name == la) = false := by simpa using he
          have Hnm : Hid (∀ k o, k < j + 1 → fs[k]? = some o → o.name ≠ la) := Lib.hid (by
            intro k o' hk h2
            rcases Nat.lt_or_ge k j with h3 | h3
            · exact hnm k o' h3 h2
            · obtain rfl : k = j := by omega
              rw [ho] at h2; cases h2; exact he)
          clear he ho hnm
          go_wp2_with fail
          refine (must_yes 2 _).mono ?_
          rintro x w11 ⟨rfl, rfl⟩
          go_wp2_with fail
          exact ⟨⟨j + 1, by omega, by rw [Int.natCast_add]; rfl, Hnm.out, hne⟩, by simp only [intOf]; omega⟩
      · obtain rfl : j = fs.length := by omega
        have hnn : named fs la = false := named_no (fun k o h => hnm k o h)
        have H1 : Hid (fldRd [] l = fldRd (fs ++ [(⟨la, b⟩ : FldD)]) r2) := Lib.hid (by
          rw [E1.out, fldRd_ok fs l1 a r b r2 Hl1.out Hl2.out (by rw [Ha.out, Hb.out, Hla.out, hnn]; rfl), Hla.out])
        have hF7 := hF6.none hwx
        have hT7 := hT6.none hwx
        have hR7 := Bk.keep hR6 hwx (fun x => x)
        have hO7 := ownF_keep hO6 hwx (fun _ _ x => x)
        have hO8 := ownF_keep hO7 ((Fr.refl noB wr).alloc (.cells #[.string (bs la), .string (bs b)] 83)) (fun _ _ x => x)
        have hsr : SlR (wr.alloc (.cells #[.string (bs la), .string (bs b)] 83)) noB 2 (some ⟨wr.heap.size, 0, none⟩) 1 (fldC [⟨la, b⟩]) :=
          SlR.of_bk (n := 1) (size := 2) (S := noB) (Bk.new wr 83 #[.string (bs la), .string (bs b)]) (fun x => x) rfl
        have hT8 := hT7.none ((Fr.refl _ _).alloc (.cells #[.string (bs la), .string (bs b)] 83))
        have hR8 := Bk.alloc hR7 (.cells #[.string (bs la), .string (bs b)] 83)
        have hF8 := hF7.alloc (.cells #[.string (bs la), .string (bs b)] 83)
        have hOw := ownF_blk hO7
        have hsz7 := hF7.size
        have hTl := hT.lt
        clear hnm hnn Hwb hF6 hT6 hR6 hO6 hA6 hwx hbf6
        go_wp2_with (at_builtin
                     go_must (refine wpList_app rfl (.tmp 41) (.tmp 43) _ rfl w.heap.size 83 i0 _ 2 32 Tryz.underlying79 hi0 hz0 hz1 hz2 rfl (by omega) A _ _ _ rfl hO8 noB _ 1 1 _ rfl hsr fldC_one (by unfold maxLen; omega) (by omega) (by simp; omega) ?_)
                     intro A4 cap4 w12 hap)
        have hrow : ∀ k, (∃ a, A = some a ∧ a.block = k) → w.heap.size ≤ k := by rintro k ⟨a, e, rfl⟩; exact (hOw a e).1
        have hFn : Fr (oneB p) w w12 := hF8.trans' hap.fr (by rintro k hk h; have := hrow k h; omega)
        have hTn : Tabs w12 := hT8.keep hap.fr (fun h => by have := hrow _ h; omega) (fun h => by have := hrow _ h; omega)
        have hRn : Rd w12 p r2 := Bk.keep hR8 hap.fr (fun h => by have := hrow _ h; omega)
        have hmu2 := leftT_of hRn
        have hown : w12.ownsRow w.heap.size 83 2 (.slice A4 (fs ++ [(⟨la, b⟩ : FldD)]).length cap4) (fs ++ [(⟨la, b⟩ : FldD)]).length (fldC (fs ++ [(⟨la, b⟩ : FldD)])) := by
          rw [List.length_append, fldC_append]; exact hap.own
        refine ⟨⟨fs ++ [(⟨la, b⟩ : FldD)], r2, A4, cap4, H1.out, by rw [List.length_append]; rfl, hown, hRn, ?_, hFn, hTn⟩, ?_⟩
        · rw [wtF_append]; simp only [wtF]; omega
        · omega
end Go.Proofs.YtcbkaiakdhiloabGreatDoor
namespace Go.Proofs.YtcbkaiakdhiloabGreatDoor
open Go.RowKit Go.Proofs
attribute [local go_sem] bs_size bs_append bs_extract

def zcTft : Array Value := #[.int .u16 0, .int .u16 0, .string ⟨#[]⟩, .string ⟨#[]⟩, .slice none 0 0]
set_option maxRecDepth 20000 in
set_option maxHeartbeats 1000000 in
theorem catchTft (gx ge : Nat) (er : Int) (w : World) (hx : Bk w gx 81 zcTft) (he : Bk w ge 28 #[.int .i64 0]) (hne : gx ≠ ge) :
    CallsD Tryz.prog 164 #[.pointer (some ⟨gx, 0, none⟩), .pointer (some ⟨ge, 0, none⟩)] (.panicking (faultC er)) w fun r u' w' =>
      r = .returned (.tuple #[]) ∧ u' = .panicking [{ v := .iface 182 (.agg #[.int .i64 er]), recovered := true }] ∧ Bk w' gx 81 zcTft ∧ Bk w' ge 28 #[.int .i64 er] ∧ Fr (twoB gx ge) w w' := by
  have hta := fault_is er
  have hbf := (Bk.new w 182 #[.int .i64 er]).alloc (.cells zcTft 81)
  have hbz := Bk.new (w.alloc (.cells #[.int .i64 er] 182)) 81 zcTft
  rw [show (w.alloc (.cells #[.int .i64 er] 182)).heap.size = w.heap.size + 1 by simp] at hbz
  have hx2 := (hx.alloc (.cells #[.int .i64 er] 182)).alloc (.cells zcTft 81)
  have he2 := (he.alloc (.cells #[.int .i64 er] 182)).alloc (.cells zcTft 81)
  have hf2 : Fr (twoB gx ge) w ((w.alloc (.cells #[.int .i64 er] 182)).alloc (.cells zcTft 81)) := ((Fr.refl _ _).alloc _).alloc _
  have hgx := hx.lt
  have hge := he.lt
  refine callsD_of_wpS Tryz.func164 rfl fun c₀ cs hu => ?_
  apply wpS_seq
  apply wpS_region
  simp [wpOpsS, go_sem, recoverD, hu, Tryz.ntmps164, Exit.thenS, faultC]
  refine wpS_of_wp ?_
  simp only [Array.replicate_succ, Array.replicate_zero, List.push_toArray, List.append_toArray, List.nil_append, List.cons_append, List.setIfInBounds_toArray, List.set_cons_zero, List.set_cons_succ]
  go_wp2_with fail
  unfold zcTft at hbf hbz hx2 he2 hf2
  generalize (w.alloc (.cells #[.int .i64 er] 182)).alloc (.cells #[.int .u16 0, .int .u16 0, .string ⟨#[]⟩, .string ⟨#[]⟩, .slice none 0 0] 81) = w2 at *
  refine wp_region_ssa (by kernel_rfl) (by kernel_rfl) (by kernel_rfl)
    (fun u => ⟨#[.pointer (some ⟨gx, 0, none⟩), .pointer (some ⟨ge, 0, none⟩), undef, .pointer (some ⟨w.heap.size, 0, none⟩), .pointer (some ⟨w.heap.size + 1, 0, none⟩), undef,
      .iface 182 (.agg #[.int .i64 er]), undef, .bool false, .tuple #[.agg #[.int .i64 er], .bool true], .bool true, .agg #[.int .i64 er], u 0, u 1, u 2], []⟩)
    (fun j v _ => match j with | 0 => v = .agg zcTft | 1 => v = .pointer (some ⟨w.heap.size, 0, none⟩) | 2 => v = .int .i64 er | _ => True)
    (fun L w3 => Bk w3 w.heap.size 182 #[.int .i64 er] ∧ Bk w3 (w.heap.size + 1) 81 zcTft ∧ Bk w3 gx 81 zcTft ∧ Bk w3 ge 28 #[if L 4 then .int .i64 er else .int .i64 0] ∧ Fr (twoB gx ge) w w3) (fun _ => undef) ⟨hbf.drew, hbz.drew, hx2.drew, he2.drew, hf2.drew⟩ ?_ ?_
  · rintro L u w3 i o ⟨g1, g2, g3, g4, g5⟩ hΦ ho hL hd K hK
    match i, ho with
    | 0, ho =>
      simp at ho; subst ho
      refine wp_load_row 81 (.tmp 4) rfl (w.heap.size + 1) rfl _ _ _ _ g2 Tryz.underlying81 rfl (by kernel_rfl) ?_
      exact hK _ _ rfl ⟨g1, g2, g3, g4, g5⟩ (fun _ _ _ h => h)
    | 1, ho =>
      simp at ho; subst ho
      clear hΦ hd
      go_simp
      exact hK _ _ rfl ⟨g1, g2, g3, g4, g5⟩ (fun _ _ _ h => h)
    | 2, ho =>
      simp at ho; subst ho
      have hu1 := hΦ 1 (hd ⟨1, .data⟩ (by simp) (by rfl))
      simp only at hu1
      have hc := g1.cells
      clear hΦ hd
      go_simp
      have hk := hK _ w3 rfl ⟨g1, g2, g3, g4, g5⟩ (fun _ _ _ h => h)
      simp only [upd, hu1] at hk
      exact hk
    | 3, ho =>
      simp at ho; subst ho
      have hu0 := hΦ 0 (hd ⟨0, .data⟩ (by simp) (by rfl))
      refine wp_store_bk 81 (.tmp 0) (.tmp 12) rfl gx _ _ _ rfl hu0 g3 rfl (by kernel_rfl) (by kernel_rfl) ?_
      intro w4 b4 f4
      refine hK undef _ trivial ⟨g1.keep f4 ?_, g2.keep f4 ?_, b4, g4.keep f4 ?_, g5.trans' f4 ?_⟩ (fun _ _ _ h => h)
      · unfold oneB; omega
      · unfold oneB; omega
      · unfold oneB; omega
      · intro b _ e; exact .inl e
    | 4, ho =>
      simp at ho; subst ho
      have hu2 := hΦ 2 (hd ⟨2, .data⟩ (by simp) (by rfl))
      simp only [hL] at g4 hu2
      have hc := g4.cells
      have hz := g4.frees
      clear hΦ hd
      go_simp
      have h4 : Bk (w3.setCell ⟨ge, 0, none⟩ (.int .i64 er)) ge 28 #[.int .i64 er] := by simpa using g4.set 0 (.int .i64 er)
      have hk := hK undef (w3.setCell ⟨ge, 0, none⟩ (.int .i64 er)) trivial ⟨g1.far (by simp; omega) _, g2.far (by simp; omega) _, g3.far (by simpa using hne) _, h4, g5.setCell (p := ⟨ge, 0, none⟩) (fun _ => .inr rfl) _⟩ (fun _ _ _ h => h)
      simp only [upd, hu2] at hk
      exact hk
  · rintro u w3 hΦ L hall ⟨g1, g2, g3, g4, g5⟩
    rw [hall 4 (by simp)] at g4
    exact ⟨rfl, _, rfl, .tuple #[], by simp [results, Tryz.results164], rfl, rfl, g3, by simpa using g4, g5⟩

theorem idleTft (gx ge : Nat) (w : World) :
    CallsD Tryz.prog 164 #[.pointer (some ⟨gx, 0, none⟩), .pointer (some ⟨ge, 0, none⟩)] .returning w fun r u' w' =>
      r = .returned (.tuple #[]) ∧ u' = .returning ∧ w' = w := by
  refine callsD_of_wpS Tryz.func164 rfl fun c₀ cs hu => ?_
  apply wpS_seq
  apply wpS_region
  simp [wpOpsS, go_sem, recoverD, hu, Tryz.ntmps164, Exit.thenS]
  refine wpS_of_wp ?_
  simp only [Array.replicate_succ, Array.replicate_zero, List.push_toArray, List.append_toArray, List.nil_append, List.cons_append, List.setIfInBounds_toArray, List.set_cons_zero, List.set_cons_succ]
  go_wp2_with fail
  simp [Exit.inBlock, bodyPostS, results, Tryz.results164]
  cases c₀
  simp at hu
  simp [hu]

set_option maxRecDepth 20000 in
set_option maxHeartbeats 1000000 in
/-- Read, over the reading function: what that returns, or its fault's error. -/
theorem readTft (l : List UInt8) (w : World) (ok : Array Value → Prop) (bad : Int → Prop) (hok : ∀ c, ok c → c.size = zcTft.size ∧ c.all (·.oneCell') = true)
    (hby : ∀ (p : Nat) (w1 : World), w.heap.size ≤ p → Rd w1 p l → Fr noB w w1 → Calls Tryz.prog 126 #[.pointer (some ⟨p, 0, none⟩)] w1 (byPost ok bad p w1)) :
    Calls Tryz.prog 125 #[.string (bs l), .func (.func 126) #[] #[]] w (readPost zcTft ok bad w) := by
  have hmf : ∀ (fn : Fn) (first cap : Array Value) (w : World), (Instr.makeFunc fn first cap).run Tryz.prog w = .ok (.func fn first cap) w := fun _ _ _ _ => rfl
  go_enter_defers Tryz.func125, Tryz.ntmps125
  have Hby := Lib.hid hby
  have Hok := Lib.hid hok
  clear hby hok
  go_wp2_with fail
  have hx0 := ((Bk.new w 81 zcTft).alloc (.cells #[.int .i64 0] 28)).alloc (.cells #[.string (bs l)] 184)
  have he0 := (Bk.new (w.alloc (.cells zcTft 81)) 28 #[.int .i64 0]).alloc (.cells #[.string (bs l)] 184)
  have hr0 := Bk.new ((w.alloc (.cells zcTft 81)).alloc (.cells #[.int .i64 0] 28)) 184 #[.string (bs l)]
  rw [show ((w.alloc (.cells zcTft 81)).alloc (.cells #[.int .i64 0] 28)).heap.size = w.heap.size + 1 + 1 by simp] at hr0
  rw [show (w.alloc (.cells zcTft 81)).heap.size = w.heap.size + 1 by simp] at he0
  have hf0 : Fr noB w (((w.alloc (.cells zcTft 81)).alloc (.cells #[.int .i64 0] 28)).alloc (.cells #[.string (bs l)] 184)) := (((Fr.refl _ _).alloc _).alloc _).alloc _
  unfold zcTft at hx0 he0 hr0 hf0
  generalize ((w.alloc (.cells #[.int .u16 0, .int .u16 0, .string ⟨#[]⟩, .string ⟨#[]⟩, .slice none 0 0] 81)).alloc (.cells #[.int .i64 0] 28)).alloc (.cells #[.string (bs l)] 184) = w1 at *
  refine (Hby.out _ w1 (by omega) hr0 hf0).mono ?_
  rintro e w2 ⟨⟨x, hx, rfl⟩ | ⟨er, hbad, rfl⟩, hf1⟩
  · have hx1 := hx0.keep hf1 (by unfold oneB; omega)
    have he1 := he0.keep hf1 (by unfold oneB; omega)
    obtain ⟨hsx, hox⟩ := Hok.out x hx
    have Hsx := Lib.hid hsx
    have Hox := Lib.hid hox
    have hix : (Tryz.prog.info? 81).map (·.size) = some x.size := by rw [hsx]; kernel_rfl
    have Hix := Lib.hid hix
    clear hsx hox hix
    go_wp2_with ((refine wpList_store_bk rfl 81 (.tmp 4) (.tmp 11) rfl w.heap.size _ _ x rfl rfl hx1 Hsx.out Hix.out Hox.out ?_); intro w3 hx3 hf3; have he3 := he1.keep hf3 (by unfold oneB; omega); have hc3 := he3.cells; have hz3 := he3.frees)
    have hb3 : Bk (w3.setCell ⟨w.heap.size + 1, 0, none⟩ (.int .i64 0)) (w.heap.size + 1) 28 #[.int .i64 0] := by simpa using he3.set 0 (.int .i64 0)
    have hx4 := hx3.far (p := ⟨w.heap.size + 1, 0, none⟩) (by simp) (.int .i64 0)
    have hfin : Fr noB w (w3.setCell ⟨w.heap.size + 1, 0, none⟩ (.int .i64 0)) := by
      refine (((hf0.trans' hf1 ?_).trans' hf3 ?_).setCell ?_ _)
      · intro b hb e; unfold oneB at e; omega
      · intro b hb e; unfold oneB at e; omega
      · intro e; exact absurd e (by simp)
    generalize w3.setCell ⟨w.heap.size + 1, 0, none⟩ (.int .i64 0) = w4 at *
    refine leaves_cons (f := 164) (args := #[.pointer (some ⟨w.heap.size, 0, none⟩), .pointer (some ⟨w.heap.size + 1, 0, none⟩)]) (by simp) (by simp [go_sem]) ?_
    refine (idleTft _ _ _).mono ?_
    rintro e u' w5 ⟨rfl, rfl, rfl⟩
    refine ⟨.tuple #[.agg x, .int .i64 0], ?_, ⟨.inl ⟨_, hx, rfl⟩, hfin⟩⟩
    exact results_row_int Tryz.results125 _ w5 w.heap.size (w.heap.size + 1) _ _ x 0 _ _ rfl rfl hx4 hb3 Tryz.underlying81 rfl Hix.out Tryz.underlying28
  · have hx1 := hx0.keep hf1 (by unfold oneB; omega)
    have he1 := he0.keep hf1 (by unfold oneB; omega)
    have hfin : Fr noB w w2 := hf0.trans' hf1 (fun b hb e => by unfold oneB at e; omega)
    refine leaves_cons (f := 164) (args := #[.pointer (some ⟨w.heap.size, 0, none⟩), .pointer (some ⟨w.heap.size + 1, 0, none⟩)]) (by simp) (by simp [go_sem]) ?_
    refine (catchTft w.heap.size (w.heap.size + 1) er w2 hx1 he1 (by omega)).mono ?_
    rintro e u' w5 ⟨rfl, rfl, hx5, he5, hf5⟩
    refine ⟨.tuple #[.agg zcTft, .int .i64 er], ?_, ⟨.inr ⟨er, hbad, rfl⟩, hfin.trans' hf5 ?_⟩⟩
    · exact results_row_int Tryz.results125 _ w5 w.heap.size (w.heap.size + 1) _ _ _ er _ _ rfl rfl hx5 he5 Tryz.underlying81 rfl (by kernel_rfl) Tryz.underlying28
    · intro b hb e; unfold twoB at e; omega
end Go.Proofs.YtcbkaiakdhiloabGreatDoor
namespace Go.Proofs.YtcbkaiakdhiloabGreatDoor
open Go.RowKit Go.Proofs
attribute [local go_sem] bs_size bs_append bs_extract
set_option maxRecDepth 20000 in
set_option maxHeartbeats 1000000 in
/-- Read, over the reading function: what that returns, or its fault's error. -/
theorem readWTft (l : List UInt8) (w : World) (S : Nat → Prop) (ok : Value → World → Prop) (bad : Int → Prop) (hS : ∀ k, w.heap.size ≤ k → k < w.heap.size + 2 → ¬ S k)
    (hok : ∀ x w1, ok x w1 → ∃ c : Array Value, x = .agg c ∧ c.size = zcTft.size ∧ c.all (·.oneCell') = true) (hst : ∀ x w1 w2, ok x w1 → Fr (twoB w.heap.size (w.heap.size + 1)) w1 w2 → ok x w2)
    (hby : ∀ (p : Nat) (w1 : World), p = w.heap.size + 2 → Rd w1 p l → Fr noB w w1 → Calls Tryz.prog 126 #[.pointer (some ⟨p, 0, none⟩)] w1 (byPostW S ok bad p w1)) :
    Calls Tryz.prog 125 #[.string (bs l), .func (.func 126) #[] #[]] w (readPostW (.agg zcTft) S ok bad w) := by
  have hmf : ∀ (fn : Fn) (first cap : Array Value) (w : World), (Instr.makeFunc fn first cap).run Tryz.prog w = .ok (.func fn first cap) w := fun _ _ _ _ => rfl
  go_enter_defers Tryz.func125, Tryz.ntmps125
  have Hby := Lib.hid hby
  have Hok := Lib.hid hok
  have Hst := Lib.hid hst
  have HS := Lib.hid hS
  clear hby hok hst hS
  go_wp2_with fail
  have hx0 := ((Bk.new w 81 zcTft).alloc (.cells #[.int .i64 0] 28)).alloc (.cells #[.string (bs l)] 184)
  have he0 := (Bk.new (w.alloc (.cells zcTft 81)) 28 #[.int .i64 0]).alloc (.cells #[.string (bs l)] 184)
  have hr0 := Bk.new ((w.alloc (.cells zcTft 81)).alloc (.cells #[.int .i64 0] 28)) 184 #[.string (bs l)]
  rw [show ((w.alloc (.cells zcTft 81)).alloc (.cells #[.int .i64 0] 28)).heap.size = w.heap.size + 1 + 1 by simp] at hr0
  rw [show (w.alloc (.cells zcTft 81)).heap.size = w.heap.size + 1 by simp] at he0
  have hf0 : Fr noB w (((w.alloc (.cells zcTft 81)).alloc (.cells #[.int .i64 0] 28)).alloc (.cells #[.string (bs l)] 184)) := (((Fr.refl _ _).alloc _).alloc _).alloc _
  unfold zcTft at hx0 he0 hr0 hf0
  generalize ((w.alloc (.cells #[.int .u16 0, .int .u16 0, .string ⟨#[]⟩, .string ⟨#[]⟩, .slice none 0 0] 81)).alloc (.cells #[.int .i64 0] 28)).alloc (.cells #[.string (bs l)] 184) = w1 at *
  refine (Hby.out _ w1 (by omega) hr0 hf0).mono ?_
  have HX : ¬ orB (w.heap.size + 1 + 1) S w.heap.size := by rintro (h | h); omega; exact HS.out _ (by omega) (by omega) h
  have HE : ¬ orB (w.heap.size + 1 + 1) S (w.heap.size + 1) := by rintro (h | h); omega; exact HS.out _ (by omega) (by omega) h
  rintro e w2 ⟨⟨x0, hx, rfl⟩ | ⟨er, hbad, rfl⟩, hf1⟩
  · have hx1 := hx0.keep hf1 HX
    have he1 := he0.keep hf1 HE
    obtain ⟨x, rfl, hsx, hox⟩ := Hok.out x0 w2 hx
    have Hsx := Lib.hid hsx
    have Hox := Lib.hid hox
    have hix : (Tryz.prog.info? 81).map (·.size) = some x.size := by rw [hsx]; kernel_rfl
    have Hix := Lib.hid hix
    clear hsx hox hix
    go_wp2_with ((refine wpList_store_bk rfl 81 (.tmp 4) (.tmp 11) rfl w.heap.size _ _ x rfl rfl hx1 Hsx.out Hix.out Hox.out ?_); intro w3 hx3 hf3; have he3 := he1.keep hf3 (by unfold oneB; omega); have hc3 := he3.cells; have hz3 := he3.frees)
    have hb3 : Bk (w3.setCell ⟨w.heap.size + 1, 0, none⟩ (.int .i64 0)) (w.heap.size + 1) 28 #[.int .i64 0] := by simpa using he3.set 0 (.int .i64 0)
    have hx4 := hx3.far (p := ⟨w.heap.size + 1, 0, none⟩) (by simp) (.int .i64 0)
    have hst4 : Fr (twoB w.heap.size (w.heap.size + 1)) w2 (w3.setCell ⟨w.heap.size + 1, 0, none⟩ (.int .i64 0)) := (hf3.mono fun b _ e => .inl e).setCell (p := ⟨w.heap.size + 1, 0, none⟩) (fun _ => .inr rfl) _
    have hfin : Fr S w (w3.setCell ⟨w.heap.size + 1, 0, none⟩ (.int .i64 0)) := by
      refine ((((hf0.of_no S).trans' hf1 ?_).trans' hf3 ?_).setCell ?_ _)
      · rintro b hb (e | e); omega; exact e
      · intro b hb e; unfold oneB at e; omega
      · intro e; exact absurd e (by simp)
    generalize w3.setCell ⟨w.heap.size + 1, 0, none⟩ (.int .i64 0) = w4 at *
    refine leaves_cons (f := 164) (args := #[.pointer (some ⟨w.heap.size, 0, none⟩), .pointer (some ⟨w.heap.size + 1, 0, none⟩)]) (by simp) (by simp [go_sem]) ?_
    refine (idleTft _ _ _).mono ?_
    rintro e u' w5 ⟨rfl, rfl, rfl⟩
    refine ⟨.tuple #[.agg x, .int .i64 0], ?_, ⟨.inl ⟨_, Hst.out _ _ _ hx hst4, rfl⟩, hfin⟩⟩
    exact results_row_int Tryz.results125 _ w5 w.heap.size (w.heap.size + 1) _ _ x 0 _ _ rfl rfl hx4 hb3 Tryz.underlying81 rfl Hix.out Tryz.underlying28
  · have hx1 := hx0.keep hf1 HX
    have he1 := he0.keep hf1 HE
    have hfin : Fr S w w2 := (hf0.of_no S).trans' hf1 (by rintro b hb (e | e); omega; exact e)
    refine leaves_cons (f := 164) (args := #[.pointer (some ⟨w.heap.size, 0, none⟩), .pointer (some ⟨w.heap.size + 1, 0, none⟩)]) (by simp) (by simp [go_sem]) ?_
    refine (catchTft w.heap.size (w.heap.size + 1) er w2 hx1 he1 (by omega)).mono ?_
    rintro e u' w5 ⟨rfl, rfl, hx5, he5, hf5⟩
    refine ⟨.tuple #[.agg zcTft, .int .i64 er], ?_, ⟨.inr ⟨er, hbad, rfl⟩, hfin.trans' hf5 ?_⟩⟩
    · exact results_row_int Tryz.results125 _ w5 w.heap.size (w.heap.size + 1) _ _ _ er _ _ rfl rfl hx5 he5 Tryz.underlying81 rfl (by kernel_rfl) Tryz.underlying28
    · intro b hb e; unfold twoB at e; omega
end Go.Proofs.YtcbkaiakdhiloabGreatDoor
