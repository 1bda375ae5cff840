/- Options out of a reader, up to their end: the program's from. -/
import Derived.Test.YtcbkaiakdhiloabOptAdd
import Derived.Test.YtcbkaiakdhiloabDhcQ
import Derived.Test.YtcbkaiakdhiloabOctR
set_option linter.unusedSimpArgs false
set_option linter.unusedVariables false
namespace Go.Proofs.Ytcbkaiakdhiloab
open Go.RowKit Go.Proofs
attribute [local go_sem] bs_size bs_append bs_extract

/-- how much a reader still holds -/
def leftR (p : Nat) (w : World) : Nat := match w.cell? ⟨p, 0, none⟩ with
  | some (.string s) => s.size
  | _ => 0
theorem leftR_of {p : Nat} {w : World} {l : List UInt8} (h : Rd w p l) : leftR p w = l.length := by
  unfold leftR
  rw [Bk.cell h 0]
  exact bs_size l
def prB (p : Nat) (F : Nat → Prop) : Nat → Prop := fun k => k = p ∨ F k
/-- what from leaves -/
def FromP (pl : Nat) (F : Nat → Prop) (p : Nat) (os : List OptD) (l : List UInt8) (w : World) (e : Ending) (w' : World) : Prop :=
  (∃ os' r, optRd os l = some os' ∧ e = .returned (.tuple #[]) ∧ LsA w' pl F os' ∧ Rd w' p r ∧ wtO os' ≤ wtO os + l.length ∧ Fr (prB p F) w w') ∨
  (optRd os l = none ∧ e = .panicked (faultC 1) ∧ Fr (prB p F) w w')
theorem u8_num1 {a : List UInt8} (h : a.length = 1) : ∃ c : UInt8, a = [c] ∧ num a = c.toNat := by
  match a, h with
  | [c], _ => exact ⟨c, rfl, by simp [num]⟩

set_option maxRecDepth 20000 in
set_option maxHeartbeats 1000000 in
theorem dhcFrom (pl : Nat) (F : Nat → Prop) (p : Nat) (os : List OptD) (l : List UInt8) (w : World) (hL : LsA w pl F os) (hR : Rd w p l) (hpb : ¬ F p) (hF : ∀ k, w.heap.size ≤ k → F k) (hwt : wtO os + l.length ≤ 1099511627000) :
    Calls Try.prog 58 #[.pointer (some ⟨pl, 0, none⟩), .pointer (some ⟨p, 0, none⟩)] w (FromP pl F p os l w) := by
  have HF := Lib.hid hF
  clear hF
  go_enter Try.func58, Try.ntmps58
  go_wp2_with fail
  go_loopw [] (fun wr => ∃ os1 l1, optRd os l = optRd os1 l1 ∧ LsA wr pl F os1 ∧ Rd wr p l1 ∧ wtO os1 + l1.length ≤ wtO os + l.length ∧ Fr (prB p F) w wr) (fun wr => leftR p wr)
  case atStart => exact ⟨os, l, rfl, hL, hR, by omega, Fr.refl _ _⟩
  case round =>
    obtain ⟨os1, l1, e1, hL1, hR1, hw1, hf1⟩ := hrel
    have hno : ∀ k, F k → ¬ oneB p k := fun k hk e => by unfold oneB at e; exact hpb (e ▸ hk)
    have hone : ∀ {x y : World}, Fr (oneB p) x y → Fr (prB p F) x y := fun h => h.mono fun b _ e => .inl e
    go_wp2_with fail
    refine (tU8 p l1 _ hR1 (by omega)).mono ?_
    rintro e w2 (⟨a1, r1, c1, b1, rfl, hR2, hf2⟩ | ⟨hlt, rfl, hf2⟩)
    rotate_left
    · refine ⟨rfl, .inr ⟨?_, rfl, hf1.trans (hone hf2)⟩⟩
      rw [e1, List.eq_nil_of_length_eq_zero (by omega : l1.length = 0)]; rfl
    obtain ⟨c, rfl, hn1⟩ := u8_num1 c1.2
    have hl1 : l1 = c :: r1 := c1.1
    have hL2 := hL1.keep hf2 hno
    have hf3 := hf1.trans (hone hf2)
    have hlen : l1.length = r1.length + 1 := by rw [hl1]; rfl
    have hmu := leftR_of hR1
    have hmu2 := leftR_of hR2
    have hv : (fun a => Value.int .u8 (num a)) [c] = .int .u8 (c.toNat : Int) := by simp only [hn1]
    rw [hv]
    clear hv
    have E1 := Lib.hid e1
    have HL1 := Lib.hid hl1
    clear e1 hl1 c1 hn1 hR1 hL1
    by_cases h0 : c = 0
    · subst h0
      have hrel2 : Hid (optRd os l = optRd os1 r1) := Lib.hid (by rw [E1.out, HL1.out, optRd_pad])
      go_wp2_with fail
      exact ⟨⟨os1, r1, hrel2.out, hL2, hR2, by omega, hf3⟩, by omega⟩
    · have h0i : ¬ (c.toNat : Int) = 0 := fun e => h0 (UInt8.toNat.inj (by simpa using e))
      by_cases h5 : c = 255
      · subst h5
        have hrel2 : Hid (optRd os l = some os1) := Lib.hid (by rw [E1.out, HL1.out, optRd_end])
        go_wp2_with fail
        refine bodyPost_ret (v := .tuple #[]) ?_ ?_ ?_
        · exact results_none rfl _ _ _
        · rfl
        exact .inl ⟨os1, r1, hrel2.out, rfl, hL2, hR2, by omega, hf3⟩
      · have h5i : ¬ (c.toNat : Int) = 255 := fun e => h5 (UInt8.toNat.inj (show c.toNat = 255 by omega))
        have H0 := Lib.hid h0
        have H5 := Lib.hid h5
        clear h0 h5
        go_wp2_with fail
        refine (tU8 p r1 _ hR2 (by omega)).mono ?_
        rintro e w3 (⟨a2, r2, c2, b2, rfl, hR3, hf4⟩ | ⟨hlt, rfl, hf4⟩)
        rotate_left
        · refine ⟨rfl, .inr ⟨?_, rfl, hf3.trans (hone hf4)⟩⟩
          rw [E1.out, HL1.out, List.eq_nil_of_length_eq_zero (by omega : r1.length = 0)]
          exact optRd_one _ _ H5.out H0.out
        obtain ⟨k, rfl, hn2⟩ := u8_num1 c2.2
        have hl2 : r1 = k :: r2 := c2.1
        have hL3 := hL2.keep hf4 hno
        have hf5 := hf3.trans (hone hf4)
        have hlen2 : r1.length = r2.length + 1 := by rw [hl2]; rfl
        have hmu3 := leftR_of hR3
        have hv : (fun a => Value.int .u8 (num a)) [k] = .int .u8 (k.toNat : Int) := by simp only [hn2]
        rw [hv]
        clear hv
        have HL2 := Lib.hid hl2
        have hk := k.toNat_lt
        clear hl2 c2 hn2 hR2 hL2
        go_wp2_with fail
        refine (tTake k.toNat p r2 _ hR3 (by omega) (by omega)).mono ?_
        rintro e w4 (⟨a3, r3, c3, b3, rfl, hR4, hf6⟩ | ⟨hlt, rfl, hf6⟩)
        rotate_left
        · refine ⟨rfl, .inr ⟨?_, rfl, hf5.trans (hone hf6)⟩⟩
          rw [E1.out, HL1.out, HL2.out]
          exact optRd_short _ _ _ _ H5.out H0.out hlt
        have hL4 := hL3.keep hf6 hno
        have hf7 := hf5.trans (hone hf6)
        have hl3 : r2 = a3 ++ r3 := c3.1
        have hla : a3.length = k.toNat := c3.2
        have hlen3 : r2.length = a3.length + r3.length := by rw [hl3, List.length_append]
        have hmu4 := leftR_of hR4
        have HL3 := Lib.hid hl3
        clear hl3 c3 hR3 hL3
        go_wp2_with fail
        refine (dhcAdd pl F os1 c a3 _ hL4 (by omega) (fun k hk => HF.out k (Nat.le_trans hf7.size hk))).mono ?_
        rintro e w5 ⟨rfl, hL5, hf8⟩
        have hwa := wtO_add os1 c a3
        have hR5 : Rd w5 p r3 := Bk.keep hR4 hf8 hpb
        have hmu5 := leftR_of hR5
        have hf9 : Fr (prB p F) w w5 := hf7.trans (hf8.mono fun b _ e => .inr e)
        have hrel2 : Hid (optRd os l = optRd (optAdd os1 c a3) r3) := Lib.hid (by
          rw [E1.out, HL1.out, HL2.out, optRd_opt _ _ _ _ H5.out H0.out (by omega), HL3.out, ← hla, List.take_left, List.drop_left])
        go_wp2_with fail
        exact ⟨⟨_, r3, hrel2.out, hL5, hR5, by omega, hf9⟩, by omega⟩
end Go.Proofs.Ytcbkaiakdhiloab
