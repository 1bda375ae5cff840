/- The reference's options out of bytes. -/
import Derived.Test.YtcbkaiakdhiloabOptMore
import Derived.StillTailTactics
set_option linter.unusedSimpArgs false
set_option linter.unusedVariables false
namespace Go.Proofs.Ytcbkaiakdhiloab
open Go.RowKit Go.Proofs
attribute [local go_sem] bs_size bs_append bs_extract

/-- what options leaves -/
def OptsP (B : Nat) (os : List OptD) (l : List UInt8) (w : World) (e : Ending) (w' : World) : Prop :=
  (∃ os' A cap, optRd os l = some os' ∧ e = .returned (.tuple #[.slice A os'.length cap, .bool true]) ∧ SlR w' (fun k => k < B) 2 A os'.length (optC os') ∧ wtO os' ≤ wtO os + l.length ∧ Fr noB w w') ∨
  (optRd os l = none ∧ e = .returned (.tuple #[.slice none 0 0, .bool false]) ∧ Fr noB w w')
set_option maxRecDepth 20000 in
set_option maxHeartbeats 1000000 in
theorem refOptions (B : Nat) (A0 : Option Addr) (cap0 : Nat) (os : List OptD) (l : List UInt8) (w : World) (hA : SlR w (fun k => k < B) 2 A0 os.length (optC os)) (hB : B ≤ w.heap.size) (hwt : wtO os + l.length ≤ 1099511627000) :
    Calls Try.prog 32 #[.slice A0 os.length cap0, .string (bs l)] w (OptsP B os l w) := by
  go_enter Try.func32, Try.ntmps32
  go_wp2_with fail
  go_loopw [0, 6] (fun lv iv wr => ∃ (os1 : List OptD) (A : Option Addr) (cap i : Nat), lv = .slice A os1.length cap ∧ iv = .int .i64 (i : Int) ∧ i ≤ l.length ∧ optRd os l = optRd os1 (l.drop i) ∧ SlR wr (fun k => k < B) 2 A os1.length (optC os1) ∧
      wtO os1 + (l.length - i) ≤ wtO os + l.length ∧ Fr noB w wr) (fun _ iv _ => l.length - (intOf iv).toNat)
  case atStart => exact ⟨os, A0, cap0, 0, rfl, rfl, by omega, rfl, hA, by omega, Fr.refl _ _⟩
  case round =>
    obtain ⟨os1, A, cap, i, rfl, rfl, hi, e1, hA1, hw1, hf1⟩ := hrel
    have E1 := Lib.hid e1
    clear e1
    by_cases hlt : i < l.length
    · obtain ⟨c, hc⟩ : ∃ c, l[i]? = some c := ⟨_, List.getElem?_eq_getElem hlt⟩
      have hgi : ∀ h : i < (bs l).size, (bs l)[i]'h = c := fun h => by rw [bs_get l i h]; rw [List.getElem?_eq_getElem hlt] at hc; injection hc
      have hd : Hid (l.drop i = c :: l.drop (i + 1)) := Lib.hid (by rw [List.drop_eq_getElem_cons hlt]; rw [List.getElem?_eq_getElem hlt] at hc; cases hc; rfl)
      have hcl := c.toNat_lt
      clear hc
      by_cases h5 : c = 255
      · subst h5
        have H1 : Hid (optRd os l = some os1) := Lib.hid (by rw [E1.out, hd.out, optRd_end])
        go_wp2_with fail
        go_ret2
        exact .inl ⟨os1, A, cap, H1.out, rfl, hA1, by omega, hf1⟩
      · have h5i : ¬ (c.toNat : Int) = 255 := fun e => h5 (UInt8.toNat.inj (show c.toNat = 255 by omega))
        by_cases h0 : c = 0
        · subst h0
          have H1 : Hid (optRd os l = optRd os1 (l.drop (i + 1))) := Lib.hid (by rw [E1.out, hd.out, optRd_pad])
          go_wp2_with fail
          exact ⟨⟨os1, A, cap, i + 1, rfl, by rw [Int.natCast_add]; rfl, by omega, H1.out, hA1, by omega, hf1⟩, by simp only [intOf]; omega⟩
        · have h0i : ¬ (c.toNat : Int) = 0 := fun e => h0 (UInt8.toNat.inj (by simpa using e))
          have H0 := Lib.hid h0
          have H5 := Lib.hid h5
          clear h0 h5
          by_cases h1 : i + 1 < l.length
          · obtain ⟨k, hk⟩ : ∃ k, l[i + 1]? = some k := ⟨_, List.getElem?_eq_getElem h1⟩
            have hgk : ∀ h : i + 1 < (bs l).size, (bs l)[i + 1]'h = k := fun h => by rw [bs_get l (i + 1) h]; rw [List.getElem?_eq_getElem h1] at hk; injection hk
            have hd2 : Hid (l.drop (i + 1) = k :: l.drop (i + 2)) := Lib.hid (by rw [List.drop_eq_getElem_cons h1]; rw [List.getElem?_eq_getElem h1] at hk; cases hk; rfl)
            have hkl := k.toNat_lt
            clear hk
            by_cases h2 : l.length < i + 2 + k.toNat
            · have H1 : Hid (optRd os l = none) := Lib.hid (by rw [E1.out, hd.out, hd2.out]; exact optRd_short _ _ _ _ H5.out H0.out (by rw [List.length_drop]; omega))
              have h2i : (l.length : Int) < (i : Int) + 2 + (k.toNat : Int) := by omega
              go_wp2_with fail
              go_ret2
              exact .inr ⟨H1.out, rfl, hf1⟩
            · have h2i : ¬ (l.length : Int) < (i : Int) + 2 + (k.toNat : Int) := by omega
              go_wp2_with fail
              have hA2 := hA1.keep ((Fr.refl (fun k => k < B) wr).drew)
              have hf2 := hf1.drew
              have hto3 : IntKind.i64.wrap ((i : Int) + 2) = (i : Int) + 2 := IntWalk.i64_in _ (by omega)
              have hto4 : (0 : Int) ≤ (i : Int) + 2 + (k.toNat : Int) := by omega
              have hto0 : (0 : Int) ≤ (i : Int) + 2 := by omega
              have hto1 : (i : Int) + 2 ≤ (i : Int) + 2 + (k.toNat : Int) := by omega
              have hto2 : (i : Int) + 2 + (k.toNat : Int) ≤ (l.length : Int) := by omega
              refine wp_region_still_tail 9 (by kernel_rfl) (by kernel_rfl) ?_
              simp only [List.take_succ_cons, List.take_zero, List.drop_succ_cons, List.drop_zero]
              generalize hw2 : ({ wr with drawn := wr.drawn + 1 } : World) = w3
              rw [show wr.drew = w3 from hw2] at hA2 hf2
              clear hw2
              repeat still_step
              refine wpStill_nil ?_
              go_wp2_with fail
              have hdl : Hid ((l.take (i + 2 + k.toNat)).drop (i + 2) = (l.drop (i + 2)).take k.toNat) := Lib.hid (by rw [List.drop_take]; congr 1; omega)
              have hll : ((l.drop (i + 2)).take k.toNat).length = k.toNat := by rw [List.length_take, List.length_drop]; omega
              rw [hdl.out]
              refine (refMore A cap os1 c ((l.drop (i + 2)).take k.toNat) w3 (hA2.sub (fun _ _ x => x.elim)) (by omega)).mono ?_
              rintro e w4 ⟨A2, cap2, rfl, hA3', hf3⟩
              have hA3 := hA3'.sub (T := fun k => k < B) (fun b _ h => by have := hf2.size; omega)
              clear hA3'
              have hwa := wtO_add os1 c ((l.drop (i + 2)).take k.toNat)
              have hf4 := hf2.none hf3
              have H1 : Hid (optRd os l = optRd (optAdd os1 c ((l.drop (i + 2)).take k.toNat)) (l.drop (i + 2 + k.toNat))) := Lib.hid (by
                rw [E1.out, hd.out, hd2.out, optRd_opt _ _ _ _ H5.out H0.out (by rw [List.length_drop]; omega), List.drop_drop])
              go_wp2_with fail
              exact ⟨⟨_, A2, cap2, i + 2 + k.toNat, rfl, by rw [Int.natCast_add, Int.natCast_add]; rfl, by omega, H1.out, hA3, by omega, hf4⟩, by simp only [intOf]; omega⟩
          · have H1 : Hid (optRd os l = none) := Lib.hid (by
              rw [E1.out, hd.out, List.drop_of_length_le (by omega : l.length ≤ i + 1)]; exact optRd_one _ _ H5.out H0.out)
            have h1i : (l.length : Int) ≤ (i : Int) + 1 := by omega
            go_wp2_with fail
            go_ret2
            exact .inr ⟨H1.out, rfl, hf1⟩
    · obtain rfl : i = l.length := by omega
      have H1 : Hid (optRd os l = none) := Lib.hid (by rw [E1.out, List.drop_length]; rfl)
      go_wp2_with fail
      go_ret2
      exact .inr ⟨H1.out, rfl, hf1⟩
end Go.Proofs.Ytcbkaiakdhiloab
