/- Proves: for every text and all numbers the law netbootkeep.Spoilt(load, i, by) returns true (and its arguments read afterwards as before). No condition. -/
import Derived.Test.YtcbkaiakdhiloabSpoilt
import Derived.Test.YtcbkaiakdhiloabRow
import Derived.Test.YtcbkaiakdhiloabRowS
set_option linter.unusedSimpArgs false
set_option linter.unusedVariables false
namespace Go.Proofs.Ytcbkaiakdhiloab
open Go.RowKit Go.Proofs Go.ChangeShapes Go.WideShapes Go.ChangeAt
open Go.WideMaps Go.WideElems
open Go.ChangeMaps (open_string shut_string)

set_option maxRecDepth 100000 in
theorem spoilt_lifted (os : Os) (started : os.Started) (H : Type) (enc : TypeId × Value → H) :
    ReturnsInHanded {} Try.checked os 6 .any (Rows.spoiltSpec.pre6 enc Try.prog Try.f6 Rows.spoiltRow.domain false) (Rows.spoiltSpec.post enc Try.prog Try.f6 false true false false) := by
  refine returnsInHanded_of_change (C := Try.checked) own started (by kernel_rfl) Try.func6
    (ChangeSpec.witness6 (enc := enc) (C := Try.checked) false ⟨#[], #[.string ByteArray.empty, .int .i64 0, .int .i64 0], []⟩ 8 (by kernel_rfl) (by kernel_rfl) (by kernel_rfl) (by kernel_rfl)) ?_
  intro W base args ds gs before hval0 hW hcnd _
  have hval : ∀ (j : Nat) t v, Try.f6.params[j]? = some t → args[j]? = some v → Value.okWide Try.prog W .any base t v := hval0
  obtain ⟨p, q, hA0, hV, _, hfz, hnd⟩ := id hW
  have hA : DataW.TrodAll enc Try.prog W 0 (fun _ => true) true Try.f6.params.toList args.toList ds p := hA0
  rw [Try.params6] at hA hval
  obtain ⟨v0, v1, v2, d0, d1, d2, p0, p1, p2, rfl, rfl, rfl, h0, h1, h2⟩ := trodAll_three hA
  obtain ⟨rfl, rfl⟩ := trodVars_none hV
  obtain ⟨s0, rfl, hd0, rfl, hs0⟩ := open_string Try.underlying9 (hval 0 9 v0 rfl rfl) h0
  have hl0 : s0.data.toList.length ≤ 9223372036854775807 := by
    have h := bs_size s0.data.toList
    rw [bs_of] at h
    unfold maxLen at hs0; omega
  obtain ⟨i1, rfl, hb1⟩ := cell_int Try.underlying3 (okWide_icell Try.underlying3 (hval 1 3 v1 rfl rfl))
  have hb1a : -9223372036854775808 ≤ i1 := by
    have h1 := hb1.1
    have e1 : IntKind.i64.min = -9223372036854775808 := by decide
    omega
  have hb1b : i1 ≤ 9223372036854775807 := by
    have h1 := hb1.2
    have e1 : IntKind.i64.max = 9223372036854775807 := by decide
    omega
  obtain ⟨i2, rfl, hb2⟩ := cell_int Try.underlying3 (okWide_icell Try.underlying3 (hval 2 3 v2 rfl rfl))
  have hb2a : -9223372036854775808 ≤ i2 := by
    have h1 := hb2.1
    have e1 : IntKind.i64.min = -9223372036854775808 := by decide
    omega
  have hb2b : i2 ≤ 9223372036854775807 := by
    have h1 := hb2.2
    have e1 : IntKind.i64.max = 9223372036854775807 := by decide
    omega
  have hw := lawSpoilt s0.data.toList i1 i2 W hl0 hb1a hb1b hb2a hb2b
  rw [bs_of] at hw
  refine hw.mono fun e W' ⟨he, hf⟩ => ?_
  subst he
  exact ⟨_, rfl, law_post laidOut (by intro t ht; rw [Try.params6] at ht; simp at ht; rcases ht with rfl | rfl <;> exact ⟨by kernel_rfl, of_decide_eq_true (by kernel_rfl)⟩) rfl hW rfl rfl rfl rfl Try.underlying4 hf.belowAll⟩

theorem spoilt_holds : Rows.SpoiltSaid :=
  OpenClaim.holds_of_wide (p := Try.pinned) (s := Rows.spoiltSpec) (c := Rows.spoiltRow) 6 Try.f6 rfl rfl rfl rfl rfl rfl rfl ⟨rfl, rfl, rfl, rfl, rfl⟩ rfl rfl rfl rfl rfl (by kernel_rfl) Try.func6 (by kernel_rfl)
    (of_decide_eq_true (by kernel_rfl)) (by unfold Func.isWrapper; first | (rw [if_pos (by decide +kernel)]; kernel_rfl) | (rw [if_neg (by decide +kernel)]; exact ⟨rfl, rfl⟩))
    (fun os started H enc _ => spoilt_lifted os started H enc)
end Go.Proofs.Ytcbkaiakdhiloab
