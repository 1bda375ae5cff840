/- Proves: for every string s and all addresses the law netbootlaw.UDPReads(s, from, to) returns true (and its arguments read afterwards as before). No condition. -/
import Derived.Test.YtcbkaiakdhiloabRefRUDP
import Derived.Test.YtcbkaiakdhiloabRow
import Derived.Test.YtcbkaiakdhiloabRowS
set_option linter.unusedSimpArgs false
set_option linter.unusedVariables false
namespace Go.Proofs.Ytcbkaiakdhiloab
open Go.RowKit Go.Proofs Go.ChangeShapes Go.WideShapes Go.ChangeAt
open Go.WideMaps Go.WideElems
open Go.ChangeMaps (open_string shut_string)

set_option maxRecDepth 100000 in
theorem uDPReads_lifted (os : Os) (started : os.Started) (H : Type) (enc : TypeId × Value → H) :
    ReturnsInHanded {} Try.checked os 4 .any (Rows.uDPReadsSpec.pre6 enc Try.prog Try.f4 Rows.uDPReadsRow.domain false) (Rows.uDPReadsSpec.post enc Try.prog Try.f4 false true false false) := by
  refine returnsInHanded_of_change (C := Try.checked) own started (by kernel_rfl) Try.func4
    (ChangeSpec.witness6 (enc := enc) (C := Try.checked) false ⟨#[], #[.string ByteArray.empty, .int .u32 0, .int .u32 0], []⟩ 8 (by kernel_rfl) (by kernel_rfl) (by kernel_rfl) (by kernel_rfl)) ?_
  intro W base args ds gs before hval0 hW hcnd _
  have hval : ∀ (j : Nat) t v, Try.f4.params[j]? = some t → args[j]? = some v → Value.okWide Try.prog W .any base t v := hval0
  obtain ⟨p, q, hA0, hV, _, hfz, hnd⟩ := id hW
  have hA : DataW.TrodAll enc Try.prog W 0 (fun _ => true) true Try.f4.params.toList args.toList ds p := hA0
  rw [Try.params4] at hA hval
  obtain ⟨v0, v1, v2, d0, d1, d2, p0, p1, p2, rfl, rfl, rfl, h0, h1, h2⟩ := trodAll_three hA
  obtain ⟨rfl, rfl⟩ := trodVars_none hV
  obtain ⟨s0, rfl, hd0, rfl, hs0⟩ := open_string Try.underlying9 (hval 0 9 v0 rfl rfl) h0
  have hl0 : s0.data.toList.length ≤ 9223372036854775807 := by
    have h := bs_size s0.data.toList
    rw [bs_of] at h
    unfold maxLen at hs0; omega
  obtain ⟨fi, hb1, rfl⟩ := cell_u32 Try.underlying23 (okWide_icell Try.underlying23 (hval 1 23 v1 rfl rfl))
  obtain ⟨ti, hb2, rfl⟩ := cell_u32 Try.underlying23 (okWide_icell Try.underlying23 (hval 2 23 v2 rfl rfl))
  have hw := lawUDPReads s0.data.toList fi ti W hb1 hb2 hl0
  rw [bs_of] at hw
  refine hw.mono fun e W' ⟨he, hf⟩ => ?_
  subst he
  exact ⟨_, rfl, law_post laidOut (by intro t ht; rw [Try.params4] at ht; simp at ht; rcases ht with rfl | rfl <;> exact ⟨by kernel_rfl, of_decide_eq_true (by kernel_rfl)⟩) rfl hW rfl rfl rfl rfl Try.underlying4 hf.belowAll⟩

theorem uDPReads_holds : Rows.UDPReadsSaid :=
  OpenClaim.holds_of_wide (p := Try.pinned) (s := Rows.uDPReadsSpec) (c := Rows.uDPReadsRow) 4 Try.f4 rfl rfl rfl rfl rfl rfl rfl ⟨rfl, rfl, rfl, rfl, rfl⟩ rfl rfl rfl rfl rfl (by kernel_rfl) Try.func4 (by kernel_rfl)
    (of_decide_eq_true (by kernel_rfl)) (by unfold Func.isWrapper; first | (rw [if_pos (by decide +kernel)]; kernel_rfl) | (rw [if_neg (by decide +kernel)]; exact ⟨rfl, rfl⟩))
    (fun os started H enc _ => uDPReads_lifted os started H enc)
end Go.Proofs.Ytcbkaiakdhiloab
