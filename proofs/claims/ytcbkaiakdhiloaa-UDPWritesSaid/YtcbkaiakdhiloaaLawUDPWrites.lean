/- Proves: for every datagram x and all addresses the law netbootlaw.UDPWrites(x, from, to) returns true (and its arguments read afterwards as before). No condition. -/
import Derived.Test.YtcbkaiakdhiloaaRefUDP
import Derived.Test.YtcbkaiakdhiloaaRow
import Derived.Test.YtcbkaiakdhiloaaRowS
set_option linter.unusedSimpArgs false
set_option linter.unusedVariables false
namespace Go.Proofs.Ytcbkaiakdhiloaa
open Go.RowKit Go.Proofs Go.ChangeShapes Go.WideShapes Go.ChangeAt
open Go.WideMaps Go.WideElems
open Go.ChangeMaps (open_string shut_string)

set_option maxRecDepth 100000 in
theorem openUDPWrites0 {w : World} {r : Reach} {base : Nat} {v : Value} (h : Value.okWide Try.prog w r base 56 v) : ∃ (fm : Nat) (tp : Nat) (ld : List UInt8), v = .agg #[.int .u16 (fm : Int), .int .u16 (tp : Int), .string (bs ld)] ∧ fm < 65536 ∧ tp < 65536 ∧ ld.length ≤ 9223372036854775807 := by
  obtain ⟨l, rfl, hl, hr⟩ := okWide_agg Try.underlying56 h
  have hcl : Try.prog.cellsOf 56 = 3 := by kernel_rfl
  replace hl := hl.trans hcl
  have hts : Try.prog.cellTypes Try.prog.depth 56 = some [30, 30, 9] := by kernel_rfl
  match l, hl with
  | [c0, c1, c2], _ =>
    obtain ⟨fm, b0, rfl⟩ := cell_u16 Try.underlying30 (cell_at hr hts 0 rfl rfl)
    obtain ⟨tp, b1, rfl⟩ := cell_u16 Try.underlying30 (cell_at hr hts 1 rfl rfl)
    obtain ⟨ld, b2, rfl⟩ := cell_str Try.underlying9 (cell_at hr hts 2 rfl rfl)
    exact ⟨fm, tp, ld, rfl, b0, b1, b2⟩

set_option maxRecDepth 100000 in
theorem uDPWrites_lifted (os : Os) (started : os.Started) (H : Type) (enc : TypeId × Value → H) :
    ReturnsInHanded {} Try.checked os 10 .any (Rows.uDPWritesSpec.pre6 enc Try.prog Try.f10 Rows.uDPWritesRow.domain false) (Rows.uDPWritesSpec.post enc Try.prog Try.f10 false true false false) := by
  refine returnsInHanded_of_change (C := Try.checked) own started (by kernel_rfl) Try.func10
    (ChangeSpec.witness6 (enc := enc) (C := Try.checked) false ⟨#[], #[.agg #[.int .u16 0, .int .u16 0, .string ByteArray.empty], .int .u32 0, .int .u32 0], []⟩ 8 (by kernel_rfl) (by kernel_rfl) (by kernel_rfl) (by kernel_rfl)) ?_
  intro W base args ds gs before hval0 hW hcnd _
  have hval : ∀ (j : Nat) t v, Try.f10.params[j]? = some t → args[j]? = some v → Value.okWide Try.prog W .any base t v := hval0
  obtain ⟨p, q, hA0, hV, _, hfz, hnd⟩ := id hW
  have hA : DataW.TrodAll enc Try.prog W 0 (fun _ => true) true Try.f10.params.toList args.toList ds p := hA0
  rw [Try.params10] at hA hval
  obtain ⟨v0, v1, v2, d0, d1, d2, p0, p1, p2, rfl, rfl, rfl, h0, h1, h2⟩ := trodAll_three hA
  obtain ⟨rfl, rfl⟩ := trodVars_none hV
  obtain ⟨fm, tp, ld, rfl, hb0_0, hb0_1, hb0_2⟩ := openUDPWrites0 (hval 0 56 v0 rfl rfl)
  obtain ⟨fi, hb1, rfl⟩ := cell_u32 Try.underlying37 (okWide_icell Try.underlying37 (hval 1 37 v1 rfl rfl))
  obtain ⟨ti, hb2, rfl⟩ := cell_u32 Try.underlying37 (okWide_icell Try.underlying37 (hval 2 37 v2 rfl rfl))
  have hw := lawUDPWrites fm tp fi ti ld W hb0_0 hb0_1 hb1 hb2 hb0_2
  refine hw.mono fun e W' ⟨he, hf⟩ => ?_
  subst he
  exact ⟨_, rfl, law_post laidOut (by intro t ht; rw [Try.params10] at ht; simp at ht; rcases ht with rfl | rfl <;> exact ⟨by kernel_rfl, of_decide_eq_true (by kernel_rfl)⟩) rfl hW rfl rfl rfl rfl Try.underlying4 hf.belowAll⟩

theorem uDPWrites_holds : Rows.UDPWritesSaid :=
  OpenClaim.holds_of_wide (p := Try.pinned) (s := Rows.uDPWritesSpec) (c := Rows.uDPWritesRow) 10 Try.f10 rfl rfl rfl rfl rfl rfl rfl ⟨rfl, rfl, rfl, rfl, rfl⟩ rfl rfl rfl rfl rfl (by kernel_rfl) Try.func10 (by kernel_rfl)
    (of_decide_eq_true (by kernel_rfl)) (by unfold Func.isWrapper; first | (rw [if_pos (by decide +kernel)]; kernel_rfl) | (rw [if_neg (by decide +kernel)]; exact ⟨rfl, rfl⟩))
    (fun os started H enc _ => uDPWrites_lifted os started H enc)
end Go.Proofs.Ytcbkaiakdhiloaa
