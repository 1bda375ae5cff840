/- Proves: for every frame x the law netbootlaw.EtherWrites(x) returns true (and x reads afterwards as before). No condition. -/
import Derived.Test.YtcbkaiakdhiloaaWrEther
import Derived.Test.YtcbkaiakdhiloaaRow
import Derived.Test.YtcbkaiakdhiloaaRowS
set_option linter.unusedSimpArgs false
set_option linter.unusedVariables false
namespace Go.Proofs.Ytcbkaiakdhiloaa
open Go.RowKit Go.Proofs Go.ChangeShapes Go.WideShapes Go.ChangeAt
open Go.WideMaps Go.WideElems
open Go.ChangeMaps (open_string shut_string)

set_option maxRecDepth 100000 in
theorem openEtherWrites0 {w : World} {r : Reach} {base : Nat} {v : Value} (h : Value.okWide Try.prog w r base 44 v) : ∃ (m0 : UInt8) (m1 : UInt8) (m2 : UInt8) (m3 : UInt8) (m4 : UInt8) (m5 : UInt8) (n0 : UInt8) (n1 : UInt8) (n2 : UInt8) (n3 : UInt8) (n4 : UInt8) (n5 : UInt8) (ty : Nat) (ld : List UInt8), v = .agg #[.int .u8 (m0.toNat : Int), .int .u8 (m1.toNat : Int), .int .u8 (m2.toNat : Int), .int .u8 (m3.toNat : Int), .int .u8 (m4.toNat : Int), .int .u8 (m5.toNat : Int), .int .u8 (n0.toNat : Int), .int .u8 (n1.toNat : Int), .int .u8 (n2.toNat : Int), .int .u8 (n3.toNat : Int), .int .u8 (n4.toNat : Int), .int .u8 (n5.toNat : Int), .int .u16 (ty : Int), .string (bs ld)] ∧ ty < 65536 ∧ ld.length ≤ 9223372036854775807 := by
  obtain ⟨l, rfl, hl, hr⟩ := okWide_agg Try.underlying44 h
  have hcl : Try.prog.cellsOf 44 = 14 := by kernel_rfl
  replace hl := hl.trans hcl
  have hts : Try.prog.cellTypes Try.prog.depth 44 = some [5, 5, 5, 5, 5, 5, 5, 5, 5, 5, 5, 5, 30, 9] := by kernel_rfl
  match l, hl with
  | [c0, c1, c2, c3, c4, c5, c6, c7, c8, c9, c10, c11, c12, c13], _ =>
    obtain ⟨m0, rfl⟩ := cell_u8 Try.underlying5 (cell_at hr hts 0 rfl rfl)
    obtain ⟨m1, rfl⟩ := cell_u8 Try.underlying5 (cell_at hr hts 1 rfl rfl)
    obtain ⟨m2, rfl⟩ := cell_u8 Try.underlying5 (cell_at hr hts 2 rfl rfl)
    obtain ⟨m3, rfl⟩ := cell_u8 Try.underlying5 (cell_at hr hts 3 rfl rfl)
    obtain ⟨m4, rfl⟩ := cell_u8 Try.underlying5 (cell_at hr hts 4 rfl rfl)
    obtain ⟨m5, rfl⟩ := cell_u8 Try.underlying5 (cell_at hr hts 5 rfl rfl)
    obtain ⟨n0, rfl⟩ := cell_u8 Try.underlying5 (cell_at hr hts 6 rfl rfl)
    obtain ⟨n1, rfl⟩ := cell_u8 Try.underlying5 (cell_at hr hts 7 rfl rfl)
    obtain ⟨n2, rfl⟩ := cell_u8 Try.underlying5 (cell_at hr hts 8 rfl rfl)
    obtain ⟨n3, rfl⟩ := cell_u8 Try.underlying5 (cell_at hr hts 9 rfl rfl)
    obtain ⟨n4, rfl⟩ := cell_u8 Try.underlying5 (cell_at hr hts 10 rfl rfl)
    obtain ⟨n5, rfl⟩ := cell_u8 Try.underlying5 (cell_at hr hts 11 rfl rfl)
    obtain ⟨ty, b12, rfl⟩ := cell_u16 Try.underlying30 (cell_at hr hts 12 rfl rfl)
    obtain ⟨ld, b13, rfl⟩ := cell_str Try.underlying9 (cell_at hr hts 13 rfl rfl)
    exact ⟨m0, m1, m2, m3, m4, m5, n0, n1, n2, n3, n4, n5, ty, ld, rfl, b12, b13⟩

set_option maxRecDepth 100000 in
theorem etherWrites_lifted (os : Os) (started : os.Started) (H : Type) (enc : TypeId × Value → H) :
    ReturnsInHanded {} Try.checked os 6 .any (Rows.etherWritesSpec.pre6 enc Try.prog Try.f6 Rows.etherWritesRow.domain false) (Rows.etherWritesSpec.post enc Try.prog Try.f6 false true false false) := by
  refine returnsInHanded_of_change (C := Try.checked) own started (by kernel_rfl) Try.func6
    (ChangeSpec.witness6 (enc := enc) (C := Try.checked) false ⟨#[], #[.agg #[.int .u8 0, .int .u8 0, .int .u8 0, .int .u8 0, .int .u8 0, .int .u8 0, .int .u8 0, .int .u8 0, .int .u8 0, .int .u8 0, .int .u8 0, .int .u8 0, .int .u16 0, .string ByteArray.empty]], []⟩ 8 (by kernel_rfl) (by kernel_rfl) (by kernel_rfl) (by kernel_rfl)) ?_
  intro W base args ds gs before hval0 hW hcnd _
  have hval : ∀ (j : Nat) t v, Try.f6.params[j]? = some t → args[j]? = some v → Value.okWide Try.prog W .any base t v := hval0
  obtain ⟨p, q, hA0, hV, _, hfz, hnd⟩ := id hW
  have hA : DataW.TrodAll enc Try.prog W 0 (fun _ => true) true Try.f6.params.toList args.toList ds p := hA0
  rw [Try.params6] at hA hval
  obtain ⟨v0, d0, rfl, rfl, h0⟩ := trodAll_one hA
  obtain ⟨rfl, rfl⟩ := trodVars_none hV
  obtain ⟨m0, m1, m2, m3, m4, m5, n0, n1, n2, n3, n4, n5, ty, ld, rfl, hb0_12, hb0_13⟩ := openEtherWrites0 (hval 0 44 v0 rfl rfl)
  have hw := lawEtherWrites ty ld m0 m1 m2 m3 m4 m5 n0 n1 n2 n3 n4 n5 W hb0_12 hb0_13
  refine hw.mono fun e W' ⟨he, hf⟩ => ?_
  subst he
  exact ⟨_, rfl, law_post laidOut (by intro t ht; rw [Try.params6] at ht; simp at ht; subst ht; exact ⟨by kernel_rfl, of_decide_eq_true (by kernel_rfl)⟩) rfl hW rfl rfl rfl rfl Try.underlying4 hf.belowAll⟩

theorem etherWrites_holds : Rows.EtherWritesSaid :=
  OpenClaim.holds_of_wide (p := Try.pinned) (s := Rows.etherWritesSpec) (c := Rows.etherWritesRow) 6 Try.f6 rfl rfl rfl rfl rfl rfl rfl ⟨rfl, rfl, rfl, rfl, rfl⟩ rfl rfl rfl rfl rfl (by kernel_rfl) Try.func6 (by kernel_rfl)
    (of_decide_eq_true (by kernel_rfl)) (by unfold Func.isWrapper; first | (rw [if_pos (by decide +kernel)]; kernel_rfl) | (rw [if_neg (by decide +kernel)]; exact ⟨rfl, rfl⟩))
    (fun os started H enc _ => etherWrites_lifted os started H enc)
end Go.Proofs.Ytcbkaiakdhiloaa
