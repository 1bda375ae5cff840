/- Proves: for every ARP x the law netbootlaw.ARPWrites(x) returns true (and x reads afterwards as before). No condition. -/
import Derived.Test.YtcbkaiakdhiloaaWrARP
import Derived.Test.YtcbkaiakdhiloaaRow
import Derived.Test.YtcbkaiakdhiloaaRowS
set_option linter.unusedSimpArgs false
set_option linter.unusedVariables false
namespace Go.Proofs.Ytcbkaiakdhiloaa
open Go.RowKit Go.Proofs Go.ChangeShapes Go.WideShapes Go.ChangeAt
open Go.WideMaps Go.WideElems
open Go.ChangeMaps (open_string shut_string)

set_option maxRecDepth 100000 in
theorem openARPWrites0 {w : World} {r : Reach} {base : Nat} {v : Value} (h : Value.okWide Try.prog w r base 39 v) : ∃ (op : Nat) (m0 : UInt8) (m1 : UInt8) (m2 : UInt8) (m3 : UInt8) (m4 : UInt8) (m5 : UInt8) (fi : Nat) (n0 : UInt8) (n1 : UInt8) (n2 : UInt8) (n3 : UInt8) (n4 : UInt8) (n5 : UInt8) (ti : Nat), v = .agg #[.int .u16 (op : Int), .int .u8 (m0.toNat : Int), .int .u8 (m1.toNat : Int), .int .u8 (m2.toNat : Int), .int .u8 (m3.toNat : Int), .int .u8 (m4.toNat : Int), .int .u8 (m5.toNat : Int), .int .u32 (fi : Int), .int .u8 (n0.toNat : Int), .int .u8 (n1.toNat : Int), .int .u8 (n2.toNat : Int), .int .u8 (n3.toNat : Int), .int .u8 (n4.toNat : Int), .int .u8 (n5.toNat : Int), .int .u32 (ti : Int)] ∧ op < 65536 ∧ fi < 4294967296 ∧ ti < 4294967296 := by
  obtain ⟨l, rfl, hl, hr⟩ := okWide_agg Try.underlying39 h
  have hcl : Try.prog.cellsOf 39 = 15 := by kernel_rfl
  replace hl := hl.trans hcl
  have hts : Try.prog.cellTypes Try.prog.depth 39 = some [30, 5, 5, 5, 5, 5, 5, 37, 5, 5, 5, 5, 5, 5, 37] := by kernel_rfl
  match l, hl with
  | [c0, c1, c2, c3, c4, c5, c6, c7, c8, c9, c10, c11, c12, c13, c14], _ =>
    obtain ⟨op, b0, rfl⟩ := cell_u16 Try.underlying30 (cell_at hr hts 0 rfl rfl)
    obtain ⟨m0, rfl⟩ := cell_u8 Try.underlying5 (cell_at hr hts 1 rfl rfl)
    obtain ⟨m1, rfl⟩ := cell_u8 Try.underlying5 (cell_at hr hts 2 rfl rfl)
    obtain ⟨m2, rfl⟩ := cell_u8 Try.underlying5 (cell_at hr hts 3 rfl rfl)
    obtain ⟨m3, rfl⟩ := cell_u8 Try.underlying5 (cell_at hr hts 4 rfl rfl)
    obtain ⟨m4, rfl⟩ := cell_u8 Try.underlying5 (cell_at hr hts 5 rfl rfl)
    obtain ⟨m5, rfl⟩ := cell_u8 Try.underlying5 (cell_at hr hts 6 rfl rfl)
    obtain ⟨fi, b7, rfl⟩ := cell_u32 Try.underlying37 (cell_at hr hts 7 rfl rfl)
    obtain ⟨n0, rfl⟩ := cell_u8 Try.underlying5 (cell_at hr hts 8 rfl rfl)
    obtain ⟨n1, rfl⟩ := cell_u8 Try.underlying5 (cell_at hr hts 9 rfl rfl)
    obtain ⟨n2, rfl⟩ := cell_u8 Try.underlying5 (cell_at hr hts 10 rfl rfl)
    obtain ⟨n3, rfl⟩ := cell_u8 Try.underlying5 (cell_at hr hts 11 rfl rfl)
    obtain ⟨n4, rfl⟩ := cell_u8 Try.underlying5 (cell_at hr hts 12 rfl rfl)
    obtain ⟨n5, rfl⟩ := cell_u8 Try.underlying5 (cell_at hr hts 13 rfl rfl)
    obtain ⟨ti, b14, rfl⟩ := cell_u32 Try.underlying37 (cell_at hr hts 14 rfl rfl)
    exact ⟨op, m0, m1, m2, m3, m4, m5, fi, n0, n1, n2, n3, n4, n5, ti, rfl, b0, b7, b14⟩

set_option maxRecDepth 100000 in
theorem aRPWrites_lifted (os : Os) (started : os.Started) (H : Type) (enc : TypeId × Value → H) :
    ReturnsInHanded {} Try.checked os 5 .any (Rows.aRPWritesSpec.pre6 enc Try.prog Try.f5 Rows.aRPWritesRow.domain false) (Rows.aRPWritesSpec.post enc Try.prog Try.f5 false true false false) := by
  refine returnsInHanded_of_change (C := Try.checked) own started (by kernel_rfl) Try.func5
    (ChangeSpec.witness6 (enc := enc) (C := Try.checked) false ⟨#[], #[.agg #[.int .u16 0, .int .u8 0, .int .u8 0, .int .u8 0, .int .u8 0, .int .u8 0, .int .u8 0, .int .u32 0, .int .u8 0, .int .u8 0, .int .u8 0, .int .u8 0, .int .u8 0, .int .u8 0, .int .u32 0]], []⟩ 8 (by kernel_rfl) (by kernel_rfl) (by kernel_rfl) (by kernel_rfl)) ?_
  intro W base args ds gs before hval0 hW hcnd _
  have hval : ∀ (j : Nat) t v, Try.f5.params[j]? = some t → args[j]? = some v → Value.okWide Try.prog W .any base t v := hval0
  obtain ⟨p, q, hA0, hV, _, hfz, hnd⟩ := id hW
  have hA : DataW.TrodAll enc Try.prog W 0 (fun _ => true) true Try.f5.params.toList args.toList ds p := hA0
  rw [Try.params5] at hA hval
  obtain ⟨v0, d0, rfl, rfl, h0⟩ := trodAll_one hA
  obtain ⟨rfl, rfl⟩ := trodVars_none hV
  obtain ⟨op, m0, m1, m2, m3, m4, m5, fi, n0, n1, n2, n3, n4, n5, ti, rfl, hb0_0, hb0_7, hb0_14⟩ := openARPWrites0 (hval 0 39 v0 rfl rfl)
  have hw := lawARPWrites op fi ti m0 m1 m2 m3 m4 m5 n0 n1 n2 n3 n4 n5 W hb0_0 hb0_7 hb0_14
  refine hw.mono fun e W' ⟨he, hf⟩ => ?_
  subst he
  exact ⟨_, rfl, law_post laidOut (by intro t ht; rw [Try.params5] at ht; simp at ht; subst ht; exact ⟨by kernel_rfl, of_decide_eq_true (by kernel_rfl)⟩) rfl hW rfl rfl rfl rfl Try.underlying4 hf.belowAll⟩

theorem aRPWrites_holds : Rows.ARPWritesSaid :=
  OpenClaim.holds_of_wide (p := Try.pinned) (s := Rows.aRPWritesSpec) (c := Rows.aRPWritesRow) 5 Try.f5 rfl rfl rfl rfl rfl rfl rfl ⟨rfl, rfl, rfl, rfl, rfl⟩ rfl rfl rfl rfl rfl (by kernel_rfl) Try.func5 (by kernel_rfl)
    (of_decide_eq_true (by kernel_rfl)) (by unfold Func.isWrapper; first | (rw [if_pos (by decide +kernel)]; kernel_rfl) | (rw [if_neg (by decide +kernel)]; exact ⟨rfl, rfl⟩))
    (fun os started H enc _ => aRPWrites_lifted os started H enc)
end Go.Proofs.Ytcbkaiakdhiloaa
