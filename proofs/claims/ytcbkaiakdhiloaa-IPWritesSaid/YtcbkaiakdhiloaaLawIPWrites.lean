/- Proves: for every packet x the law netbootlaw.IPWrites(x) returns true (and x reads afterwards as before). No condition. -/
import Derived.Test.YtcbkaiakdhiloaaWrIP
import Derived.Test.YtcbkaiakdhiloaaRow
import Derived.Test.YtcbkaiakdhiloaaRowS
set_option linter.unusedSimpArgs false
set_option linter.unusedVariables false
namespace Go.Proofs.Ytcbkaiakdhiloaa
open Go.RowKit Go.Proofs Go.ChangeShapes Go.WideShapes Go.ChangeAt
open Go.WideMaps Go.WideElems
open Go.ChangeMaps (open_string shut_string)

set_option maxRecDepth 100000 in
theorem openIPWrites0 {w : World} {r : Reach} {base : Nat} {v : Value} (h : Value.okWide Try.prog w r base 52 v) : ∃ (id : Nat) (ttl : UInt8) (pr : UInt8) (fi : Nat) (ti : Nat) (ld : List UInt8), v = .agg #[.int .u16 (id : Int), .int .u8 (ttl.toNat : Int), .int .u8 (pr.toNat : Int), .int .u32 (fi : Int), .int .u32 (ti : Int), .string (bs ld)] ∧ id < 65536 ∧ fi < 4294967296 ∧ ti < 4294967296 ∧ ld.length ≤ 9223372036854775807 := by
  obtain ⟨l, rfl, hl, hr⟩ := okWide_agg Try.underlying52 h
  have hcl : Try.prog.cellsOf 52 = 6 := by kernel_rfl
  replace hl := hl.trans hcl
  have hts : Try.prog.cellTypes Try.prog.depth 52 = some [30, 5, 5, 37, 37, 9] := by kernel_rfl
  match l, hl with
  | [c0, c1, c2, c3, c4, c5], _ =>
    obtain ⟨id, b0, rfl⟩ := cell_u16 Try.underlying30 (cell_at hr hts 0 rfl rfl)
    obtain ⟨ttl, rfl⟩ := cell_u8 Try.underlying5 (cell_at hr hts 1 rfl rfl)
    obtain ⟨pr, rfl⟩ := cell_u8 Try.underlying5 (cell_at hr hts 2 rfl rfl)
    obtain ⟨fi, b3, rfl⟩ := cell_u32 Try.underlying37 (cell_at hr hts 3 rfl rfl)
    obtain ⟨ti, b4, rfl⟩ := cell_u32 Try.underlying37 (cell_at hr hts 4 rfl rfl)
    obtain ⟨ld, b5, rfl⟩ := cell_str Try.underlying9 (cell_at hr hts 5 rfl rfl)
    exact ⟨id, ttl, pr, fi, ti, ld, rfl, b0, b3, b4, b5⟩

set_option maxRecDepth 100000 in
theorem iPWrites_lifted (os : Os) (started : os.Started) (H : Type) (enc : TypeId × Value → H) :
    ReturnsInHanded {} Try.checked os 9 .any (Rows.iPWritesSpec.pre6 enc Try.prog Try.f9 Rows.iPWritesRow.domain false) (Rows.iPWritesSpec.post enc Try.prog Try.f9 false true false false) := by
  refine returnsInHanded_of_change (C := Try.checked) own started (by kernel_rfl) Try.func9
    (ChangeSpec.witness6 (enc := enc) (C := Try.checked) false ⟨#[], #[.agg #[.int .u16 0, .int .u8 0, .int .u8 0, .int .u32 0, .int .u32 0, .string ByteArray.empty]], []⟩ 8 (by kernel_rfl) (by kernel_rfl) (by kernel_rfl) (by kernel_rfl)) ?_
  intro W base args ds gs before hval0 hW hcnd _
  have hval : ∀ (j : Nat) t v, Try.f9.params[j]? = some t → args[j]? = some v → Value.okWide Try.prog W .any base t v := hval0
  obtain ⟨p, q, hA0, hV, _, hfz, hnd⟩ := id hW
  have hA : DataW.TrodAll enc Try.prog W 0 (fun _ => true) true Try.f9.params.toList args.toList ds p := hA0
  rw [Try.params9] at hA hval
  obtain ⟨v0, d0, rfl, rfl, h0⟩ := trodAll_one hA
  obtain ⟨rfl, rfl⟩ := trodVars_none hV
  obtain ⟨id, ttl, pr, fi, ti, ld, rfl, hb0_0, hb0_3, hb0_4, hb0_5⟩ := openIPWrites0 (hval 0 52 v0 rfl rfl)
  have hw := lawIPWrites id fi ti ttl pr ld W hb0_0 hb0_3 hb0_4 hb0_5
  refine hw.mono fun e W' ⟨he, hf⟩ => ?_
  subst he
  exact ⟨_, rfl, law_post laidOut (by intro t ht; rw [Try.params9] at ht; simp at ht; subst ht; exact ⟨by kernel_rfl, of_decide_eq_true (by kernel_rfl)⟩) rfl hW rfl rfl rfl rfl Try.underlying4 hf.belowAll⟩

theorem iPWrites_holds : Rows.IPWritesSaid :=
  OpenClaim.holds_of_wide (p := Try.pinned) (s := Rows.iPWritesSpec) (c := Rows.iPWritesRow) 9 Try.f9 rfl rfl rfl rfl rfl rfl rfl ⟨rfl, rfl, rfl, rfl, rfl⟩ rfl rfl rfl rfl rfl (by kernel_rfl) Try.func9 (by kernel_rfl)
    (of_decide_eq_true (by kernel_rfl)) (by unfold Func.isWrapper; first | (rw [if_pos (by decide +kernel)]; kernel_rfl) | (rw [if_neg (by decide +kernel)]; exact ⟨rfl, rfl⟩))
    (fun os started H enc _ => iPWrites_lifted os started H enc)
end Go.Proofs.Ytcbkaiakdhiloaa
