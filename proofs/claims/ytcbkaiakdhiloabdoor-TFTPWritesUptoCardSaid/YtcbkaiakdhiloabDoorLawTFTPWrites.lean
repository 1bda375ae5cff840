/- Proves: for every message x whose reading is of bulk at most 1048576 the law netbootlaw.TFTPWrites(x) returns true (and x reads afterwards as before), where the package variables unicode/utf8.first and unicode/utf8.acceptRanges hold what the library's text lays there: the card ties them to it. The condition: the bulk. -/
import Derived.Test.YtcbkaiakdhiloabDoorOpenTft
import Derived.Test.YtcbkaiakdhiloabDoorRow
import Derived.Test.YtcbkaiakdhiloabDoorTie
import Derived.Test.YtcbkaiakdhiloabDoorCards
import Derived.SevenTiedAt
import Derived.JoinedCond
import Derived.Deep.DeepHandedRow
import Derived.Lib.LaidU8T
import Derived.PinnedBridge
import Derived.Lay
import Derived.LaidOnce
set_option linter.unusedSimpArgs false
set_option linter.unusedVariables false
namespace Go.Proofs.YtcbkaiakdhiloabDoor
open Go.ChangeShapes Go.WideShapes Go.ChangeAt Go.WideMaps Go.WideElems Go.RowKit Go.Proofs
open Go.ChangeMaps (open_string shut_string)

def u8renW : Go.Shelf.Ren := ⟨fun n => n, fun | 5 => 5 | 119 => 137 | 138 => 139 | 139 => 140 | n => n, fun | 3 => 5 | 4 => 6 | n => n⟩
theorem u8typesW : U8Types Tryd.prog u8renW := ⟨by kernel_rfl, by kernel_rfl, by kernel_rfl, by kernel_rfl⟩
theorem u8extraW : U8Extra Tryd.prog u8renW := ⟨by kernel_rfl, by kernel_rfl, by kernel_rfl, by kernel_rfl, by kernel_rfl, by kernel_rfl, by kernel_rfl⟩
theorem acc_eqW : (Rows.laid_unicode_utf8_acceptRanges : DataW Unit) = Lib.acceptData := by kernel_rfl
theorem fst_eqW : Rows.laid_unicode_utf8_first = Lib.firstData := Go.Pinned.utf8First_eq
theorem tabs_laid {W : World} (h : laidMetH Tryd.prog Rows.tFTPWritesUptoRow.laid W) : Tabs W := by
  rw [MakeChecks.laidMetH_plain _ _ _ (by kernel_rfl)] at h
  exact utf8Tabs_of_readsT u8typesW u8extraW (fst_eqW ▸ Lib.laidMet.reads h (.tail _ (.head _))) (acc_eqW ▸ Lib.laidMet.reads h (.head _))
def argW : Value := .agg #[.int .u16 0, .int .u16 0, .string ⟨#[]⟩, .string ⟨#[]⟩, .slice none 0 0]
theorem readsW (os : Os) {H : Type} (enc : TypeId × Value → H) : ∃ places, DataW.whole enc Tryd.prog ((World.laidAll Tryd.prog os Rows.tFTPWritesUptoRow.laid).forCall (fun _ _ => 0) ⟨#[], #[argW], []⟩).memory Tryd.f5.params.toList Rows.tFTPWritesSpec.vars false #[argW].toList 8 =
    some ([.agg [.lit (.int .u16 0), .lit (.int .u16 0), .lit (.string []), .lit (.string []), .nil]], [], places) :=
  ⟨[], by kernel_rfl⟩

set_option maxRecDepth 100000 in
theorem tFTPWrites_lifted (os : Os) (started : os.Started) (H : Type) (enc : TypeId × Value → H) (F : Stop.Interp) :
    ReturnsInHanded {} Tryd.checked os 5 .any ((Rows.OpenSpec.upto Rows.tFTPWritesSpec).preRow enc Tryd.prog Tryd.f5 Rows.tFTPWritesUptoRow.domain false Rows.tFTPWritesUptoRow.laid) (((Rows.OpenSpec.upto Rows.tFTPWritesSpec).at F).post enc Tryd.prog Tryd.f5 false true false false) := by
  obtain ⟨places, hx⟩ := readsW os enc
  refine returnsInHanded_of_row (C := Tryd.checked) (s := Rows.OpenSpec.upto Rows.tFTPWritesSpec) own started (by kernel_rfl) Tryd.func5
    ⟨World.laidAll Tryd.prog os Rows.tFTPWritesUptoRow.laid, fun _ _ => 0, ⟨#[], #[argW], []⟩, World.laidAll_os _ _ _, World.shaped_of_ZipB (by kernel_rfl) (by kernel_rfl),
      (Input.okWide_of_okWideB (base := 0) (show Input.okWideB Tryd.checked.prog ((World.laidAll Tryd.prog os Rows.tFTPWritesUptoRow.laid).forCall (fun _ _ => 0) ⟨#[], #[argW], []⟩) 5 ⟨#[], #[argW], []⟩ = true by kernel_rfl)).1,
      (Input.okWide_of_okWideB (show Input.okWideB Tryd.checked.prog ((World.laidAll Tryd.prog os Rows.tFTPWritesUptoRow.laid).forCall (fun _ _ => 0) ⟨#[], #[argW], []⟩) 5 ⟨#[], #[argW], []⟩ = true by kernel_rfl)).2,
      OpenSpec.preRow_of_cond 8 hx (by kernel_rfl) (fun k hk => by cases hk; kernel_rfl) (by kernel_rfl) (by rw [MakeChecks.laidMetH_plain _ _ _ (by kernel_rfl)]; exact laidMet_laidAll _ (by kernel_rfl) (by kernel_rfl)),
      by
        simp only [Assume.holds]
        exact ⟨by simp, by simp, fun _ => Modest.zero, by simp, by simp⟩⟩ ?_
  intro W base args ds gs before hval0 hW h1 h2 hcond hL h3 h4
  have hval : ∀ (j : Nat) t v, Tryd.f5.params[j]? = some t → args[j]? = some v → Value.okWide Tryd.prog W .any base t v := hval0
  obtain ⟨p, q, hA0, hV, _, hfz, hnd⟩ := id hW
  have hA : DataW.TrodAll enc Tryd.prog W 0 (fun _ => true) true Tryd.f5.params.toList args.toList ds p := hA0
  rw [Tryd.params5] at hA hval
  obtain ⟨v0, d0, rfl, rfl, h0'⟩ := trodAll_one hA
  obtain ⟨rfl, rfl⟩ := trodVars_none hV
  obtain ⟨op, bk, tx, dt, fs, Ao, cap, rfl, b0, b1, hnc, hAo, hw⟩ := openTft (hval 0 47 v0 rfl rfl) h0'
  have hb : Rows.uptoBulkAll ([d0] ++ []) ≤ 1048576 := of_decide_eq_true (h2 _ rfl)
  simp only [List.append_nil, Rows.uptoBulkAll] at hb
  refine (lawTFTPWrites op bk tx dt fs Ao cap W b0 b1 hAo hnc (by omega) (by omega) (by omega) (tabs_laid hL)).mono fun e W' ⟨he, hf⟩ => ?_
  subst he
  exact ⟨_, rfl, law_post laidOut (by intro t ht; rw [Tryd.params5] at ht; simp at ht; subst ht; exact ⟨by kernel_rfl, of_decide_eq_true (by kernel_rfl)⟩) rfl hW rfl rfl rfl rfl Tryd.underlying4 hf.belowAll⟩

theorem tFTPWrites_row : Rows.TFTPWritesUptoSaid :=
  OpenClaim.holds_of_cond 5 Tryd.f5 rfl rfl rfl rfl rfl rfl rfl ⟨rfl, rfl, rfl, rfl, rfl⟩ rfl rfl rfl rfl rfl (by kernel_rfl) Tryd.func5 (by kernel_rfl)
    (of_decide_eq_true (by kernel_rfl)) (by unfold Func.isWrapper; first | (rw [if_pos (by decide +kernel)]; kernel_rfl) | (rw [if_neg (by decide +kernel)]; exact ⟨rfl, rfl⟩))
    (fun os started H enc _ F => by rw [OpenClaim.pre_eq_preRow]; exact tFTPWrites_lifted os started H enc F)

theorem tFTPWrites_holds : Rows.TFTPWritesUptoCardSaid :=
  Claim7.holds_tied_plain_at .later [] [.data, .pinned] true (true, "1c904521f6ac00bcd3fc129b79dffee05bc9ce0c074822aa9e3ae1a92e5364bb") true
    tFTPWrites_row (fun _ h => by cases h) (by kernel_rfl) (fun _ h => by cases h) tFTPWritesUpto_row_tie rfl ⟨rfl, rfl⟩ (by kernel_rfl) rfl
    (fun f fn hf hfn => by
      obtain rfl : f = 5 := Option.some.inj ((show Tryd.prog.funcNamed "netboot/netbootlaw.TFTPWrites" = some 5 by kernel_rfl).symm.trans hf) |>.symm
      obtain rfl : fn = Tryd.f5 := (Option.some.inj (Tryd.func5.symm.trans hfn)).symm
      exact ⟨by kernel_rfl, fun j t ht => by
        rw [Tryd.params5] at ht
        have hm : t ∈ [47] := by simpa using Array.mem_of_getElem? ht
        have hall : ([47].all fun u => !Tryd.prog.wantsStandIn u) = true := by kernel_rfl
        exact (show Tryd.prog.wantsStandIn t = false by simpa using List.all_eq_true.1 hall t hm)⟩)
    (by kernel_rfl)
end Go.Proofs.YtcbkaiakdhiloabDoor
