/- Proves: for all numbers the law netbootkeep.Silent(last, draw) returns true (and its arguments read afterwards as before), where the listed package variables hold what the program's and the library's texts lay there: the card ties them to it. No other condition. -/
import Derived.Test.YtcbkaiakdhiloabGreatDoorMaa
import Derived.Test.YtcbkaiakdhiloabGreatDoorMaf
import Derived.Test.YtcbkaiakdhiloabGreatDoorMat
import Derived.Test.YtcbkaiakdhiloabGreatDoorProg
import Derived.Test.YtcbkaiakdhiloabGreatDoorShelf
import Derived.Test.YtcbkaiakdhiloabGreatDoorRows
import Derived.Test.YtcbkaiakdhiloabGreatDoorTie
import Derived.Test.YtcbkaiakdhiloabGreatDoorCards
import Derived.WalkKit
import Derived.WalkLawsBesides
import Derived.WalkSpells
import Derived.Deep.AppendLies
import Derived.Deep.DrawnRows
import Derived.Maps.AppendAt
import Derived.StillTailTactics
import Derived.Lib.Hide
import Derived.Lib.AppendStr
import Derived.Lib.Strings
import Derived.Laws.MakeOwn
import Derived.Laws.OwnMore
import Derived.Laws.BitsAllLaws
import Derived.Orders
import Derived.Deep.MidRow
import Derived.Deep.DeepMust
import Derived.Deep.RegionHeld3
import Derived.Deep.RegionLaw
import Derived.Deep.LoopGhost
import Derived.Deep.Cut
import Derived.Deep.CutRange
import Derived.Deep.QuietTactic
import Derived.BigQuiet
import Derived.Lib.ConvBytes
import Derived.Lib.LazyBuf
import Derived.Recover
import Derived.OrdersHeld
import Derived.Lib.MapLaws
import Derived.Lib.TrimAscii
import Derived.Lib.LaidTab
import Derived.Lib.ItoaNum
import Derived.Maps.Own
import Derived.Maps.OwnOps
import Derived.Maps.OwnSet
import Derived.Maps.Views
import Derived.Maps.RangeWalk
import Derived.Lib.SlBytesRow
import Derived.Deep.CutBlock
import Derived.Lib.ItoaMem
import Derived.Laws.StructEq
import Derived.DeepKeys
import Derived.RangeFuncGives
import Derived.Sort.MapsRangeIn
import Derived.OwnWalkIn
import Derived.TacticsInMore
import Derived.RegionIn
import Derived.LoopNIn
import Derived.LoopIn
import Derived.Shelf.Abstract
import Derived.Laws.RangeString
import Derived.Lib.OthersKept
import Derived.Lib.LaidU8T
import Derived.PinnedBridge
import Derived.ProofKit
import Derived.OpenVars
import Derived.Carry
import Derived.SevenTiedAt
import Derived.Lay
import Derived.LaidOnce
import Derived.LaidMore
import Derived.OpenShut
import Derived.Stop.Joined
set_option linter.unusedSimpArgs false
set_option linter.unusedVariables false
namespace Go.Proofs.YtcbkaiakdhiloabGreatDoor
open Go.ChangeShapes Go.WideShapes Go.ChangeAt Go.WideMaps Go.WideElems Go.RowKit Go.Proofs
open Go.ChangeMaps (open_string shut_string)
def laidS : List (String × DataW Unit) := Rows.silentRow.laid
theorem of_laidS {W : World} (h : laidMetH Tryz.prog laidS W) : Glb W ∧ CardG (2, 0, 0, 0, 0, 42) W := by
  rw [MakeChecks.laidMetH_plain _ _ _ (by kernel_rfl)] at h
  refine ⟨glb_reads h ?_ ?_ ?_ ?_ ?_ ?_, tab_row (z := 2) (zs := [0, 0, 0, 0, 42]) (tab_reads (name := "netboot/netbootkeep.card") (g := 1) (t := 23) (e := 5) (n := 6) (by kernel_rfl) (by kernel_rfl) Tryz.underlying23 Tryz.underlying5 (by kernel_rfl) (by kernel_rfl) (Lib.laidMet.reads (d := Rows.laid_netboot_netbootkeep_card) h ?_)) (by kernel_rfl)⟩
  all_goals (unfold laidS Rows.silentRow; repeat (first | exact List.Mem.head _ | refine List.Mem.tail _ ?_))
set_option maxRecDepth 100000 in
theorem silent_lifted (os : Os) (started : os.Started) (H : Type) (enc : TypeId × Value → H) :
    ReturnsInHanded {} Tryz.checked os 4 .any (fun w args => (Rows.silentSpec.pre enc Tryz.prog Tryz.f4 [] false w args ∧ laidMetH Tryz.prog laidS w) ∧ sizedMet enc Tryz.prog Tryz.f4 (OpenSpec.ofChange Rows.silentSpec) false w args)
      (Rows.silentSpec.post enc Tryz.prog Tryz.f4 false true false false) := by
  refine returnsInHanded_of_change_and (C := Tryz.checked) (X := fun w _ => laidMetH Tryz.prog laidS w) (fun _ _ _ hh h => h.of_heap hh) own started (by kernel_rfl) Tryz.func4
    (ChangeSpec.witness_shaped (enc := enc) (C := Tryz.checked) (os := os) (X := fun w _ => laidMetH Tryz.prog laidS w) false (World.laidAll Tryz.prog os laidS) #[.int .i64 0, .int .i64 0] 8 (World.laidAll_os _ _ _)
      (World.shaped_of_ZipB (by kernel_rfl) (by kernel_rfl)) (by kernel_rfl) (by kernel_rfl) (by kernel_rfl)
      (by rw [MakeChecks.laidMetH_plain _ _ _ (by kernel_rfl)]; exact laidMet_laidAll _ (by kernel_rfl) (by kernel_rfl))) ?_
  intro W base args ds gs before hval0 hW _ _ hL _
  have hval : ∀ (j : Nat) t v, Tryz.f4.params[j]? = some t → args[j]? = some v → Value.okWide Tryz.prog W .any base t v := hval0
  obtain ⟨p, q, hA0, hV, _, hfz, hnd⟩ := id hW
  have hA : DataW.TrodAll enc Tryz.prog W 0 (fun _ => true) true Tryz.f4.params.toList args.toList ds p := hA0
  rw [Tryz.params4] at hA hval
  obtain ⟨v0, v1, d0, d1, p0, p1, rfl, rfl, rfl, h0, h1⟩ := trodAll_two hA
  obtain ⟨rfl, rfl⟩ := trodVars_none hV
  obtain ⟨i0, rfl, hb0⟩ := cell_int Tryz.underlying3 (okWide_icell Tryz.underlying3 (hval 0 3 v0 rfl rfl))
  obtain ⟨i1, rfl, hb1⟩ := cell_int Tryz.underlying3 (okWide_icell Tryz.underlying3 (hval 1 3 v1 rfl rfl))
  have hb1a : -9223372036854775808 ≤ i1 := by
    have h1 := hb1.1
    have e1 : IntKind.i64.min = -9223372036854775808 := by decide
    omega
  have hb1b : i1 ≤ 9223372036854775807 := by
    have h1 := hb1.2
    have e1 : IntKind.i64.max = 9223372036854775807 := by decide
    omega
  obtain ⟨hG, hC⟩ := of_laidS hL
  refine (silentFn (2, 0, 0, 0, 0, 42) i0 i1 W hC hG (by decide) (by decide) hb1a hb1b).mono fun e W' ⟨he, hf⟩ => ?_
  subst he
  exact ⟨_, rfl, law_post laidOut (by intro t ht; rw [Tryz.params4] at ht; simp at ht; subst ht; exact ⟨by kernel_rfl, of_decide_eq_true (by kernel_rfl)⟩) rfl hW rfl rfl rfl rfl Tryz.underlying4 hf.belowAll⟩
theorem silent_row : Rows.SilentSaid :=
  OpenClaim.holds_of_wide (p := Tryz.pinned) (s := Rows.silentSpec) (c := Rows.silentRow) 4 Tryz.f4 rfl rfl rfl rfl rfl rfl rfl ⟨rfl, rfl, rfl, rfl, rfl⟩ rfl rfl rfl rfl rfl (by kernel_rfl) Tryz.func4 (by kernel_rfl)
    (of_decide_eq_true (by kernel_rfl)) (by unfold Func.isWrapper; first | (rw [if_pos (by decide +kernel)]; kernel_rfl) | (rw [if_neg (by decide +kernel)]; exact ⟨rfl, rfl⟩))
    (fun os started H enc _ => silent_lifted os started H enc)
theorem silent_holds : Rows.SilentCardSaid :=
  Claim7.holds_tied_plain_at .later [] Rows.silentCard.laidKinds true Rows.silentCard.stood.harness true
    silent_row (fun _ h => by cases h) (by kernel_rfl) (fun _ h => by cases h) silent_row_tie rfl ⟨rfl, rfl⟩ (by kernel_rfl) rfl
    (fun f fn hf hfn => by
      obtain rfl : f = 4 := Option.some.inj ((show Tryz.prog.funcNamed "netboot/netbootkeep.Silent" = some 4 by kernel_rfl).symm.trans hf) |>.symm
      obtain rfl : fn = Tryz.f4 := (Option.some.inj (Tryz.func4.symm.trans hfn)).symm
      exact ⟨by kernel_rfl, fun j t ht => by
        rw [Tryz.params4] at ht
        have hm : t ∈ [3, 3] := by simpa using Array.mem_of_getElem? ht
        have hall : ([3, 3].all fun u => !Tryz.prog.wantsStandIn u) = true := by kernel_rfl
        exact (show Tryz.prog.wantsStandIn t = false by simpa using List.all_eq_true.1 hall t hm)⟩)
    (by kernel_rfl)
end Go.Proofs.YtcbkaiakdhiloabGreatDoor
