/- Proves: for every script the law netbootlaw.Starts(script) returns true (and the script reads afterwards as before), where the listed package variables hold what the program's and the library's texts lay there: the card ties them to it. No other condition. -/
import Derived.Test.YtcbkaiakdhiloabGreatDoorMaa
import Derived.Test.YtcbkaiakdhiloabGreatDoorMaf
import Derived.Test.YtcbkaiakdhiloabGreatDoorMay
import Derived.Test.YtcbkaiakdhiloabGreatDoorProg
import Derived.Test.YtcbkaiakdhiloabGreatDoorShelf
import Derived.Test.YtcbkaiakdhiloabGreatDoorRows
import Derived.Test.YtcbkaiakdhiloabGreatDoorTie
import Derived.Test.YtcbkaiakdhiloabGreatDoorCards
import Derived.WalkKit
import Derived.WalkLawsBesides
import Derived.WalkSpells
import Derived.Deep.AppendLies
import Derived.Deep.DrawnRows
import Derived.Maps.AppendAt
import Derived.StillTailTactics
import Derived.Lib.Hide
import Derived.Lib.AppendStr
import Derived.Lib.Strings
import Derived.Laws.MakeOwn
import Derived.Laws.OwnMore
import Derived.Laws.BitsAllLaws
import Derived.Orders
import Derived.Deep.MidRow
import Derived.Deep.DeepMust
import Derived.Deep.RegionHeld3
import Derived.Deep.RegionLaw
import Derived.Deep.LoopGhost
import Derived.Deep.Cut
import Derived.Deep.CutRange
import Derived.Deep.QuietTactic
import Derived.BigQuiet
import Derived.Lib.ConvBytes
import Derived.Lib.LazyBuf
import Derived.Recover
import Derived.OrdersHeld
import Derived.Lib.MapLaws
import Derived.Lib.TrimAscii
import Derived.Lib.LaidTab
import Derived.Lib.ItoaNum
import Derived.Maps.Own
import Derived.Maps.OwnOps
import Derived.Maps.OwnSet
import Derived.Maps.Views
import Derived.Maps.RangeWalk
import Derived.Deep.CutBlock
import Derived.Laws.StructEq
import Derived.DeepKeys
import Derived.Laws.RangeString
import Derived.Lib.OthersKept
import Derived.Lib.SlBytesRow
import Derived.Lib.ItoaMem
import Derived.Laws.BitsAll
import Derived.RangeFuncGives
import Derived.Sort.MapsRangeIn
import Derived.OwnWalkIn
import Derived.TacticsInMore
import Derived.RegionIn
import Derived.LoopNIn
import Derived.LoopIn
import Derived.Shelf.Abstract
import Derived.Deep.Slices
import Derived.OpenShut
import Derived.Lib.LaidU8T
import Derived.PinnedBridge
import Derived.ProofKit
import Derived.OpenVars
import Derived.Carry
import Derived.SevenTiedAt
import Derived.Lay
import Derived.LaidOnce
import Derived.LaidMore
import Derived.Stop.Joined
set_option linter.unusedSimpArgs false
set_option linter.unusedVariables false
namespace Go.Proofs.YtcbkaiakdhiloabGreatDoor
open Go.ChangeShapes Go.WideShapes Go.ChangeAt Go.WideMaps Go.WideElems Go.RowKit Go.Proofs
open Go.ChangeMaps (open_string shut_string)
theorem slice_cells {P : Program} {w : World} {r : Reach} {base : Nat} {t e : TypeId} {v : Value} (ht : P.underlying t = some (.slice e)) (h : Value.okWide P w r base t v) : v.cells.toList = [v] := by
  unfold Value.okWide at h
  rw [ht] at h
  cases v with
  | agg xs => exfalso; unfold Cell.okWide at h; rw [ht] at h; first | exact h | (simp [Cell.ok, ht] at h)
  | _ => rfl
def laidS : List (String × DataW Unit) := Rows.startsRow.laid
theorem of_laidS {W : World} (h : laidMetH Tryz.prog laidS W) : Glb W ∧ RowG W 4 #[.int .u8 255, .int .u8 255, .int .u8 255, .int .u8 255, .int .u8 255, .int .u8 255] := by
  rw [MakeChecks.laidMetH_plain _ _ _ (by kernel_rfl)] at h
  refine ⟨glb_reads h ?_ ?_ ?_ ?_ ?_ ?_, tab_row (z := 255) (zs := [255, 255, 255, 255, 255]) (tab_reads (name := "netboot/netbootref.all") (g := 4) (t := 23) (e := 5) (n := 6) (by kernel_rfl) (by kernel_rfl) Tryz.underlying23 Tryz.underlying5 (by kernel_rfl) (by kernel_rfl) (Lib.laidMet.reads (d := Rows.laid_netboot_netbootref_all) h ?_)) (by kernel_rfl)⟩
  all_goals (unfold laidS Rows.startsRow; repeat (first | exact List.Mem.head _ | refine List.Mem.tail _ ?_))
set_option maxRecDepth 100000 in
theorem starts_lifted (os : Os) (started : os.Started) (H : Type) (enc : TypeId × Value → H) :
    ReturnsInHanded {} Tryz.checked os 6 .any (fun w args => (Rows.startsSpec.pre enc Tryz.prog Tryz.f6 [] false w args ∧ laidMetH Tryz.prog laidS w) ∧ sizedMet enc Tryz.prog Tryz.f6 (OpenSpec.ofChange Rows.startsSpec) false w args)
      (Rows.startsSpec.post enc Tryz.prog Tryz.f6 false true false false) := by
  refine returnsInHanded_of_change_and (C := Tryz.checked) (X := fun w _ => laidMetH Tryz.prog laidS w) (fun _ _ _ hh h => h.of_heap hh) own started (by kernel_rfl) Tryz.func6
    (ChangeSpec.witness_shaped (enc := enc) (C := Tryz.checked) (os := os) (X := fun w _ => laidMetH Tryz.prog laidS w) false (World.laidAll Tryz.prog os laidS) #[.slice none 0 0] 8 (World.laidAll_os _ _ _)
      (World.shaped_of_ZipB (by kernel_rfl) (by kernel_rfl)) (by kernel_rfl) (by kernel_rfl) (by kernel_rfl)
      (by rw [MakeChecks.laidMetH_plain _ _ _ (by kernel_rfl)]; exact laidMet_laidAll _ (by kernel_rfl) (by kernel_rfl))) ?_
  intro W base args ds gs before hval0 hW _ hsz hL _
  obtain ⟨p, q, hA0, hV, _, hfz, hnd⟩ := id hW
  have hA : DataW.TrodAll enc Tryz.prog W 0 (fun _ => true) true Tryz.f6.params.toList args.toList ds p := hA0
  rw [Tryz.params6] at hA
  obtain ⟨v0, d0, rfl, rfl, h0⟩ := trodAll_one hA
  obtain ⟨rfl, rfl⟩ := trodVars_none hV
  obtain ⟨fuel, hf0⟩ := h0
  rw [slice_cells Tryz.underlying62 (hval0 0 62 v0 (by rw [Tryz.params6]; rfl) rfl)] at hf0
  obtain ⟨ops, A, cap, rfl, hscr, hAa, hD⟩ := openScr hf0
  have hsz' : (DataW.weightsEach Tryz.prog [62] [d0]).all (· ≤ reachBytes) = true := hsz
  obtain ⟨hn, hl⟩ := scr_lens hD hsz'
  obtain ⟨hG, ha⟩ := of_laidS hL
  refine (startsFn ops A cap W hscr hG ha hl hn hAa).mono fun e W' ⟨he, hf⟩ => ?_
  subst he
  exact ⟨_, rfl, law_post laidOut (by intro t ht; rw [Tryz.params6] at ht; simp at ht; subst ht; exact ⟨by kernel_rfl, of_decide_eq_true (by kernel_rfl)⟩) rfl hW rfl rfl rfl rfl Tryz.underlying4 hf.belowAll⟩
theorem starts_f1 : Tryz.checked.prog.inPlace 6 = Rows.startsRow.inPlace := by kernel_rfl
theorem starts_f2 : Tryz.checked.prog.unfollowed 6 = Rows.startsRow.unfollowed := by kernel_rfl
theorem starts_f3 : Tryz.checked.prog.recurses 6 = Rows.startsRow.recurses := by kernel_rfl
theorem starts_f4 : Tryz.checked.prog.varsNamed 6 = Rows.startsRow.named := by kernel_rfl
theorem starts_facts : joinedFacts Tryz.checked.prog 6 Tryz.f6 Rows.startsSpec Rows.startsRow = true := by
  unfold joinedFacts
  rw [starts_f1, starts_f2, starts_f3, starts_f4]
  kernel_rfl
theorem starts_row : Rows.StartsSaid :=
  OpenClaim.holds_of_wide (p := Tryz.pinned) (s := Rows.startsSpec) (c := Rows.startsRow) 6 Tryz.f6 rfl rfl rfl rfl rfl rfl rfl ⟨rfl, rfl, rfl, rfl, rfl⟩ rfl rfl rfl rfl rfl (by kernel_rfl) Tryz.func6 starts_facts
    (of_decide_eq_true (by kernel_rfl)) (by unfold Func.isWrapper; first | (rw [if_pos (by decide +kernel)]; kernel_rfl) | (rw [if_neg (by decide +kernel)]; exact ⟨rfl, rfl⟩))
    (fun os started H enc _ => starts_lifted os started H enc)
theorem starts_holds : Rows.StartsCardSaid :=
  Claim7.holds_tied_plain_at .later [] Rows.startsCard.laidKinds true Rows.startsCard.stood.harness true
    starts_row (fun _ h => by cases h) (by kernel_rfl) (fun _ h => by cases h) starts_row_tie rfl ⟨rfl, rfl⟩ (by kernel_rfl) rfl
    (fun f fn hf hfn => by
      obtain rfl : f = 6 := Option.some.inj ((show Tryz.prog.funcNamed "netboot/netbootlaw.Starts" = some 6 by kernel_rfl).symm.trans hf) |>.symm
      obtain rfl : fn = Tryz.f6 := (Option.some.inj (Tryz.func6.symm.trans hfn)).symm
      exact ⟨by kernel_rfl, fun j t ht => by
        rw [Tryz.params6] at ht
        have hm : t ∈ [62] := by simpa using Array.mem_of_getElem? ht
        have hall : ([62].all fun u => !Tryz.prog.wantsStandIn u) = true := by kernel_rfl
        exact (show Tryz.prog.wantsStandIn t = false by simpa using List.all_eq_true.1 hall t hm)⟩)
    (by kernel_rfl)
end Go.Proofs.YtcbkaiakdhiloabGreatDoor
