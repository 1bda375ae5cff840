/- Proves: the law netbootkeep.Known() returns true, where the listed package variables hold what the program's and the library's texts lay there: the card ties them to it. No other condition. -/
import Derived.Test.YtcbkaiakdhiloacGreatDoorMav
import Derived.Test.YtcbkaiakdhiloacGreatDoorTie
import Derived.Test.YtcbkaiakdhiloacGreatDoorCards
import Derived.SevenTiedAt
import Derived.Lay
import Derived.LaidOnce
import Derived.LaidMore
import Derived.OpenShut
import Derived.Stop.Joined
set_option linter.unusedSimpArgs false
set_option linter.unusedVariables false
namespace Go.Proofs.YtcbkaiakdhiloacGreatDoor
open Go.ChangeShapes Go.WideShapes Go.ChangeAt Go.WideMaps Go.WideElems Go.RowKit Go.Proofs
open Go.ChangeMaps (open_string shut_string)
def laidKn : List (String × DataW Unit) := Rows.knownRow.laid
theorem of_laidKn {W : World} (h : laidMetH Tryz.prog laidKn W) : Glb W ∧ CardG (2, 0, 0, 0, 0, 42) W := by
  rw [MakeChecks.laidMetH_plain _ _ _ (by kernel_rfl)] at h
  refine ⟨glb_reads h ?_ ?_ ?_ ?_ ?_ ?_, tab_row (z := 2) (zs := [0, 0, 0, 0, 42]) (tab_reads (name := "netboot/netbootkeep.card") (g := 0) (t := 26) (e := 5) (n := 6) (by kernel_rfl) (by kernel_rfl) Tryz.underlying26 Tryz.underlying5 (by kernel_rfl) (by kernel_rfl) (Lib.laidMet.reads (d := Rows.laid_netboot_netbootkeep_card) h ?_)) (by kernel_rfl)⟩
  all_goals (unfold laidKn Rows.knownRow; repeat (first | exact List.Mem.head _ | refine List.Mem.tail _ ?_))
set_option maxRecDepth 100000 in
theorem known_lifted (os : Os) (started : os.Started) (H : Type) (enc : TypeId × Value → H) :
    ReturnsInHanded {} Tryz.checked os 6 .any (fun w args => (Rows.knownSpec.pre enc Tryz.prog Tryz.f6 [] false w args ∧ laidMetH Tryz.prog laidKn w) ∧ sizedMet enc Tryz.prog Tryz.f6 (OpenSpec.ofChange Rows.knownSpec) false w args)
      (Rows.knownSpec.post enc Tryz.prog Tryz.f6 false true false false) := by
  refine returnsInHanded_of_change_and (C := Tryz.checked) (X := fun w _ => laidMetH Tryz.prog laidKn w) (fun _ _ _ hh h => h.of_heap hh) own started (by kernel_rfl) Tryz.func6
    (ChangeSpec.witness_shaped (enc := enc) (C := Tryz.checked) (os := os) (X := fun w _ => laidMetH Tryz.prog laidKn w) false (World.laidAll Tryz.prog os laidKn) #[] 8 (World.laidAll_os _ _ _)
      (World.shaped_of_ZipB (by kernel_rfl) (by kernel_rfl)) (by kernel_rfl) (by kernel_rfl) (by kernel_rfl)
      (by rw [MakeChecks.laidMetH_plain _ _ _ (by kernel_rfl)]; exact laidMet_laidAll _ (by kernel_rfl) (by kernel_rfl))) ?_
  intro W base args ds gs before hval0 hW _ hsz hL _
  obtain ⟨p, q, hA0, hV, _, hfz, hnd⟩ := id hW
  have hA : DataW.TrodAll enc Tryz.prog W 0 (fun _ => true) true Tryz.f6.params.toList args.toList ds p := hA0
  rw [Tryz.params6] at hA
  obtain ⟨h0', rfl, rfl⟩ := trodAll_nil hA
  obtain ⟨av⟩ := args
  simp at h0'
  subst h0'
  obtain ⟨rfl, rfl⟩ := trodVars_none hV
  obtain ⟨hG, hC⟩ := of_laidKn hL
  refine (knownFn W hC hG).mono fun e W' ⟨he, hf⟩ => ?_
  subst he
  exact ⟨_, rfl, law_post laidOut (by intro t ht; rw [Tryz.params6] at ht; simp at ht) rfl hW rfl rfl rfl rfl Tryz.underlying4 hf.belowAll⟩
theorem known_f1 : Tryz.checked.prog.inPlace 6 = Rows.knownRow.inPlace := by kernel_rfl
theorem known_f2 : Tryz.checked.prog.unfollowed 6 = Rows.knownRow.unfollowed := by kernel_rfl
theorem known_f3 : Tryz.checked.prog.recurses 6 = Rows.knownRow.recurses := by kernel_rfl
theorem known_f4 : Tryz.checked.prog.varsNamed 6 = Rows.knownRow.named := by kernel_rfl
theorem known_facts : joinedFacts Tryz.checked.prog 6 Tryz.f6 Rows.knownSpec Rows.knownRow = true := by
  unfold joinedFacts
  rw [known_f1, known_f2, known_f3, known_f4]
  kernel_rfl
theorem known_row : Rows.KnownSaid :=
  OpenClaim.holds_of_wide (p := Tryz.pinned) (s := Rows.knownSpec) (c := Rows.knownRow) 6 Tryz.f6 rfl rfl rfl rfl rfl rfl rfl ⟨rfl, rfl, rfl, rfl, rfl⟩ rfl rfl rfl rfl rfl (by kernel_rfl) Tryz.func6 known_facts
    (of_decide_eq_true (by kernel_rfl)) (by unfold Func.isWrapper; first | (rw [if_pos (by decide +kernel)]; kernel_rfl) | (rw [if_neg (by decide +kernel)]; exact ⟨rfl, rfl⟩))
    (fun os started H enc _ => known_lifted os started H enc)
theorem known_holds : Rows.KnownCardSaid :=
  Claim7.holds_tied_plain_at .later [] Rows.knownCard.laidKinds true Rows.knownCard.stood.harness true
    known_row (fun _ h => by cases h) (by kernel_rfl) (fun _ h => by cases h) known_row_tie rfl ⟨rfl, rfl⟩ (by kernel_rfl) rfl
    (fun f fn hf hfn => by
      obtain rfl : f = 6 := Option.some.inj ((show Tryz.prog.funcNamed "netboot/netbootkeep.Known" = some 6 by kernel_rfl).symm.trans hf) |>.symm
      obtain rfl : fn = Tryz.f6 := (Option.some.inj (Tryz.func6.symm.trans hfn)).symm
      exact ⟨by kernel_rfl, fun j t ht => by
        rw [Tryz.params6] at ht
        simp at ht⟩)
    (by kernel_rfl)
end Go.Proofs.YtcbkaiakdhiloacGreatDoor
