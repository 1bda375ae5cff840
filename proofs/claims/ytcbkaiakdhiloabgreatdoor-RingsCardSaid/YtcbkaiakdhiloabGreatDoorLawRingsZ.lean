/- Proves: for every script the law netbootlaw.Rings(script) returns true (and the script reads afterwards as before), where the listed package variables hold what the program's and the library's texts lay there: the card ties them to it. No other condition. -/
import Derived.Test.YtcbkaiakdhiloabGreatDoorRay
import Derived.Test.YtcbkaiakdhiloabGreatDoorTie
import Derived.Test.YtcbkaiakdhiloabGreatDoorCards
import Derived.SevenTiedAt
import Derived.Lay
import Derived.LaidOnce
import Derived.LaidMore
import Derived.Stop.Joined
set_option linter.unusedSimpArgs false
set_option linter.unusedVariables false
namespace Go.Proofs.YtcbkaiakdhiloabGreatDoor
open Go.ChangeShapes Go.WideShapes Go.ChangeAt Go.WideMaps Go.WideElems Go.RowKit Go.Proofs
open Go.ChangeMaps (open_string shut_string)
theorem slice_cells {P : Program} {w : World} {r : Reach} {base : Nat} {t e : TypeId} {v : Value} (ht : P.underlying t = some (.slice e)) (h : Value.okWide P w r base t v) : v.cells.toList = [v] := by
  unfold Value.okWide at h
  rw [ht] at h
  cases v with
  | agg xs => exfalso; unfold Cell.okWide at h; rw [ht] at h; first | exact h | (simp [Cell.ok, ht] at h)
  | _ => rfl
def laidRi : List (String × DataW Unit) := Rows.ringsRow.laid
theorem of_laidRi {W : World} (h : laidMetH Tryz.prog laidRi W) : Glb W ∧ RowG W 4 #[.int .u8 255, .int .u8 255, .int .u8 255, .int .u8 255, .int .u8 255, .int .u8 255] := by
  rw [MakeChecks.laidMetH_plain _ _ _ (by kernel_rfl)] at h
  refine ⟨glb_reads h ?_ ?_ ?_ ?_ ?_ ?_, tab_row (z := 255) (zs := [255, 255, 255, 255, 255]) (tab_reads (name := "netboot/netbootref.all") (g := 4) (t := 23) (e := 5) (n := 6) (by kernel_rfl) (by kernel_rfl) Tryz.underlying23 Tryz.underlying5 (by kernel_rfl) (by kernel_rfl) (Lib.laidMet.reads (d := Rows.laid_netboot_netbootref_all) h ?_)) (by kernel_rfl)⟩
  all_goals (unfold laidRi Rows.ringsRow; repeat (first | exact List.Mem.head _ | refine List.Mem.tail _ ?_))
set_option maxRecDepth 100000 in
theorem rings_lifted (os : Os) (started : os.Started) (H : Type) (enc : TypeId × Value → H) :
    ReturnsInHanded {} Tryz.checked os 5 .any (fun w args => (Rows.ringsSpec.pre enc Tryz.prog Tryz.f5 [] false w args ∧ laidMetH Tryz.prog laidRi w) ∧ sizedMet enc Tryz.prog Tryz.f5 (OpenSpec.ofChange Rows.ringsSpec) false w args)
      (Rows.ringsSpec.post enc Tryz.prog Tryz.f5 false true false false) := by
  refine returnsInHanded_of_change_and (C := Tryz.checked) (X := fun w _ => laidMetH Tryz.prog laidRi w) (fun _ _ _ hh h => h.of_heap hh) own started (by kernel_rfl) Tryz.func5
    (ChangeSpec.witness_shaped (enc := enc) (C := Tryz.checked) (os := os) (X := fun w _ => laidMetH Tryz.prog laidRi w) false (World.laidAll Tryz.prog os laidRi) #[.slice none 0 0] 8 (World.laidAll_os _ _ _)
      (World.shaped_of_ZipB (by kernel_rfl) (by kernel_rfl)) (by kernel_rfl) (by kernel_rfl) (by kernel_rfl)
      (by rw [MakeChecks.laidMetH_plain _ _ _ (by kernel_rfl)]; exact laidMet_laidAll _ (by kernel_rfl) (by kernel_rfl))) ?_
  intro W base args ds gs before hval0 hW _ hsz hL _
  obtain ⟨p, q, hA0, hV, _, hfz, hnd⟩ := id hW
  have hA : DataW.TrodAll enc Tryz.prog W 0 (fun _ => true) true Tryz.f5.params.toList args.toList ds p := hA0
  rw [Tryz.params5] at hA
  obtain ⟨v0, d0, rfl, rfl, h0⟩ := trodAll_one hA
  obtain ⟨rfl, rfl⟩ := trodVars_none hV
  obtain ⟨fuel, hf0⟩ := h0
  rw [slice_cells Tryz.underlying62 (hval0 0 62 v0 (by rw [Tryz.params5]; rfl) rfl)] at hf0
  obtain ⟨ops, A, cap, rfl, hscr, hAa, hD⟩ := openScrN hf0
  have hsz' : (DataW.weightsEach Tryz.prog [62] [d0]).all (· ≤ reachBytes) = true := hsz
  obtain ⟨hn, hl⟩ := scr_lens hD hsz'
  obtain ⟨hG, ha⟩ := of_laidRi hL
  refine (ringsFn ops A cap W hscr hG ha hl hn hAa).mono fun e W' ⟨he, hf⟩ => ?_
  subst he
  exact ⟨_, rfl, law_post laidOut (by intro t ht; rw [Tryz.params5] at ht; simp at ht; subst ht; exact ⟨by kernel_rfl, of_decide_eq_true (by kernel_rfl)⟩) rfl hW rfl rfl rfl rfl Tryz.underlying4 hf.belowAll⟩
theorem rings_f1 : Tryz.checked.prog.inPlace 5 = Rows.ringsRow.inPlace := by kernel_rfl
theorem rings_f2 : Tryz.checked.prog.unfollowed 5 = Rows.ringsRow.unfollowed := by kernel_rfl
theorem rings_f3 : Tryz.checked.prog.recurses 5 = Rows.ringsRow.recurses := by kernel_rfl
theorem rings_f4 : Tryz.checked.prog.varsNamed 5 = Rows.ringsRow.named := by kernel_rfl
theorem rings_facts : joinedFacts Tryz.checked.prog 5 Tryz.f5 Rows.ringsSpec Rows.ringsRow = true := by
  unfold joinedFacts
  rw [rings_f1, rings_f2, rings_f3, rings_f4]
  kernel_rfl
theorem rings_row : Rows.RingsSaid :=
  OpenClaim.holds_of_wide (p := Tryz.pinned) (s := Rows.ringsSpec) (c := Rows.ringsRow) 5 Tryz.f5 rfl rfl rfl rfl rfl rfl rfl ⟨rfl, rfl, rfl, rfl, rfl⟩ rfl rfl rfl rfl rfl (by kernel_rfl) Tryz.func5 rings_facts
    (of_decide_eq_true (by kernel_rfl)) (by unfold Func.isWrapper; first | (rw [if_pos (by decide +kernel)]; kernel_rfl) | (rw [if_neg (by decide +kernel)]; exact ⟨rfl, rfl⟩))
    (fun os started H enc _ => rings_lifted os started H enc)
theorem rings_holds : Rows.RingsCardSaid :=
  Claim7.holds_tied_plain_at .later [] Rows.ringsCard.laidKinds true Rows.ringsCard.stood.harness true
    rings_row (fun _ h => by cases h) (by kernel_rfl) (fun _ h => by cases h) rings_row_tie rfl ⟨rfl, rfl⟩ (by kernel_rfl) rfl
    (fun f fn hf hfn => by
      obtain rfl : f = 5 := Option.some.inj ((show Tryz.prog.funcNamed "netboot/netbootlaw.Rings" = some 5 by kernel_rfl).symm.trans hf) |>.symm
      obtain rfl : fn = Tryz.f5 := (Option.some.inj (Tryz.func5.symm.trans hfn)).symm
      exact ⟨by kernel_rfl, fun j t ht => by
        rw [Tryz.params5] at ht
        have hm : t ∈ [62] := by simpa using Array.mem_of_getElem? ht
        have hall : ([62].all fun u => !Tryz.prog.wantsStandIn u) = true := by kernel_rfl
        exact (show Tryz.prog.wantsStandIn t = false by simpa using List.all_eq_true.1 hall t hm)⟩)
    (by kernel_rfl)
end Go.Proofs.YtcbkaiakdhiloabGreatDoor
