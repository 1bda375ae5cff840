/- Proves: the law netbootkeep.Vectors() returns true, where the package variables hash.begin, hash.rounds, netbootkeep.card and netbootkeep.other hold what the program's text lays there: the card ties them to it. No other condition. -/
import Derived.Test.YtcbkaiakdhiloabDoorHashLaid
import Derived.Test.YtcbkaiakdhiloabDoorVecWalk
import Derived.Test.YtcbkaiakdhiloabDoorTie
import Derived.Test.YtcbkaiakdhiloabDoorCards
import Derived.SevenTiedAt
set_option linter.unusedSimpArgs false
set_option linter.unusedVariables false
namespace Go.Proofs.YtcbkaiakdhiloabDoor
open Go.ChangeShapes Go.WideShapes Go.ChangeAt Go.WideMaps Go.WideElems Go.RowKit Go.Proofs

theorem gCard : Tryd.prog.globalNamed "netboot/netbootkeep.card" = some 0 := by kernel_rfl
theorem gOther : Tryd.prog.globalNamed "netboot/netbootkeep.other" = some 1 := by kernel_rfl
theorem tCard : (Tryd.prog.globals[0]?).map (·.type) = some 37 := by kernel_rfl
theorem tOther : (Tryd.prog.globals[1]?).map (·.type) = some 37 := by kernel_rfl
theorem cOf8 : Tryd.prog.cellsOf 5 = 1 := by kernel_rfl
def bytesD {H : Type} (l : List UInt8) : DataW H := .agg (l.map fun x => .lit (.int .u8 (x.toNat : Int)))
theorem card_bytes {H : Type} : (Rows.laid_netboot_netbootkeep_card : DataW H) = bytesD [2, 0, 0, 0, 0, 42] := by rfl
theorem other_bytes {H : Type} : (Rows.laid_netboot_netbootkeep_other : DataW H) = bytesD [2, 0, 0, 0, 0, 7] := by rfl
theorem cells_bytes {H : Type} {enc : TypeId × Value → H} {W : World} {base : Nat} {spare : Nat → Bool} {held : Bool} {fuel n : Nat} {t : TypeId} {cs : List Value} {l : List UInt8} {ps : List MemPlace}
    (ht : Tryd.prog.underlying t = some (.array n 5)) (hn : l.length = n) (h : DataW.trod enc Tryd.prog W base spare held fuel t cs = some (bytesD l, ps)) :
    ∀ (i : Nat) (x : UInt8), l[i]? = some x → cs[i]? = some (.int .u8 (x.toNat : Int)) := by
  intro i x hx
  obtain ⟨xs, m, rfl, hx1, hlen, hxs, hel⟩ := DataW.trod_array ht h
  simp only [Prod.mk.injEq, bytesD, DataW.agg.injEq] at hx1
  have hil : i < l.length := by
    rcases Nat.lt_or_ge i l.length with h | h
    · exact h
    · rw [List.getElem?_eq_none h] at hx; cases hx
  have h1 := hel i (by omega)
  rw [cOf8, Nat.mul_one] at h1
  obtain ⟨y, hy⟩ : ∃ y, xs[i]? = some y := ⟨_, List.getElem?_eq_getElem (by omega)⟩
  rw [hy] at h1
  obtain ⟨k, e1, e2, _⟩ := DataW.trod_int Tryd.underlying5 h1
  have h2 := congrArg (fun q => q[i]?) hx1.1
  simp only [List.getElem?_map, hx, hy, Option.map_some] at h2
  rw [e2] at h2
  have hk : k = (x.toNat : Int) := by
    have h3 := Option.some.inj h2
    simp only [DataW.lit.injEq, Lit.int.injEq, true_and] at h3
    exact h3.symm
  rw [hk] at e1
  exact at_mid cs i e1
theorem cell_lt {W : World} {g i : Nat} {v : Value} (h : W.cell? ⟨g, i, none⟩ = some v) : g < W.heap.size := by
  rcases Nat.lt_or_ge g W.heap.size with h1 | h1
  · exact h1
  · simp [World.cell?, Array.getElem?_eq_none h1] at h
def laidV : List (String × DataW Unit) := [("netboot/hash.begin", Rows.laid_netboot_hash_begin), ("netboot/hash.rounds", Rows.laid_netboot_hash_rounds), ("netboot/netbootkeep.card", Rows.laid_netboot_netbootkeep_card), ("netboot/netbootkeep.other", Rows.laid_netboot_netbootkeep_other)]
theorem of_laidV {W : World} (h : laidMetH Tryd.prog laidV W) : RU W 2 h0.list ∧ RU W 3 kTab ∧ RY W 0 [2, 0, 0, 0, 0, 42] ∧ RY W 1 [2, 0, 0, 0, 0, 7] := by
  rw [MakeChecks.laidMetH_plain _ _ _ (by kernel_rfl)] at h
  obtain ⟨ps, ⟨g0, t0, cs0, f0, p0, q0, hg0, ht0, hv0, hd0, ⟨g1, t1, cs1, f1, p1, q1, hg1, ht1, hv1, hd1, ⟨g2, t2, cs2, f2, p2, q2, hg2, ht2, hv2, hd2, ⟨g3, t3, cs3, f3, p3, q3, hg3, ht3, hv3, hd3, _, _⟩, _⟩, _⟩, _⟩, _, _⟩ := h
  obtain rfl := Option.some.inj (gBegin.symm.trans hg0)
  obtain rfl := Option.some.inj (gRounds.symm.trans hg1)
  obtain rfl := Option.some.inj (gCard.symm.trans hg2)
  obtain rfl := Option.some.inj (gOther.symm.trans hg3)
  obtain rfl := Option.some.inj (tBegin.symm.trans ht0)
  obtain rfl := Option.some.inj (tRounds.symm.trans ht1)
  obtain rfl := Option.some.inj (tCard.symm.trans ht2)
  obtain rfl := Option.some.inj (tOther.symm.trans ht3)
  rw [begin_words] at hd0
  rw [rounds_words] at hd1
  rw [card_bytes] at hd2
  rw [other_bytes] at hd3
  have c0 := cells_words Tryd.underlying72 rfl hd0
  have c1 := cells_words Tryd.underlying117 rfl hd1
  have c2 := cells_bytes Tryd.underlying37 rfl hd2
  have c3 := cells_bytes Tryd.underlying37 rfl hd3
  have x0 : ∀ (k : Nat) (x : UInt32), h0.list[k]? = some x → W.cell? ⟨2, k, none⟩ = some (.int .u32 (x.toNat : Int)) := fun k x hx => by
    rw [World.var?_cell hg0 hv0 k]; simpa using c0 k x hx
  have x1 : ∀ (k : Nat) (x : UInt32), kTab[k]? = some x → W.cell? ⟨3, k, none⟩ = some (.int .u32 (x.toNat : Int)) := fun k x hx => by
    rw [World.var?_cell hg1 hv1 k]; simpa using c1 k x hx
  have x2 : ∀ (k : Nat) (x : UInt8), ([2, 0, 0, 0, 0, 42] : List UInt8)[k]? = some x → W.cell? ⟨0, k, none⟩ = some (.int .u8 (x.toNat : Int)) := fun k x hx => by
    rw [World.var?_cell hg2 hv2 k]; simpa using c2 k x hx
  have x3 : ∀ (k : Nat) (x : UInt8), ([2, 0, 0, 0, 0, 7] : List UInt8)[k]? = some x → W.cell? ⟨1, k, none⟩ = some (.int .u8 (x.toNat : Int)) := fun k x hx => by
    rw [World.var?_cell hg3 hv3 k]; simpa using c3 k x hx
  exact ⟨⟨cell_lt (x0 0 _ rfl), x0⟩, ⟨cell_lt (x1 0 _ rfl), x1⟩, ⟨cell_lt (x2 0 _ rfl), x2⟩, ⟨cell_lt (x3 0 _ rfl), x3⟩⟩

/-- The door's own heap meets the condition. -/
theorem door_met (os : Os) (args : Array Value) : laidMetH Tryd.prog laidV ((World.doorLaid Tryd.prog 4000 os).forCall (fun _ _ => 0) ⟨#[], args, []⟩).memory :=
  laidMetH_of_parts3 (fuel := 8) (laidMet_of_run' 8 (by kernel_rfl) (by kernel_rfl)) (by kernel_rfl) (by kernel_rfl)

set_option maxRecDepth 100000 in
theorem vectors_lifted (os : Os) (started : os.Started) (H : Type) (enc : TypeId × Value → H) :
    ReturnsInHanded {} Tryd.checked os 3 .any (fun w args => (Rows.vectorsSpec.pre enc Tryd.prog Tryd.f3 [] false w args ∧ laidMetH Tryd.prog laidV w) ∧ sizedMet enc Tryd.prog Tryd.f3 (OpenSpec.ofChange Rows.vectorsSpec) false w args)
      (Rows.vectorsSpec.post enc Tryd.prog Tryd.f3 false true false false) := by
  refine returnsInHanded_of_change_and (C := Tryd.checked) (X := fun w _ => laidMetH Tryd.prog laidV w) (fun _ _ _ hh h => h.of_heap hh) own started (by kernel_rfl) Tryd.func3
    (ChangeSpec.witness_shaped (enc := enc) (C := Tryd.checked) (os := os) (X := fun w _ => laidMetH Tryd.prog laidV w) false (World.doorLaid Tryd.prog 4000 os) #[] 8 rfl (World.shaped_of_RefB (by kernel_rfl) (by kernel_rfl)) (by kernel_rfl) (by kernel_rfl) (by kernel_rfl) (door_met os _)) ?_
  intro W base args ds gs before hval0 hW _ _ hL _
  have hval : ∀ (j : Nat) t v, Tryd.f3.params[j]? = some t → args[j]? = some v → Value.okWide Tryd.prog W .any base t v := hval0
  obtain ⟨p, q, hA0, hV, _, hfz, hnd⟩ := id hW
  have hA : DataW.TrodAll enc Tryd.prog W 0 (fun _ => true) true Tryd.f3.params.toList args.toList ds p := hA0
  rw [Tryd.params3] at hA hval
  obtain ⟨h0', rfl, rfl⟩ := trodAll_nil hA
  obtain ⟨av⟩ := args
  simp at h0'
  subst h0'
  obtain ⟨rfl, rfl⟩ := trodVars_none hV
  obtain ⟨hRb, hRk, hC, hO⟩ := of_laidV hL
  refine (vectors_any W hRb hRk hC hO).mono fun e W' ⟨he, hf⟩ => ?_
  subst he
  exact ⟨_, rfl, law_post laidOut (by intro t ht; rw [Tryd.params3] at ht; simp at ht) rfl hW rfl rfl rfl rfl Tryd.underlying4 hf.belowAll⟩

theorem vectors_row : Rows.VectorsSaid :=
  OpenClaim.holds_of_wide (p := Tryd.pinned) (s := Rows.vectorsSpec) (c := Rows.vectorsRow) 3 Tryd.f3 rfl rfl rfl rfl rfl rfl rfl ⟨rfl, rfl, rfl, rfl, rfl⟩ rfl rfl rfl rfl rfl (by kernel_rfl) Tryd.func3 (by kernel_rfl)
    (of_decide_eq_true (by kernel_rfl)) (by unfold Func.isWrapper; first | (rw [if_pos (by decide +kernel)]; kernel_rfl) | (rw [if_neg (by decide +kernel)]; exact ⟨rfl, rfl⟩))
    (fun os started H enc _ => vectors_lifted os started H enc)

theorem vectors_holds : Rows.VectorsCardSaid :=
  Claim7.holds_tied_plain_at .later [] [.data, .data, .data, .data] true (true, "1c904521f6ac00bcd3fc129b79dffee05bc9ce0c074822aa9e3ae1a92e5364bb") true
    vectors_row (fun _ h => by cases h) (by kernel_rfl) (fun _ h => by cases h) vectors_row_tie rfl ⟨rfl, rfl⟩ (by kernel_rfl) rfl
    (fun f fn hf hfn => by
      obtain rfl : f = 3 := Option.some.inj ((show Tryd.prog.funcNamed "netboot/netbootkeep.Vectors" = some 3 by kernel_rfl).symm.trans hf) |>.symm
      obtain rfl : fn = Tryd.f3 := (Option.some.inj (Tryd.func3.symm.trans hfn)).symm
      exact ⟨by kernel_rfl, fun j t ht => by
        rw [Tryd.params3] at ht
        simp at ht⟩)
    (by kernel_rfl)
end Go.Proofs.YtcbkaiakdhiloabDoor
