/- Proves: for every text and all numbers the law netbootkeep.Rounds(load, a, b, kind) returns true (and its arguments read afterwards as before), where the package variables netbootkeep.card, netbootkeep.other, unicode/utf8.first and unicode/utf8.acceptRanges hold what the program's and the library's texts lay there: the card ties them to it. No other condition. -/
import Derived.Test.YtcbkaiakdhiloabGreatDoorRounds3Z
import Derived.Test.YtcbkaiakdhiloabGreatDoorMau
import Derived.Test.YtcbkaiakdhiloabGreatDoorTie
import Derived.Test.YtcbkaiakdhiloabGreatDoorCards
import Derived.SevenTiedAt
import Derived.Lib.LaidU8T
import Derived.PinnedBridge
import Derived.Lay
import Derived.LaidOnce
import Derived.LaidMore
import Derived.OpenShut
import Derived.Stop.Joined
import Derived.Carry
set_option linter.unusedSimpArgs false
set_option linter.unusedVariables false
namespace Go.Proofs.YtcbkaiakdhiloabGreatDoor
open Go.ChangeShapes Go.WideShapes Go.ChangeAt Go.WideMaps Go.WideElems Go.RowKit Go.Proofs
open Go.ChangeMaps (open_string shut_string)

theorem at_mid {α : Type} {x : α} (l : List α) (i : Nat) (h : (l.drop i).take 1 = [x]) : l[i]? = some x := by
  have h1 : ((l.drop i).take 1)[0]? = some x := by rw [h]; rfl
  rw [List.getElem?_take, if_pos (by omega), List.getElem?_drop] at h1
  simpa using h1
theorem gCard : Tryz.prog.globalNamed "netboot/netbootkeep.card" = some 1 := by kernel_rfl
theorem gOther : Tryz.prog.globalNamed "netboot/netbootkeep.other" = some 0 := by kernel_rfl
theorem tCard : (Tryz.prog.globals[1]?).map (·.type) = some 23 := by kernel_rfl
theorem tOther : (Tryz.prog.globals[0]?).map (·.type) = some 23 := by kernel_rfl
theorem cOf8 : Tryz.prog.cellsOf 5 = 1 := by kernel_rfl
def bytesD {H : Type} (l : List UInt8) : DataW H := .agg (l.map fun x => .lit (.int .u8 (x.toNat : Int)))
theorem card_bytes {H : Type} : (Rows.laid_netboot_netbootkeep_card : DataW H) = bytesD [2, 0, 0, 0, 0, 42] := by rfl
theorem other_bytes {H : Type} : (Rows.laid_netboot_netbootkeep_other : DataW H) = bytesD [2, 0, 0, 0, 0, 7] := by rfl
theorem cells_bytes {H : Type} {enc : TypeId × Value → H} {W : World} {base : Nat} {spare : Nat → Bool} {held : Bool} {fuel n : Nat} {t : TypeId} {cs : List Value} {l : List UInt8} {ps : List MemPlace}
    (ht : Tryz.prog.underlying t = some (.array n 5)) (hn : l.length = n) (h : DataW.trod enc Tryz.prog W base spare held fuel t cs = some (bytesD l, ps)) :
    ∀ (i : Nat) (x : UInt8), l[i]? = some x → cs[i]? = some (.int .u8 (x.toNat : Int)) := by
  intro i x hx
  obtain ⟨xs, m, rfl, hx1, hlen, hxs, hel⟩ := DataW.trod_array ht h
  simp only [Prod.mk.injEq, bytesD, DataW.agg.injEq] at hx1
  have hil : i < l.length := by
    rcases Nat.lt_or_ge i l.length with h | h
    · exact h
    · rw [List.getElem?_eq_none h] at hx; cases hx
  have h1 := hel i (by omega)
  rw [cOf8, Nat.mul_one] at h1
  obtain ⟨y, hy⟩ : ∃ y, xs[i]? = some y := ⟨_, List.getElem?_eq_getElem (by omega)⟩
  rw [hy] at h1
  obtain ⟨k, e1, e2, _⟩ := DataW.trod_int Tryz.underlying5 h1
  have h2 := congrArg (fun q => q[i]?) hx1.1
  simp only [List.getElem?_map, hx, hy, Option.map_some] at h2
  rw [e2] at h2
  have hk : k = (x.toNat : Int) := by
    have h3 := Option.some.inj h2
    simp only [DataW.lit.injEq, Lit.int.injEq, true_and] at h3
    exact h3.symm
  rw [hk] at e1
  exact at_mid cs i e1
theorem cell_lt {W : World} {g i : Nat} {v : Value} (h : W.cell? ⟨g, i, none⟩ = some v) : g < W.heap.size := by
  rcases Nat.lt_or_ge g W.heap.size with h1 | h1
  · exact h1
  · simp [World.cell?, Array.getElem?_eq_none h1] at h
def u8ren : Go.Shelf.Ren := ⟨fun n => n, fun | 5 => 5 | 119 => 312 | 138 => 314 | 139 => 315 | n => n, fun | 3 => 7 | 4 => 8 | n => n⟩
theorem u8types : U8Types Tryz.prog u8ren := ⟨by kernel_rfl, by kernel_rfl, by kernel_rfl, by kernel_rfl⟩
theorem u8extra : U8Extra Tryz.prog u8ren := ⟨by kernel_rfl, by kernel_rfl, by kernel_rfl, by kernel_rfl, by kernel_rfl, by kernel_rfl, by kernel_rfl⟩
theorem acc_eq : (Rows.laid_unicode_utf8_acceptRanges : DataW Unit) = Lib.acceptData := by kernel_rfl
theorem fst_eq : Rows.laid_unicode_utf8_first = Lib.firstData := Go.Pinned.utf8First_eq
def laidR : List (String × DataW Unit) := [("unicode/utf8.acceptRanges", Rows.laid_unicode_utf8_acceptRanges), ("netboot/netbootkeep.card", Rows.laid_netboot_netbootkeep_card), ("netboot/netbootkeep.other", Rows.laid_netboot_netbootkeep_other), ("unicode/utf8.first", Rows.laid_unicode_utf8_first)]
theorem rowR_of {W : World} {g : Nat} {a b c d e f : UInt8} (h : ∀ (k : Nat) (x : UInt8), ([a, b, c, d, e, f] : List UInt8)[k]? = some x → W.cell? ⟨g, k, none⟩ = some (.int .u8 (x.toNat : Int))) :
    RowR W g #[.int .u8 (a.toNat : Int), .int .u8 (b.toNat : Int), .int .u8 (c.toNat : Int), .int .u8 (d.toNat : Int), .int .u8 (e.toNat : Int), .int .u8 (f.toNat : Int)] := by
  refine ⟨cell_lt (h 0 _ rfl), fun j u hu => ?_⟩
  match j, hu with
  | 0, hu => cases hu; exact h 0 _ rfl
  | 1, hu => cases hu; exact h 1 _ rfl
  | 2, hu => cases hu; exact h 2 _ rfl
  | 3, hu => cases hu; exact h 3 _ rfl
  | 4, hu => cases hu; exact h 4 _ rfl
  | 5, hu => cases hu; exact h 5 _ rfl
  | n + 6, hu => simp at hu
theorem of_laidR {W : World} (h : laidMetH Tryz.prog laidR W) : Tabs W ∧ Cards W 2 0 0 0 0 7 2 0 0 0 0 42 := by
  rw [MakeChecks.laidMetH_plain _ _ _ (by kernel_rfl)] at h
  refine ⟨utf8Tabs_of_readsT u8types u8extra (fst_eq ▸ Lib.laidMet.reads h (.tail _ (.tail _ (.tail _ (.head _))))) (acc_eq ▸ Lib.laidMet.reads h (.head _)), ?_⟩
  obtain ⟨ps, ⟨g0, t0, cs0, f0, p0, q0, hg0, ht0, hv0, hd0, ⟨g2, t2, cs2, f2, p2, q2, hg2, ht2, hv2, hd2, ⟨g3, t3, cs3, f3, p3, q3, hg3, ht3, hv3, hd3, _, _⟩, _⟩, _⟩, _, _⟩ := h
  obtain rfl := Option.some.inj (gCard.symm.trans hg2)
  obtain rfl := Option.some.inj (gOther.symm.trans hg3)
  obtain rfl := Option.some.inj (tCard.symm.trans ht2)
  obtain rfl := Option.some.inj (tOther.symm.trans ht3)
  rw [card_bytes] at hd2
  rw [other_bytes] at hd3
  have c2 := cells_bytes Tryz.underlying23 rfl hd2
  have c3 := cells_bytes Tryz.underlying23 rfl hd3
  have x2 : ∀ (k : Nat) (x : UInt8), ([2, 0, 0, 0, 0, 42] : List UInt8)[k]? = some x → W.cell? ⟨1, k, none⟩ = some (.int .u8 (x.toNat : Int)) := fun k x hx => by
    rw [World.var?_cell hg2 hv2 k]; simpa using c2 k x hx
  have x3 : ∀ (k : Nat) (x : UInt8), ([2, 0, 0, 0, 0, 7] : List UInt8)[k]? = some x → W.cell? ⟨0, k, none⟩ = some (.int .u8 (x.toNat : Int)) := fun k x hx => by
    rw [World.var?_cell hg3 hv3 k]; simpa using c3 k x hx
  exact ⟨rowR_of x3, rowR_of x2⟩

set_option maxRecDepth 100000 in
theorem rounds_lifted (os : Os) (started : os.Started) (H : Type) (enc : TypeId × Value → H) :
    ReturnsInHanded {} Tryz.checked os 3 .any (fun w args => (Rows.roundsSpec.pre enc Tryz.prog Tryz.f3 [] false w args ∧ laidMetH Tryz.prog laidR w) ∧ sizedMet enc Tryz.prog Tryz.f3 (OpenSpec.ofChange Rows.roundsSpec) false w args)
      (Rows.roundsSpec.post enc Tryz.prog Tryz.f3 false true false false) := by
  refine returnsInHanded_of_change_and (C := Tryz.checked) (X := fun w _ => laidMetH Tryz.prog laidR w) (fun _ _ _ hh h => h.of_heap hh) own started (by kernel_rfl) Tryz.func3
    (ChangeSpec.witness_shaped (enc := enc) (C := Tryz.checked) (os := os) (X := fun w _ => laidMetH Tryz.prog laidR w) false (World.laidAll Tryz.prog os laidR) #[.string ByteArray.empty, .int .i64 0, .int .i64 0, .int .i64 0] 8 (World.laidAll_os _ _ _)
      (World.shaped_of_ZipB (by kernel_rfl) (by kernel_rfl)) (by kernel_rfl) (by kernel_rfl) (by kernel_rfl)
      (by rw [MakeChecks.laidMetH_plain _ _ _ (by kernel_rfl)]; exact laidMet_laidAll _ (by kernel_rfl) (by kernel_rfl))) ?_
  intro W base args ds gs before hval0 hW _ _ hL _
  have hval : ∀ (j : Nat) t v, Tryz.f3.params[j]? = some t → args[j]? = some v → Value.okWide Tryz.prog W .any base t v := hval0
  obtain ⟨p, q, hA0, hV, _, hfz, hnd⟩ := id hW
  have hA : DataW.TrodAll enc Tryz.prog W 0 (fun _ => true) true Tryz.f3.params.toList args.toList ds p := hA0
  rw [Tryz.params3] at hA hval
  obtain ⟨v0, v1, v2, v3, d0, d1, d2, d3, p0, p1, p2, p3, rfl, rfl, rfl, h0, h1, h2, h3⟩ := trodAll_four hA
  obtain ⟨rfl, rfl⟩ := trodVars_none hV
  obtain ⟨s0, rfl, hd0, rfl, hs0⟩ := open_string Tryz.underlying9 (hval 0 9 v0 rfl rfl) h0
  have hl0 : s0.data.toList.length ≤ 9223372036854775807 := by
    have h := bs_size s0.data.toList
    rw [bs_of] at h
    unfold maxLen at hs0; omega
  obtain ⟨i1, rfl, hb1⟩ := cell_int Tryz.underlying3 (okWide_icell Tryz.underlying3 (hval 1 3 v1 rfl rfl))
  have hb1a : -9223372036854775808 ≤ i1 := by
    have h1 := hb1.1
    have e1 : IntKind.i64.min = -9223372036854775808 := by decide
    omega
  have hb1b : i1 ≤ 9223372036854775807 := by
    have h1 := hb1.2
    have e1 : IntKind.i64.max = 9223372036854775807 := by decide
    omega
  obtain ⟨i2, rfl, hb2⟩ := cell_int Tryz.underlying3 (okWide_icell Tryz.underlying3 (hval 2 3 v2 rfl rfl))
  have hb2a : -9223372036854775808 ≤ i2 := by
    have h1 := hb2.1
    have e1 : IntKind.i64.min = -9223372036854775808 := by decide
    omega
  have hb2b : i2 ≤ 9223372036854775807 := by
    have h1 := hb2.2
    have e1 : IntKind.i64.max = 9223372036854775807 := by decide
    omega
  obtain ⟨i3, rfl, hb3⟩ := cell_int Tryz.underlying3 (okWide_icell Tryz.underlying3 (hval 3 3 v3 rfl rfl))
  have hb3a : -9223372036854775808 ≤ i3 := by
    have h1 := hb3.1
    have e1 : IntKind.i64.min = -9223372036854775808 := by decide
    omega
  have hb3b : i3 ≤ 9223372036854775807 := by
    have h1 := hb3.2
    have e1 : IntKind.i64.max = 9223372036854775807 := by decide
    omega
  obtain ⟨hT, hC⟩ := of_laidR hL
  have hw := lawRounds s0.data.toList i1 i2 i3 2 0 0 0 0 7 2 0 0 0 0 42 W hl0 hb1a hb1b hb2a hb2b hC (fun w' hl2 hC2 hf2 => lawMessage s0.data.toList i1 i2 i3 2 0 0 0 0 7 2 0 0 0 0 42 w' hl2 hb1a hb1b hb2a hb2b hb3a hb3b hC2 (hT.none hf2))
  rw [bs_of] at hw
  refine hw.mono fun e W' ⟨he, hf⟩ => ?_
  subst he
  exact ⟨_, rfl, law_post laidOut (by intro t ht; rw [Tryz.params3] at ht; simp at ht; rcases ht with rfl | rfl <;> exact ⟨by kernel_rfl, of_decide_eq_true (by kernel_rfl)⟩) rfl hW rfl rfl rfl rfl Tryz.underlying4 hf.belowAll⟩

theorem rounds_row : Rows.RoundsSaid :=
  OpenClaim.holds_of_wide (p := Tryz.pinned) (s := Rows.roundsSpec) (c := Rows.roundsRow) 3 Tryz.f3 rfl rfl rfl rfl rfl rfl rfl ⟨rfl, rfl, rfl, rfl, rfl⟩ rfl rfl rfl rfl rfl (by kernel_rfl) Tryz.func3 (by kernel_rfl)
    (of_decide_eq_true (by kernel_rfl)) (by unfold Func.isWrapper; first | (rw [if_pos (by decide +kernel)]; kernel_rfl) | (rw [if_neg (by decide +kernel)]; exact ⟨rfl, rfl⟩))
    (fun os started H enc _ => rounds_lifted os started H enc)

theorem rounds_holds : Rows.RoundsCardSaid :=
  Claim7.holds_tied_plain_at .later [] [.data, .data, .data, .pinned] true (true, "e59b12bcb828b5af755df21da78996e1c23abc8d761e2fc6d903b2851b0598f0") true
    rounds_row (fun _ h => by cases h) (by kernel_rfl) (fun _ h => by cases h) rounds_row_tie rfl ⟨rfl, rfl⟩ (by kernel_rfl) rfl
    (fun f fn hf hfn => by
      obtain rfl : f = 3 := Option.some.inj ((show Tryz.prog.funcNamed "netboot/netbootkeep.Rounds" = some 3 by kernel_rfl).symm.trans hf) |>.symm
      obtain rfl : fn = Tryz.f3 := (Option.some.inj (Tryz.func3.symm.trans hfn)).symm
      exact ⟨by kernel_rfl, fun j t ht => by
        rw [Tryz.params3] at ht
        have hm : t ∈ [9, 3, 3, 3] := by simpa using Array.mem_of_getElem? ht
        have hall : ([9, 3, 3, 3].all fun u => !Tryz.prog.wantsStandIn u) = true := by kernel_rfl
        exact (show Tryz.prog.wantsStandIn t = false by simpa using List.all_eq_true.1 hall t hm)⟩)
    (by kernel_rfl)
end Go.Proofs.YtcbkaiakdhiloabGreatDoor
