/- The walk of the law netbootlaw.Hashes. -/
import Derived.Test.YtcbkaiakdhiloaaDoorHashLaid
import Derived.Test.YtcbkaiakdhiloaaDoorRefSum
set_option linter.unusedSimpArgs false
set_option linter.unusedVariables false
namespace Go.Proofs.YtcbkaiakdhiloaaDoor
open Go.ChangeShapes Go.WideShapes Go.ChangeAt Go.WideMaps Go.WideElems Go.RowKit Go.Proofs

def laidL : List (String × DataW Unit) := [("netboot/hash.begin", Rows.laid_netboot_hash_begin), ("netboot/hash.rounds", Rows.laid_netboot_hash_rounds)]
theorem cell_lt {W : World} {g i : Nat} {v : Value} (h : W.cell? ⟨g, i, none⟩ = some v) : g < W.heap.size := by
  rcases Nat.lt_or_ge g W.heap.size with h1 | h1
  · exact h1
  · simp [World.cell?, Array.getElem?_eq_none h1] at h
theorem of_laid {W : World} (h : laidMetH Tryd.prog laidL W) : RU W 0 h0.list ∧ RU W 1 kTab := by
  rw [MakeChecks.laidMetH_plain _ _ _ (by kernel_rfl)] at h
  obtain ⟨ps, ⟨g0, t0, cs0, f0, p0, q0, hg0, ht0, hv0, hd0, ⟨g1, t1, cs1, f1, p1, q1, hg1, ht1, hv1, hd1, _, _⟩, _⟩, _, _⟩ := h
  obtain rfl := Option.some.inj (gBegin.symm.trans hg0)
  obtain rfl := Option.some.inj (gRounds.symm.trans hg1)
  obtain rfl := Option.some.inj (tBegin.symm.trans ht0)
  obtain rfl := Option.some.inj (tRounds.symm.trans ht1)
  rw [begin_words] at hd0
  rw [rounds_words] at hd1
  have c0 := cells_words Tryd.underlying39 rfl hd0
  have c1 := cells_words Tryd.underlying48 rfl hd1
  have x0 : ∀ (k : Nat) (x : UInt32), h0.list[k]? = some x → W.cell? ⟨0, k, none⟩ = some (.int .u32 (x.toNat : Int)) := fun k x hx => by
    rw [World.var?_cell hg0 hv0 k]; simpa using c0 k x hx
  have x1 : ∀ (k : Nat) (x : UInt32), kTab[k]? = some x → W.cell? ⟨1, k, none⟩ = some (.int .u32 (x.toNat : Int)) := fun k x hx => by
    rw [World.var?_cell hg1 hv1 k]; simpa using c1 k x hx
  exact ⟨⟨cell_lt (x0 0 _ rfl), x0⟩, ⟨cell_lt (x1 0 _ rfl), x1⟩⟩

set_option maxRecDepth 20000 in
set_option maxHeartbeats 1000000 in
theorem hashes_any (l : List UInt8) (w : World) (hl : l.length ≤ 9223372036854775807) (hRb : RU w 0 h0.list) (hRk : RU w 1 kTab) :
    Calls Tryd.prog 3 #[.string (bs l)] w fun e w' => e = .returned (.bool true) ∧ Fr noB w w' := by
  have hz := bs_size l
  by_cases h : 262144 < l.length
  · clear hRb hRk
    go_enter Tryd.func3, Tryd.ntmps3
    go_wp2_with fail
    go_ret
    exact ⟨rfl, Fr.refl _ _⟩
  · have hcall := bootHash l (by omega) w hRk hRb
    clear hRb hRk
    obtain ⟨o, ho⟩ : ∃ o, o = sha l := ⟨_, rfl⟩
    rw [← ho] at hcall
    have Ho := Lib.hid ho
    clear ho
    go_enter Tryd.func3, Tryd.ntmps3
    go_wp2_with fail
    refine hcall.mono ?_
    rintro e w1 ⟨rfl, h1⟩
    go_wp2_with fail
    refine (refNewTables _).mono ?_
    rintro e w2 ⟨p, B, vh, vk, rfl, hbk, hh, hk, h2, -⟩
    obtain ⟨gh, ch, rfl, hRh, -⟩ := hh.form (by decide)
    obtain ⟨gk, ck, rfl, hRk2, -⟩ := hk.form (by decide)
    have hsum := refSum l w2 p gh gk ch ck (by omega) hbk hRh hRk2
    rw [← Ho.out] at hsum
    clear hbk hh hk hRh hRk2
    go_wp2_with fail
    refine hsum.mono ?_
    rintro e w3 ⟨rfl, h3⟩
    go_wp2_with fail
    go_ret
    exact ⟨by simp, (h1.none h2).none h3⟩
end Go.Proofs.YtcbkaiakdhiloaaDoor
