/- Chains of a writer's calls from any standing chain: what a drawn region's start leaves; an Option's block beside the writer. -/
import Derived.Test.YtcbkaiakdhiloabDoorChain
import Derived.Test.YtcbkaiakdhiloabDoorLp
set_option linter.unusedSimpArgs false
set_option linter.unusedVariables false
namespace Go.Proofs.YtcbkaiakdhiloabDoor
open Go.RowKit Go.Proofs
section
variable {w1 w w' : World} {p B n : Nat} {A : Option Addr} {l l' : List UInt8} {L : Bool} {v : Value} {t : TypeId} {cs : Array Value}
theorem Chn.drew2 (h : Chn w1 p B A l w) : Chn w1 p B A l w.drew := ⟨h.wr.drew, h.row, h.fr.drew, h.eB, h.lt⟩
theorem AlS.drew2 (h : AlS L v n t cs B A w) : AlS L v n t cs B A w.drew := fun hL => by
  obtain ⟨g, h1, h2, h3, h4⟩ := h hL
  exact ⟨g, h1, h2.drew, h3, h4⟩
theorem cell_ltP {w : World} {a : Addr} {v : Value} (h : w.cell? a = some v) : a.block < w.heap.size := by
  rcases Nat.lt_or_ge a.block w.heap.size with h1 | h1
  · exact h1
  · unfold World.cell? at h; rw [Array.getElem?_eq_none h1] at h; cases h
/-- a block made beside the writer -/
theorem AlS.beside (h : Chn w1 p B A l w) (t : TypeId) (cs : Array Value) : AlS true (.slice (some ⟨w.heap.size, 0, none⟩) 0 0) 0 t cs B A (w.alloc (.cells cs t)) := AlS.new h 0 t cs
end
section
variable {P : Program} {ops : Array Oper} {Q : Exit → Act → World → Prop}
theorem wp_region_ssac_plain {id : Nat} {w : World} (hm : P.follows .mixedOrders = true) (hb : backB ops = true) (hgd : (List.range ops.size).all (fun i => match ops[i]? with | some o => o.guard.isNone | none => true) = true)
    (fr : (Nat → Value) → Act) (Φ : Nat → Value → World → Prop) (G : (Nat → Bool) → (Nat → Value) → World → Prop) (u0 : Nat → Value) (h0 : G (fun _ => false) u0 w)
    (hstep : ∀ L u w i o, Cl ops L → G L u w → (∀ j, L j = true → Φ j (u j) w) → ops[i]? = some o → L i = false → (∀ e ∈ o.after.toList, Region.binds .any e = true → L e.on = true) →
      ∀ K : Act → World → Prop, (∀ v w', Φ i v w' → G (mark L i) (upd u i v) w' → (∀ j x, L j = true → Φ j x w → Φ j x w') → K (fr (upd u i v)) w') → o.wp P (fr u) w K Q)
    (hend : ∀ u w, (∀ i, i < ops.size → Φ i (u i) w) → (∀ L, (∀ i, i < ops.size → L i = true) → G L u w → Q .normal (fr u) w)) : (Code.region id ops false).wp P Q (fr u0) w :=
  wp_region_ssau_plain hm hb hgd fr Φ (fun L u w => Cl ops L ∧ G L u w) u0 ⟨Cl.start ops, h0⟩
    (fun L u w i o hG hΦ ho hL hd K hK => hstep L u w i o hG.1 hG.2 hΦ ho hL hd K fun v w' h1 h2 h3 => hK v w' h1 ⟨hG.1.mark ho hd, h2⟩ h3)
    (fun u w h1 L h2 h3 => hend u w h1 L h2 h3.2)
end
theorem sl_put {a : Act} {n k j : Nat} {v : Value} (h : Sz n a) (hk : k < n) : sl (a.put (some k) v) j = if j = k then v else sl a j := by
  obtain ⟨t, d⟩ := a
  have hs := h.size
  simp only at hs
  unfold sl Act.put
  by_cases e : j = k
  · subst e; simp [hs, hk]
  · simp only [e, if_false]
    by_cases hj : j < t.size
    · simp [Array.getD, hj, Array.getElem_setIfInBounds, e]
      intro x; exact absurd x.symm e
    · simp [Array.getD, hj]
theorem Sz.put {a : Act} {n k : Nat} {v : Value} (h : Sz n a) : Sz n (a.put (some k) v) := ⟨by simpa [Act.put] using h.size, h.defers⟩
theorem foldl_put {n : Nat} {u : Nat → Value} : ∀ (D : List Nat) (a : Act), Sz n a → (∀ k ∈ D, k < n) → Sz n (D.foldl (fun b k => b.put (some k) (u k)) a) ∧ ∀ j, sl (D.foldl (fun b k => b.put (some k) (u k)) a) j = if j ∈ D then u j else sl a j
  | [], a, h, _ => ⟨h, fun j => by simp⟩
  | k :: D, a, h, hD => by
    obtain ⟨h1, h2⟩ := foldl_put (u := u) D (a.put (some k) (u k)) h.put (fun x hx => hD x (by simp [hx]))
    refine ⟨h1, fun j => ?_⟩
    rw [List.foldl_cons, h2 j, sl_put h (hD k (by simp))]
    by_cases hj : j ∈ D
    · simp [hj]
    · by_cases hk : j = k
      · subst hk; simp [hj]
      · simp [hj, hk]
/-- a frame as the frame ahead of it with some slots put -/
theorem Kp.eq_put {n : Nat} {keep : List Nat} {a a' : Act} (D : List Nat) (h : Sz n a) (h' : Sz n a') (kp : Kp keep a a') (hd : ((List.range n).all fun k => D.contains k || keep.contains k) = true) (hD : (D.all fun k => decide (k < n)) = true) :
    a' = D.foldl (fun b k => b.put (some k) (sl a' k)) a := by
  have hD' : ∀ k ∈ D, k < n := fun k hk => by simpa using List.all_eq_true.1 hD k hk
  obtain ⟨h1, h2⟩ := foldl_put (u := sl a') D a h hD'
  refine h'.eq.trans (Eq.trans ?_ h1.eq.symm)
  unfold frN
  congr 2
  apply List.map_congr_left
  intro k hk
  have hk' : k < n := by simpa using hk
  rw [h2 k]
  split
  · rfl
  · next hnd =>
    have := List.all_eq_true.1 hd k hk
    simp only [Bool.or_eq_true, List.contains_iff_mem] at this
    rcases this with h3 | h3
    · exact absurd h3 hnd
    · exact kp k h3
/-- a region's theorem at the region written out -/
theorem wp_at {P : Program} {c c' : Code} {Q : Exit → Act → World → Prop} {a : Act} {w : World} (h : c = c') (k : c.wp P Q a w) : c'.wp P Q a w := h ▸ k
end Go.Proofs.YtcbkaiakdhiloabDoor
