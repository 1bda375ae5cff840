/- A region that draws its order, with memory made within it: the rule of XReg whose standing fact may speak of the operations' values too. -/
import Derived.Test.YtcbkaiakdhiloabDoorReg
set_option linter.unusedSimpArgs false
set_option linter.unusedVariables false
namespace Go.Proofs.YtcbkaiakdhiloabDoor
open Go.RowKit Go.Proofs
section
variable {P : Program} {ops : Array Oper} {Q : Exit → Act → World → Prop}
theorem wp_region_ssau {id : Nat} {w : World} (hm : P.follows .mixedOrders = true) (hb : backB ops = true) (hgd : (List.range ops.size).all (fun i => match ops[i]? with | some o => o.guard.isNone | none => true) = true)
    (fr : (Nat → Value) → Act) (Φ : Nat → Value → World → Prop) (G : (Nat → Bool) → (Nat → Value) → World → Prop) (u0 : Nat → Value) (h0 : G (fun _ => false) u0 w.drew)
    (hstep : ∀ L u w i o, G L u w → (∀ j, L j = true → Φ j (u j) w) → ops[i]? = some o → L i = false → (∀ e ∈ o.after.toList, Region.binds .any e = true → L e.on = true) →
      ∀ K : Act → World → Prop, (∀ v w', Φ i v w' → G (mark L i) (upd u i v) w' → (∀ j x, L j = true → Φ j x w → Φ j x w') → K (fr (upd u i v)) w') → o.wp P (fr u) w K Q)
    (hend : ∀ u w, (∀ i, i < ops.size → Φ i (u i) w) → (∀ L, (∀ i, i < ops.size → L i = true) → G L u w → Q .normal (fr u) w)) : (Code.region id ops true).wp P Q (fr u0) w := by
  refine wp_region_inv hm (fun L a w => ∃ u, a = fr u ∧ (∀ j, L j = true → Φ j (u j) w) ∧ G L u w) hb ⟨u0, rfl, (fun j h => by cases h), h0⟩ ?_ ?_
  · rintro L a w i o ⟨u, rfl, hΦ, hG⟩ ho hL hd
    have hi : i < ops.size := by
      rcases Nat.lt_or_ge i ops.size with h | h
      · exact h
      · rw [Array.getElem?_eq_none h] at ho; cases ho
    have hg : o.guard = none := by
      have h1 := List.all_eq_true.1 hgd i (by simpa using hi)
      rw [ho] at h1
      simpa using h1
    refine wpOp_of ho hg (hstep L u w i o hG hΦ ho hL hd _ fun v w' h1 h2 h3 => ⟨upd u i v, rfl, fun j hj => ?_, h2⟩)
    by_cases hji : j = i
    · subst hji; simpa [upd] using h1
    · simp only [upd, hji, if_false] at hj ⊢
      exact h3 j _ hj (hΦ j hj)
  · rintro L a w ⟨u, rfl, hΦ, hG⟩ hall
    exact hend u w (fun i hi => hΦ i (hall i hi)) L hall hG

/-- wp_region_ssau, and what is done is known to be closed under what must come first. -/
theorem wp_region_ssac {id : Nat} {w : World} (hm : P.follows .mixedOrders = true) (hb : backB ops = true) (hgd : (List.range ops.size).all (fun i => match ops[i]? with | some o => o.guard.isNone | none => true) = true)
    (fr : (Nat → Value) → Act) (Φ : Nat → Value → World → Prop) (G : (Nat → Bool) → (Nat → Value) → World → Prop) (u0 : Nat → Value) (h0 : G (fun _ => false) u0 w.drew)
    (hstep : ∀ L u w i o, Cl ops L → G L u w → (∀ j, L j = true → Φ j (u j) w) → ops[i]? = some o → L i = false → (∀ e ∈ o.after.toList, Region.binds .any e = true → L e.on = true) →
      ∀ K : Act → World → Prop, (∀ v w', Φ i v w' → G (mark L i) (upd u i v) w' → (∀ j x, L j = true → Φ j x w → Φ j x w') → K (fr (upd u i v)) w') → o.wp P (fr u) w K Q)
    (hend : ∀ u w, (∀ i, i < ops.size → Φ i (u i) w) → (∀ L, (∀ i, i < ops.size → L i = true) → G L u w → Q .normal (fr u) w)) : (Code.region id ops true).wp P Q (fr u0) w :=
  wp_region_ssau hm hb hgd fr Φ (fun L u w => Cl ops L ∧ G L u w) u0 ⟨Cl.start ops, h0⟩
    (fun L u w i o hG hΦ ho hL hd K hK => hstep L u w i o hG.1 hG.2 hΦ ho hL hd K fun v w' h1 h2 h3 => hK v w' h1 ⟨hG.1.mark ho hd, h2⟩ h3)
    (fun u w h1 L h2 h3 => hend u w h1 L h2 h3.2)

/-- The same of a region that is run in the text's order. -/
theorem wp_region_ssau_plain {id : Nat} {w : World} (hm : P.follows .mixedOrders = true) (hb : backB ops = true) (hgd : (List.range ops.size).all (fun i => match ops[i]? with | some o => o.guard.isNone | none => true) = true)
    (fr : (Nat → Value) → Act) (Φ : Nat → Value → World → Prop) (G : (Nat → Bool) → (Nat → Value) → World → Prop) (u0 : Nat → Value) (h0 : G (fun _ => false) u0 w)
    (hstep : ∀ L u w i o, G L u w → (∀ j, L j = true → Φ j (u j) w) → ops[i]? = some o → L i = false → (∀ e ∈ o.after.toList, Region.binds .any e = true → L e.on = true) →
      ∀ K : Act → World → Prop, (∀ v w', Φ i v w' → G (mark L i) (upd u i v) w' → (∀ j x, L j = true → Φ j x w → Φ j x w') → K (fr (upd u i v)) w') → o.wp P (fr u) w K Q)
    (hend : ∀ u w, (∀ i, i < ops.size → Φ i (u i) w) → (∀ L, (∀ i, i < ops.size → L i = true) → G L u w → Q .normal (fr u) w)) : (Code.region id ops false).wp P Q (fr u0) w := by
  refine wp_region_list ?_
  have key : ∀ (rest : List Oper) (k : Nat) (u : Nat → Value) (w : World), ops.toList.drop k = rest → k ≤ ops.size → G (fun j => decide (j < k)) u w → (∀ j, j < k → Φ j (u j) w) → wpList P ops Q rest (fr u) w := by
    intro rest
    induction rest with
    | nil =>
      intro k u w hk hle hG hΦ
      have hkl : k = ops.size := by
        have := List.drop_eq_nil_iff.1 hk
        simp at this; omega
      subst hkl
      exact hend u w hΦ _ (fun i hi => by simpa using hi) hG
    | cons o rest ih =>
      intro k u w hk hle hG hΦ
      have hlt : k < ops.size := by
        rcases Nat.lt_or_ge k ops.size with h | h
        · exact h
        · rw [List.drop_eq_nil_of_le (by simpa using h)] at hk; cases hk
      have ho : ops[k]? = some o := by
        have h1 : (ops.toList.drop k)[0]? = some o := by rw [hk]; rfl
        rw [List.getElem?_drop] at h1
        simpa using h1
      have hr : ops.toList.drop (k + 1) = rest := by
        have h1 : (ops.toList.drop k).drop 1 = rest := by rw [hk]; rfl
        rw [List.drop_drop] at h1
        exact h1
      have hg : o.guard = none := by
        have h1 := List.all_eq_true.1 hgd k (by simpa using hlt)
        rw [ho] at h1
        simpa using h1
      refine wpList_plain hg fun K hK => ?_
      refine hstep (fun j => decide (j < k)) u w k o hG (fun j hj => hΦ j (by simpa using hj)) ho (by simp) ?_ K ?_
      · intro e he hbe
        unfold backB at hb
        have h1 := List.all_eq_true.1 hb k (by simpa using hlt)
        rw [ho] at h1
        have h2 := List.all_eq_true.1 h1 e he
        simpa [hbe] using h2
      · intro v w' hv hG' hst
        refine hK _ _ (ih (k + 1) (upd u k v) w' hr (by omega) ?_ ?_)
        · have e1 : mark (fun j => decide (j < k)) k = fun j => decide (j < k + 1) := by
            funext j
            unfold mark
            by_cases hj : j = k
            · subst hj; simp
            · simp only [hj, if_false]
              rw [decide_eq_decide]; omega
          rw [e1] at hG'; exact hG'
        · intro j hj
          by_cases hjk : j = k
          · subst hjk; simpa [upd] using hv
          · simp only [upd, hjk, if_false]
            exact hst j _ (by simp; omega) (hΦ j (by omega))
  exact key ops.toList 0 u0 w (by simp) (by omega) (by simpa using h0) (fun j hj => by omega)

theorem wpOp_or {i : Nat} {o : Oper} {K : Act → World → Prop} {a : Act} {w : World} (ho : ops[i]? = some o)
    (h : (Region.wanted o (yielded ops a.tmps) = true ∧ o.wp P a w K Q) ∨ (Region.wanted o (yielded ops a.tmps) = false ∧ K (a.put o.dst undef) w)) : wpOp P ops Q i K a w := by
  unfold wpOp
  rw [ho]
  rcases h with ⟨hw, h⟩ | ⟨hw, h⟩
  · simp only [hw, if_true]; exact .inl h
  · simp only [hw]; exact h
/-- wp_region_ssau for a region with guards: each operation is wanted, and carried out, or is not. -/
theorem wp_region_ssag {id : Nat} {w : World} (hm : P.follows .mixedOrders = true) (hb : backB ops = true)
    (fr : (Nat → Value) → Act) (Φ : Nat → Value → World → Prop) (G : (Nat → Bool) → (Nat → Value) → World → Prop) (u0 : Nat → Value) (h0 : G (fun _ => false) u0 w.drew)
    (hstep : ∀ L u w i o, G L u w → (∀ j, L j = true → Φ j (u j) w) → ops[i]? = some o → L i = false → (∀ e ∈ o.after.toList, Region.binds .any e = true → L e.on = true) →
      ∀ K : Act → World → Prop, (∀ v w', Φ i v w' → G (mark L i) (upd u i v) w' → (∀ j x, L j = true → Φ j x w → Φ j x w') → K (fr (upd u i v)) w') →
        (Region.wanted o (yielded ops (fr u).tmps) = true ∧ o.wp P (fr u) w K Q) ∨ (Region.wanted o (yielded ops (fr u).tmps) = false ∧ K ((fr u).put o.dst undef) w))
    (hend : ∀ u w, (∀ i, i < ops.size → Φ i (u i) w) → (∀ L, (∀ i, i < ops.size → L i = true) → G L u w → Q .normal (fr u) w)) : (Code.region id ops true).wp P Q (fr u0) w := by
  refine wp_region_inv hm (fun L a w => ∃ u, a = fr u ∧ (∀ j, L j = true → Φ j (u j) w) ∧ G L u w) hb ⟨u0, rfl, (fun j h => by cases h), h0⟩ ?_ ?_
  · rintro L a w i o ⟨u, rfl, hΦ, hG⟩ ho hL hd
    refine wpOp_or ho (hstep L u w i o hG hΦ ho hL hd _ fun v w' h1 h2 h3 => ⟨upd u i v, rfl, fun j hj => ?_, h2⟩)
    by_cases hji : j = i
    · subst hji; simpa [upd] using h1
    · simp only [upd, hji, if_false] at hj ⊢
      exact h3 j _ hj (hΦ j hj)
  · rintro L a w ⟨u, rfl, hΦ, hG⟩ hall
    exact hend u w (fun i hi => hΦ i (hall i hi)) L hall hG
end
end Go.Proofs.YtcbkaiakdhiloabDoor
