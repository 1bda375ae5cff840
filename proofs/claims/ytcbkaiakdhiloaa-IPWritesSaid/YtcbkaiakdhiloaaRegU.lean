/- A region that draws its order, with memory made within it: the rule of XReg whose standing fact may speak of the operations' values too. -/
import Derived.Test.YtcbkaiakdhiloaaReg
set_option linter.unusedSimpArgs false
set_option linter.unusedVariables false
namespace Go.Proofs.Ytcbkaiakdhiloaa
open Go.RowKit Go.Proofs
section
variable {P : Program} {ops : Array Oper} {Q : Exit → Act → World → Prop}
theorem wp_region_ssau {id : Nat} {w : World} (hm : P.follows .mixedOrders = true) (hb : backB ops = true) (hgd : (List.range ops.size).all (fun i => match ops[i]? with | some o => o.guard.isNone | none => true) = true)
    (fr : (Nat → Value) → Act) (Φ : Nat → Value → World → Prop) (G : (Nat → Bool) → (Nat → Value) → World → Prop) (u0 : Nat → Value) (h0 : G (fun _ => false) u0 w.drew)
    (hstep : ∀ L u w i o, G L u w → (∀ j, L j = true → Φ j (u j) w) → ops[i]? = some o → L i = false → (∀ e ∈ o.after.toList, Region.binds .any e = true → L e.on = true) →
      ∀ K : Act → World → Prop, (∀ v w', Φ i v w' → G (mark L i) (upd u i v) w' → (∀ j x, L j = true → Φ j x w → Φ j x w') → K (fr (upd u i v)) w') → o.wp P (fr u) w K Q)
    (hend : ∀ u w, (∀ i, i < ops.size → Φ i (u i) w) → (∀ L, (∀ i, i < ops.size → L i = true) → G L u w → Q .normal (fr u) w)) : (Code.region id ops true).wp P Q (fr u0) w := by
  refine wp_region_inv hm (fun L a w => ∃ u, a = fr u ∧ (∀ j, L j = true → Φ j (u j) w) ∧ G L u w) hb ⟨u0, rfl, (fun j h => by cases h), h0⟩ ?_ ?_
  · rintro L a w i o ⟨u, rfl, hΦ, hG⟩ ho hL hd
    have hi : i < ops.size := by
      rcases Nat.lt_or_ge i ops.size with h | h
      · exact h
      · rw [Array.getElem?_eq_none h] at ho; cases ho
    have hg : o.guard = none := by
      have h1 := List.all_eq_true.1 hgd i (by simpa using hi)
      rw [ho] at h1
      simpa using h1
    refine wpOp_of ho hg (hstep L u w i o hG hΦ ho hL hd _ fun v w' h1 h2 h3 => ⟨upd u i v, rfl, fun j hj => ?_, h2⟩)
    by_cases hji : j = i
    · subst hji; simpa [upd] using h1
    · simp only [upd, hji, if_false] at hj ⊢
      exact h3 j _ hj (hΦ j hj)
  · rintro L a w ⟨u, rfl, hΦ, hG⟩ hall
    exact hend u w (fun i hi => hΦ i (hall i hi)) L hall hG
end
end Go.Proofs.Ytcbkaiakdhiloaa
