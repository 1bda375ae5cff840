/- More of the formats as plain functions: what a byte's change does to the sum; numbers read back. No program in sight. -/
import Derived.Test.YtcbkaiakdhiloabFmt
set_option linter.unusedSimpArgs false
set_option linter.unusedVariables false
namespace Go.Proofs.Ytcbkaiakdhiloab

theorem wsum_append : ∀ (a b : List UInt8) (o : Bool), wsum o (a ++ b) = wsum o a + wsum (if a.length % 2 = 0 then o else !o) b
  | [], b, o => by cases o <;> simp [wsum]
  | x :: r, b, o => by
    have h := wsum_append r b (!o)
    have e : (if r.length % 2 = 0 then !o else !!o) = (if (x :: r).length % 2 = 0 then o else !o) := by
      rw [List.length_cons]
      rcases Nat.mod_two_eq_zero_or_one r.length with h | h
      · rw [if_pos h, if_neg (by omega)]
      · rw [if_neg (by omega), if_pos (by omega), Bool.not_not]
    rw [e] at h
    cases o
    · have h' : wsum true (r ++ b) = _ := h
      simp only [List.cons_append, wsum]
      rw [h']
      exact (Nat.add_assoc _ _ _).symm
    · have h' : wsum false (r ++ b) = _ := h
      simp only [List.cons_append, wsum]
      rw [h']
      exact (Nat.add_assoc _ _ _).symm
theorem wsum_even (a b : List UInt8) (h : a.length % 2 = 0) : wsum false (a ++ b) = wsum false a + wsum false b := by rw [wsum_append, if_pos h]
theorem wsum_set : ∀ (l : List UInt8) (o : Bool) (k : Nat) (b b' : UInt8), l[k]? = some b →
    ∃ w, (w = 1 ∨ w = 256) ∧ wsum o (l.set k b') + w * b.toNat = wsum o l + w * b'.toNat
  | [], o, k, b, b', h => by simp at h
  | x :: r, o, 0, b, b', h => by
    simp at h; subst h
    cases o
    · exact ⟨256, .inr rfl, by simp [wsum]; omega⟩
    · exact ⟨1, .inl rfl, by simp [wsum]; omega⟩
  | x :: r, o, k + 1, b, b', h => by
    obtain ⟨w, hw, e⟩ := wsum_set r (!o) k b b' (by simpa using h)
    refine ⟨w, hw, ?_⟩
    cases o <;> simp only [List.set_cons_succ, wsum, Bool.not_false, Bool.not_true] at e ⊢ <;> omega
theorem check_zero (l : List UInt8) : check l = 0 ↔ 0 < wsum false l ∧ wsum false l % 65535 = 0 := by
  unfold check norm
  generalize wsum false l = t
  split
  · omega
  · constructor
    · intro h; omega
    · rintro ⟨h1, h2⟩; omega
/-- a byte's change is seen -/
theorem check_set (l : List UInt8) (k : Nat) (b b' : UInt8) (h : check l = 0) (hb : l[k]? = some b) (hne : b' ≠ b) : check (l.set k b') ≠ 0 := by
  rw [check_zero] at h
  intro h2
  rw [check_zero] at h2
  obtain ⟨w, hw, e⟩ := wsum_set l false k b b' hb
  have hn : b'.toNat ≠ b.toNat := fun e => hne (UInt8.toNat_inj.1 e)
  have h1 := b.toNat_lt
  have h3 := b'.toNat_lt
  generalize wsum false (l.set k b') = t' at *
  generalize wsum false l = t at *
  rcases hw with rfl | rfl <;> omega
theorem wsum_big2 (x : Nat) (h : x < 65536) : wsum false (big 2 x) = x := by
  simp only [big, List.nil_append, List.cons_append, wsum, UInt8.toNat_ofNat']
  omega
theorem wsum_big4 (x : Nat) (h : x < 4294967296) : wsum false (big 4 x) = x / 65536 + x % 65536 := by
  simp only [big, List.nil_append, List.cons_append, wsum, UInt8.toNat_ofNat']
  omega
/-- the sum that is laid in makes the whole come to 0 -/
theorem check_laid (a b : List UInt8) (ha : a.length % 2 = 0) : check (a ++ big 2 (check (a ++ [0, 0] ++ b)) ++ b) = 0 := by
  have h0 : wsum false (a ++ [0, 0] ++ b) = wsum false a + wsum false b := by
    rw [wsum_even _ _ (by simp; omega), wsum_even _ _ ha]; simp [wsum]
  have hc := check_le (a ++ [0, 0] ++ b)
  rw [check_zero, wsum_even _ _ (by simp [big_length]; omega), wsum_even _ _ ha, wsum_big2 _ (by omega)]
  have e : check (a ++ [0, 0] ++ b) = 65535 - norm (wsum false a + wsum false b) := by unfold check; rw [h0]
  rw [e]
  unfold norm
  split <;> omega
theorem check_laid' (a b : List UInt8) (ha : a.length % 2 = 0) (h : check (a ++ [0, 0] ++ b) = 0) : check (a ++ big 2 65535 ++ b) = 0 := by
  have h0 : wsum false (a ++ [0, 0] ++ b) = wsum false a + wsum false b := by
    rw [wsum_even _ _ (by simp; omega), wsum_even _ _ ha]; simp [wsum]
  rw [check_zero, h0] at h
  rw [check_zero, wsum_even _ _ (by simp [big_length]; omega), wsum_even _ _ ha, wsum_big2 _ (by omega)]
  omega
/-- numbers are read as they were written -/
theorem num_app (a : List UInt8) (b : UInt8) : num (a ++ [b]) = 256 * num a + b.toNat := num_snoc a b
theorem num_big : ∀ n x, x < 256 ^ n → num (big n x) = x
  | 0, x, h => by simp at h; subst h; rfl
  | n + 1, x, h => by
    rw [big, num_snoc, num_big n (x / 256) (by rw [Nat.pow_succ] at h; exact Nat.div_lt_of_lt_mul (by omega)), UInt8.toNat_ofNat']
    omega
theorem xor_ne (b v : UInt8) (h : v ≠ 0) : b ^^^ v ≠ b := by
  intro e
  apply h
  have h2 : b ^^^ (b ^^^ v) = b ^^^ b := by rw [e]
  rw [← UInt8.xor_assoc, UInt8.xor_self, UInt8.zero_xor] at h2
  exact h2
end Go.Proofs.Ytcbkaiakdhiloab
