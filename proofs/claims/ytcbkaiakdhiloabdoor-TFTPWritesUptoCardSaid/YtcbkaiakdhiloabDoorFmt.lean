/- The formats as plain functions on lists of bytes: the sum of the internet; numbers in bytes. No program in sight. -/
set_option linter.unusedSimpArgs false
set_option linter.unusedVariables false
namespace Go.Proofs.YtcbkaiakdhiloabDoor

/-- the sum of all words of 16 bits; odd: the next byte is a lower half -/
def wsum : Bool → List UInt8 → Nat
  | _, [] => 0
  | false, b :: r => b.toNat * 256 + wsum true r
  | true, b :: r => b.toNat + wsum false r
/-- what is left of a sum when what is above 16 bits is added again -/
def norm (t : Nat) : Nat := if t = 0 then 0 else (t - 1) % 65535 + 1
def check (l : List UInt8) : Nat := 65535 - norm (wsum false l)

/-- one step of the program's sum -/
def ckStep (st : Bool × Nat) (b : UInt8) : Bool × Nat :=
  (!st.1, (st.2 + (if st.1 then b.toNat else b.toNat * 256)) % 65536 + (st.2 + (if st.1 then b.toNat else b.toNat * 256)) / 65536)
def ck (l : List UInt8) : Bool × Nat := l.foldl ckStep (false, 0)

theorem norm_le (t : Nat) : norm t ≤ 65535 := by unfold norm; split <;> omega
theorem norm_small (t : Nat) (h : t ≤ 65535) : norm t = t := by unfold norm; split <;> omega
theorem norm_fold (t : Nat) : norm (t % 65536 + t / 65536) = norm t := by unfold norm; split <;> split <;> omega
theorem norm_add (a b : Nat) : norm (norm a + b) = norm (a + b) := by unfold norm; split <;> split <;> split <;> omega
theorem check_le (l : List UInt8) : check l ≤ 65535 := by unfold check; omega
theorem wsum_le : ∀ (l : List UInt8) (o : Bool), wsum o l ≤ 65280 * l.length
  | [], o => by cases o <;> simp [wsum]
  | b :: r, o => by
    have hb := b.toNat_lt
    have h1 := wsum_le r true
    have h2 := wsum_le r false
    cases o <;> simp [wsum] <;> omega

theorem ck_gen : ∀ (l : List UInt8) (st : Bool × Nat), st.2 ≤ 65535 →
    (l.foldl ckStep st).2 ≤ 65535 ∧ (l.foldl ckStep st).2 = norm (st.2 + wsum st.1 l)
  | [], st, h => by simp [wsum, norm_small _ h]; cases st.1 <;> simp [wsum, norm_small _ h, h]
  | b :: r, (o, s), h => by
    have hb := b.toNat_lt
    have h1 : (ckStep (o, s) b).2 ≤ 65535 := by unfold ckStep; cases o <;> simp at h ⊢ <;> omega
    obtain ⟨h2, h3⟩ := ck_gen r (ckStep (o, s) b) h1
    refine ⟨h2, ?_⟩
    rw [List.foldl_cons, h3]
    have h4 : (ckStep (o, s) b).2 = norm (s + (if o then b.toNat else b.toNat * 256)) := by
      rw [← norm_small _ h1]; unfold ckStep; exact norm_fold _
    rw [h4, norm_add]
    cases o <;> simp [ckStep, wsum, Nat.add_assoc]
theorem ck_le (l : List UInt8) : (ck l).2 ≤ 65535 := (ck_gen l (false, 0) (by simp)).1
theorem ck_check (l : List UInt8) : 65535 - (ck l).2 = check l := by
  unfold check ck; rw [(ck_gen l (false, 0) (by simp)).2]; simp
theorem ck_snoc (l : List UInt8) (b : UInt8) : ck (l ++ [b]) = ckStep (ck l) b := by simp [ck]

/-- the reference's words: of a list of an even length -/
def words : List UInt8 → Nat
  | a :: b :: r => a.toNat * 256 + b.toNat + words r
  | _ => 0
def padded (l : List UInt8) : List UInt8 := if l.length % 2 = 1 then l ++ [0] else l
theorem wsum_words : ∀ (l : List UInt8), l.length % 2 = 0 → wsum false l = words l
  | [], _ => rfl
  | [_], h => by simp at h
  | a :: b :: r, h => by
    have := wsum_words r (by simp at h; omega)
    simp [wsum, words, this]; omega
theorem wsum_zero : ∀ (l : List UInt8) (o : Bool), wsum o (l ++ [0]) = wsum o l
  | [], o => by cases o <;> simp [wsum]
  | b :: r, o => by cases o <;> simp [wsum, wsum_zero r]
theorem words_padded (l : List UInt8) : words (padded l) = wsum false l := by
  unfold padded
  split
  · rename_i h; rw [← wsum_words _ (by simp; omega), wsum_zero]
  · rename_i h; rw [wsum_words _ (by omega)]
theorem words_take : ∀ (k : Nat) (l : List UInt8) (a b : UInt8), l[2 * k]? = some a → l[2 * k + 1]? = some b → words (l.take (2 * k + 2)) = words (l.take (2 * k)) + a.toNat * 256 + b.toNat
  | 0, l, a, b, ha, hb => by
    match l, ha, hb with
    | x :: y :: r, ha, hb => simp at ha hb; subst ha hb; simp [words]
  | k + 1, l, a, b, ha, hb => by
    match l, ha, hb with
    | [], ha, hb => simp at ha
    | [x], ha, hb => simp [show 2 * (k + 1) = 2 * k + 2 by omega] at ha
    | x :: y :: r, ha, hb =>
      have e1 : 2 * (k + 1) = 2 * k + 1 + 1 := by omega
      have ha' : r[2 * k]? = some a := by rw [e1] at ha; simpa using ha
      have hb' : r[2 * k + 1]? = some b := by rw [show 2 * (k + 1) + 1 = 2 * k + 1 + 1 + 1 by omega] at hb; simpa using hb
      have := words_take k r a b ha' hb'
      rw [show 2 * (k + 1) + 2 = (2 * k + 2) + 1 + 1 by omega, show 2 * (k + 1) = (2 * k) + 1 + 1 by omega]
      simp only [List.take_succ_cons, words, this]; omega
/-- the sum that the reference's loop keeps: the same but for what is carried -/
def Kept (a b : Nat) : Prop := norm a = norm b
theorem Kept.step {a b : Nat} (h : Kept a b) : Kept (a / 65536 + a % 65536) b := by
  unfold Kept at *; rw [Nat.add_comm, norm_fold]; exact h
theorem Kept.done {a b : Nat} (h : Kept a b) (ha : a ≤ 65535) : a = norm b := by
  unfold Kept at h; rw [← h, norm_small _ ha]

/-- a number in n bytes, the highest first -/
def big : Nat → Nat → List UInt8
  | 0, _ => []
  | n + 1, x => big n (x / 256) ++ [UInt8.ofNat x]
theorem big_length : ∀ n x, (big n x).length = n
  | 0, _ => rfl
  | n + 1, x => by simp [big, big_length n]
/-- the number of bytes, the highest first -/
def num (l : List UInt8) : Nat := l.foldl (fun n b => 256 * n + b.toNat) 0
theorem num_snoc (l : List UInt8) (b : UInt8) : num (l ++ [b]) = 256 * num l + b.toNat := by simp [num]
end Go.Proofs.YtcbkaiakdhiloabDoor
