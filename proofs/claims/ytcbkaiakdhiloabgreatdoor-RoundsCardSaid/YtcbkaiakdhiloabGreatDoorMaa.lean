/- The formats as plain functions on lists of bytes: the sum of the internet; numbers in bytes. No program in sight. -/
import Derived.Test.YtcbkaiakdhiloabGreatDoorProg
import Derived.WalkKit
import Derived.WalkLawsBesides
import Derived.WalkSpells
import Derived.Deep.AppendLies
import Derived.Deep.DrawnRows
import Derived.Maps.AppendAt
import Derived.StillTailTactics
import Derived.Lib.Hide
import Derived.Lib.AppendStr
import Derived.Lib.Strings
import Derived.Laws.MakeOwn
import Derived.Laws.OwnMore
import Derived.Laws.BitsAllLaws
set_option linter.unusedSimpArgs false
set_option linter.unusedVariables false
namespace Go.Proofs.YtcbkaiakdhiloabGreatDoor

/-- the sum of all words of 16 bits; odd: the next byte is a lower half -/
def wsum : Bool → List UInt8 → Nat
  | _, [] => 0
  | false, b :: r => b.toNat * 256 + wsum true r
  | true, b :: r => b.toNat + wsum false r
/-- what is left of a sum when what is above 16 bits is added again -/
def norm (t : Nat) : Nat := if t = 0 then 0 else (t - 1) % 65535 + 1
def check (l : List UInt8) : Nat := 65535 - norm (wsum false l)

/-- one step of the program's sum -/
def ckStep (st : Bool × Nat) (b : UInt8) : Bool × Nat :=
  (!st.1, (st.2 + (if st.1 then b.toNat else b.toNat * 256)) % 65536 + (st.2 + (if st.1 then b.toNat else b.toNat * 256)) / 65536)
def ck (l : List UInt8) : Bool × Nat := l.foldl ckStep (false, 0)

theorem norm_le (t : Nat) : norm t ≤ 65535 := by unfold norm; split <;> omega
theorem norm_small (t : Nat) (h : t ≤ 65535) : norm t = t := by unfold norm; split <;> omega
theorem norm_fold (t : Nat) : norm (t % 65536 + t / 65536) = norm t := by unfold norm; split <;> split <;> omega
theorem norm_add (a b : Nat) : norm (norm a + b) = norm (a + b) := by unfold norm; split <;> split <;> split <;> omega
theorem check_le (l : List UInt8) : check l ≤ 65535 := by unfold check; omega
theorem wsum_le : ∀ (l : List UInt8) (o : Bool), wsum o l ≤ 65280 * l.length
  | [], o => by cases o <;> simp [wsum]
  | b :: r, o => by
    have hb := b.toNat_lt
    have h1 := wsum_le r true
    have h2 := wsum_le r false
    cases o <;> simp [wsum] <;> omega

theorem ck_gen : ∀ (l : List UInt8) (st : Bool × Nat), st.2 ≤ 65535 →
    (l.foldl ckStep st).2 ≤ 65535 ∧ (l.foldl ckStep st).2 = norm (st.2 + wsum st.1 l)
  | [], st, h => by simp [wsum, norm_small _ h]; cases st.1 <;> simp [wsum, norm_small _ h, h]
  | b :: r, (o, s), h => by
    have hb := b.toNat_lt
    have h1 : (ckStep (o, s) b).2 ≤ 65535 := by unfold ckStep; cases o <;> simp at h ⊢ <;> omega
    obtain ⟨h2, h3⟩ := ck_gen r (ckStep (o, s) b) h1
    refine ⟨h2, ?_⟩
    rw [List.foldl_cons, h3]
    have h4 : (ckStep (o, s) b).2 = norm (s + (if o then b.toNat else b.toNat * 256)) := by
      rw [← norm_small _ h1]; unfold ckStep; exact norm_fold _
    rw [h4, norm_add]
    cases o <;> simp [ckStep, wsum, Nat.add_assoc]
theorem ck_le (l : List UInt8) : (ck l).2 ≤ 65535 := (ck_gen l (false, 0) (by simp)).1
theorem ck_check (l : List UInt8) : 65535 - (ck l).2 = check l := by
  unfold check ck; rw [(ck_gen l (false, 0) (by simp)).2]; simp
theorem ck_snoc (l : List UInt8) (b : UInt8) : ck (l ++ [b]) = ckStep (ck l) b := by simp [ck]

/-- the reference's words: of a list of an even length -/
def words : List UInt8 → Nat
  | a :: b :: r => a.toNat * 256 + b.toNat + words r
  | _ => 0
def padded (l : List UInt8) : List UInt8 := if l.length % 2 = 1 then l ++ [0] else l
theorem wsum_words : ∀ (l : List UInt8), l.length % 2 = 0 → wsum false l = words l
  | [], _ => rfl
  | [_], h => by simp at h
  | a :: b :: r, h => by
    have := wsum_words r (by simp at h; omega)
    simp [wsum, words, this]; omega
theorem wsum_zero : ∀ (l : List UInt8) (o : Bool), wsum o (l ++ [0]) = wsum o l
  | [], o => by cases o <;> simp [wsum]
  | b :: r, o => by cases o <;> simp [wsum, wsum_zero r]
theorem words_padded (l : List UInt8) : words (padded l) = wsum false l := by
  unfold padded
  split
  · rename_i h; rw [← wsum_words _ (by simp; omega), wsum_zero]
  · rename_i h; rw [wsum_words _ (by omega)]
theorem words_take : ∀ (k : Nat) (l : List UInt8) (a b : UInt8), l[2 * k]? = some a → l[2 * k + 1]? = some b → words (l.take (2 * k + 2)) = words (l.take (2 * k)) + a.toNat * 256 + b.toNat
  | 0, l, a, b, ha, hb => by
    match l, ha, hb with
    | x :: y :: r, ha, hb => simp at ha hb; subst ha hb; simp [words]
  | k + 1, l, a, b, ha, hb => by
    match l, ha, hb with
    | [], ha, hb => simp at ha
    | [x], ha, hb => simp [show 2 * (k + 1) = 2 * k + 2 by omega] at ha
    | x :: y :: r, ha, hb =>
      have e1 : 2 * (k + 1) = 2 * k + 1 + 1 := by omega
      have ha' : r[2 * k]? = some a := by rw [e1] at ha; simpa using ha
      have hb' : r[2 * k + 1]? = some b := by rw [show 2 * (k + 1) + 1 = 2 * k + 1 + 1 + 1 by omega] at hb; simpa using hb
      have := words_take k r a b ha' hb'
      rw [show 2 * (k + 1) + 2 = (2 * k + 2) + 1 + 1 by omega, show 2 * (k + 1) = (2 * k) + 1 + 1 by omega]
      simp only [List.take_succ_cons, words, this]; omega
/-- the sum that the reference's loop keeps: the same but for what is carried -/
def Kept (a b : Nat) : Prop := norm a = norm b
theorem Kept.step {a b : Nat} (h : Kept a b) : Kept (a / 65536 + a % 65536) b := by
  unfold Kept at *; rw [Nat.add_comm, norm_fold]; exact h
theorem Kept.done {a b : Nat} (h : Kept a b) (ha : a ≤ 65535) : a = norm b := by
  unfold Kept at h; rw [← h, norm_small _ ha]

/-- a number in n bytes, the highest first -/
def big : Nat → Nat → List UInt8
  | 0, _ => []
  | n + 1, x => big n (x / 256) ++ [UInt8.ofNat x]
theorem big_length : ∀ n x, (big n x).length = n
  | 0, _ => rfl
  | n + 1, x => by simp [big, big_length n]
/-- the number of bytes, the highest first -/
def num (l : List UInt8) : Nat := l.foldl (fun n b => 256 * n + b.toNat) 0
theorem num_snoc (l : List UInt8) (b : UInt8) : num (l ++ [b]) = 256 * num l + b.toNat := by simp [num]
end Go.Proofs.YtcbkaiakdhiloabGreatDoor
namespace Go.Proofs.YtcbkaiakdhiloabGreatDoor

theorem wsum_append : ∀ (a b : List UInt8) (o : Bool), wsum o (a ++ b) = wsum o a + wsum (if a.length % 2 = 0 then o else !o) b
  | [], b, o => by cases o <;> simp [wsum]
  | x :: r, b, o => by
    have h := wsum_append r b (!o)
    have e : (if r.length % 2 = 0 then !o else !!o) = (if (x :: r).length % 2 = 0 then o else !o) := by
      rw [List.length_cons]
      rcases Nat.mod_two_eq_zero_or_one r.length with h | h
      · rw [if_pos h, if_neg (by omega)]
      · rw [if_neg (by omega), if_pos (by omega), Bool.not_not]
    rw [e] at h
    cases o
    · have h' : wsum true (r ++ b) = _ := h
      simp only [List.cons_append, wsum]
      rw [h']
      exact (Nat.add_assoc _ _ _).symm
    · have h' : wsum false (r ++ b) = _ := h
      simp only [List.cons_append, wsum]
      rw [h']
      exact (Nat.add_assoc _ _ _).symm
theorem wsum_even (a b : List UInt8) (h : a.length % 2 = 0) : wsum false (a ++ b) = wsum false a + wsum false b := by rw [wsum_append, if_pos h]
theorem wsum_set : ∀ (l : List UInt8) (o : Bool) (k : Nat) (b b' : UInt8), l[k]? = some b →
    ∃ w, (w = 1 ∨ w = 256) ∧ wsum o (l.set k b') + w * b.toNat = wsum o l + w * b'.toNat
  | [], o, k, b, b', h => by simp at h
  | x :: r, o, 0, b, b', h => by
    simp at h; subst h
    cases o
    · exact ⟨256, .inr rfl, by simp [wsum]; omega⟩
    · exact ⟨1, .inl rfl, by simp [wsum]; omega⟩
  | x :: r, o, k + 1, b, b', h => by
    obtain ⟨w, hw, e⟩ := wsum_set r (!o) k b b' (by simpa using h)
    refine ⟨w, hw, ?_⟩
    cases o <;> simp only [List.set_cons_succ, wsum, Bool.not_false, Bool.not_true] at e ⊢ <;> omega
theorem check_zero (l : List UInt8) : check l = 0 ↔ 0 < wsum false l ∧ wsum false l % 65535 = 0 := by
  unfold check norm
  generalize wsum false l = t
  split
  · omega
  · constructor
    · intro h; omega
    · rintro ⟨h1, h2⟩; omega
/-- a byte's change is seen -/
theorem check_set (l : List UInt8) (k : Nat) (b b' : UInt8) (h : check l = 0) (hb : l[k]? = some b) (hne : b' ≠ b) : check (l.set k b') ≠ 0 := by
  rw [check_zero] at h
  intro h2
  rw [check_zero] at h2
  obtain ⟨w, hw, e⟩ := wsum_set l false k b b' hb
  have hn : b'.toNat ≠ b.toNat := fun e => hne (UInt8.toNat_inj.1 e)
  have h1 := b.toNat_lt
  have h3 := b'.toNat_lt
  generalize wsum false (l.set k b') = t' at *
  generalize wsum false l = t at *
  rcases hw with rfl | rfl <;> omega
theorem wsum_big2 (x : Nat) (h : x < 65536) : wsum false (big 2 x) = x := by
  simp only [big, List.nil_append, List.cons_append, wsum, UInt8.toNat_ofNat']
  omega
theorem wsum_big4 (x : Nat) (h : x < 4294967296) : wsum false (big 4 x) = x / 65536 + x % 65536 := by
  simp only [big, List.nil_append, List.cons_append, wsum, UInt8.toNat_ofNat']
  omega
/-- the sum that is laid in makes the whole come to 0 -/
theorem check_laid (a b : List UInt8) (ha : a.length % 2 = 0) : check (a ++ big 2 (check (a ++ [0, 0] ++ b)) ++ b) = 0 := by
  have h0 : wsum false (a ++ [0, 0] ++ b) = wsum false a + wsum false b := by
    rw [wsum_even _ _ (by simp; omega), wsum_even _ _ ha]; simp [wsum]
  have hc := check_le (a ++ [0, 0] ++ b)
  rw [check_zero, wsum_even _ _ (by simp [big_length]; omega), wsum_even _ _ ha, wsum_big2 _ (by omega)]
  have e : check (a ++ [0, 0] ++ b) = 65535 - norm (wsum false a + wsum false b) := by unfold check; rw [h0]
  rw [e]
  unfold norm
  split <;> omega
theorem check_laid' (a b : List UInt8) (ha : a.length % 2 = 0) (h : check (a ++ [0, 0] ++ b) = 0) : check (a ++ big 2 65535 ++ b) = 0 := by
  have h0 : wsum false (a ++ [0, 0] ++ b) = wsum false a + wsum false b := by
    rw [wsum_even _ _ (by simp; omega), wsum_even _ _ ha]; simp [wsum]
  rw [check_zero, h0] at h
  rw [check_zero, wsum_even _ _ (by simp [big_length]; omega), wsum_even _ _ ha, wsum_big2 _ (by omega)]
  omega
/-- numbers are read as they were written -/
theorem num_app (a : List UInt8) (b : UInt8) : num (a ++ [b]) = 256 * num a + b.toNat := num_snoc a b
theorem num_big : ∀ n x, x < 256 ^ n → num (big n x) = x
  | 0, x, h => by simp at h; subst h; rfl
  | n + 1, x, h => by
    rw [big, num_snoc, num_big n (x / 256) (by rw [Nat.pow_succ] at h; exact Nat.div_lt_of_lt_mul (by omega)), UInt8.toNat_ofNat']
    omega
theorem xor_ne (b v : UInt8) (h : v ≠ 0) : b ^^^ v ≠ b := by
  intro e
  apply h
  have h2 : b ^^^ (b ^^^ v) = b ^^^ b := by rw [e]
  rw [← UInt8.xor_assoc, UInt8.xor_self, UInt8.zero_xor] at h2
  exact h2
end Go.Proofs.YtcbkaiakdhiloabGreatDoor
namespace Go.Proofs.YtcbkaiakdhiloabGreatDoor
open Go.RowKit Go.Proofs

/-- Only blocks of S, and new ones, have turned between w and w'. -/
structure Fr (S : Nat → Prop) (w w' : World) : Prop where
  os : w'.os = w.os
  tape : w'.tape = w.tape
  output : w'.output = w.output
  size : w.heap.size ≤ w'.heap.size
  block : ∀ k, k < w.heap.size → ¬ S k → w'.heap[k]? = w.heap[k]?

/-- nothing old has turned -/
def noB : Nat → Prop := fun _ => False
/-- one block -/
def oneB (p : Nat) : Nat → Prop := fun k => k = p
/-- from a block on -/
def fromB (B : Nat) : Nat → Prop := fun k => B ≤ k

section
variable {S T : Nat → Prop} {w w' w1 w2 : World}
theorem Fr.refl (S : Nat → Prop) (w : World) : Fr S w w := ⟨rfl, rfl, rfl, Nat.le_refl _, fun _ _ _ => rfl⟩
theorem Fr.trans' (h : Fr S w w1) (k : Fr T w1 w2) (hT : ∀ b, b < w.heap.size → T b → S b) : Fr S w w2 :=
  ⟨k.os.trans h.os, k.tape.trans h.tape, k.output.trans h.output, Nat.le_trans h.size k.size, fun b hb hS =>
    (k.block b (Nat.lt_of_lt_of_le hb h.size) (fun hTb => hS (hT b hb hTb))).trans (h.block b hb hS)⟩
theorem Fr.trans (h : Fr S w w1) (k : Fr S w1 w2) : Fr S w w2 := h.trans' k fun _ _ x => x
theorem Fr.none (h : Fr S w w1) (k : Fr noB w1 w2) : Fr S w w2 := h.trans' k fun _ _ x => x.elim
theorem Fr.mono (h : Fr S w w1) (hT : ∀ b, b < w.heap.size → S b → T b) : Fr T w w1 :=
  ⟨h.os, h.tape, h.output, h.size, fun b hb hS => h.block b hb (fun x => hS (hT b hb x))⟩
theorem Fr.of_no (h : Fr noB w w1) (T : Nat → Prop) : Fr T w w1 := h.mono fun _ _ x => x.elim
theorem Fr.drew (h : Fr S w w1) : Fr S w w1.drew := ⟨h.os, h.tape, h.output, h.size, h.block⟩
theorem Fr.drewN (h : Fr S w w1) (n : Nat) : Fr S w (w1.drewN n) := ⟨h.os, h.tape, h.output, h.size, h.block⟩
theorem Fr.alloc (h : Fr S w w1) (o : Obj) : Fr S w (w1.alloc o) :=
  ⟨h.os, h.tape, h.output, Nat.le_trans h.size (by simp), fun b hb hS => (Below.heap_alloc w1 o b (Nat.lt_of_lt_of_le hb h.size)).trans (h.block b hb hS)⟩
theorem Fr.setCell (h : Fr S w w1) {p : Addr} (hp : p.block < w.heap.size → S p.block) (u : Value) : Fr S w (w1.setCell p u) :=
  ⟨h.os, h.tape, h.output, by simpa [World.setCell] using h.size, fun b hb hS => (Below.heap_setCell w1 p u b (by rintro rfl; exact hS (hp hb))).trans (h.block b hb hS)⟩
theorem Fr.grown (h : Fr S w w1) {row : Option Nat} (k : w1.grownBy w2 row) (hr : ∀ g, row = some g → g < w.heap.size → S g) : Fr S w w2 :=
  h.trans' (T := fun b => row = some b) ⟨k.os, k.tape, k.output, k.size, fun b hb hn => k.block b hb (fun e => hn e.symm)⟩ fun b hb e => hr b e hb
theorem Fr.cell (h : Fr S w w') {a : Addr} (hb : a.block < w.heap.size) (hS : ¬ S a.block) : w'.cell? a = w.cell? a := World.cell?_of_block (h.block _ hb hS)
theorem Fr.frozen (h : Fr S w w') {a : Addr} (hb : a.block < w.heap.size) (hS : ¬ S a.block) : w'.frozen? a = w.frozen? a := World.frozen?_of_block (h.block _ hb hS)
theorem Fr.below {B : Nat} (h : Fr (fromB B) w w') (hB : B ≤ w.heap.size) : Below B w w' :=
  ⟨h.os, h.tape, h.output, h.size, fun k hk => h.block k (by omega) (by unfold fromB; omega)⟩
theorem Fr.of_below {B : Nat} (h : Below B w w') : Fr (fromB B) w w' :=
  ⟨h.os, h.tape, h.output, h.size, fun k _ hS => h.block k (by unfold fromB at hS; omega)⟩
theorem Fr.belowAll (h : Fr noB w w') : Below w.heap.size w w' := ⟨h.os, h.tape, h.output, h.size, fun k hk => h.block k hk (fun x => x)⟩
theorem Fr.ofBelowAll (h : Below w.heap.size w w') : Fr noB w w' := ⟨h.os, h.tape, h.output, h.size, fun k hk _ => h.block k hk⟩
theorem Fr.newer (h : Fr S w1 w2) {n : Nat} (hn : n ≤ w1.heap.size) : n ≤ w2.heap.size := Nat.le_trans hn h.size
end

/-- Block g is just the cells cs, none frozen. -/
def Bk (w : World) (g : Nat) (t : TypeId) (cs : Array Value) : Prop := w.heap[g]? = some (.cells cs t (0, 0))
section
variable {S : Nat → Prop} {w w' : World} {g : Nat} {t : TypeId} {cs : Array Value}
theorem Bk.lt (h : Bk w g t cs) : g < w.heap.size := by
  rcases Nat.lt_or_ge g w.heap.size with hlt | hge
  · exact hlt
  · unfold Bk at h; rw [Array.getElem?_eq_none hge] at h; cases h
theorem Bk.cell (h : Bk w g t cs) (i : Nat) : w.cell? ⟨g, i, none⟩ = cs[i]? := cell_of_row w g i cs t (0, 0) h
theorem Bk.free (h : Bk w g t cs) (i : Nat) : w.frozen? ⟨g, i, none⟩ = false := by
  unfold Bk at h; simp [World.frozen?, h]
theorem Bk.new (w : World) (t : TypeId) (cs : Array Value) : Bk (w.alloc (.cells cs t)) w.heap.size t cs := heap_alloc_new w _
theorem Bk.drew (h : Bk w g t cs) : Bk w.drew g t cs := h
theorem Bk.drewN (h : Bk w g t cs) (n : Nat) : Bk (w.drewN n) g t cs := h
theorem Bk.alloc (h : Bk w g t cs) (o : Obj) : Bk (w.alloc o) g t cs := (Below.heap_alloc w o g h.lt).trans h
theorem Bk.set (h : Bk w g t cs) (i : Nat) (u : Value) : Bk (w.setCell ⟨g, i, none⟩ u) g t (cs.setIfInBounds i u) := by
  unfold Bk at h ⊢; simp [World.setCell, Array.getElem?_modify, h]
theorem Bk.far (h : Bk w g t cs) {p : Addr} (hp : g ≠ p.block) (u : Value) : Bk (w.setCell p u) g t cs := (Below.heap_setCell w p u g hp).trans h
theorem Bk.keep (h : Bk w g t cs) (hf : Fr S w w') (hg : ¬ S g) : Bk w' g t cs := (hf.block g h.lt hg).trans h
theorem Bk.grown (h : Bk w g t cs) {row : Option Nat} (hb : w.grownBy w' row) (hg : some g ≠ row) : Bk w' g t cs := (hb.block g h.lt hg).trans h
theorem Bk.below {B : Nat} (h : Bk w g t cs) (hb : Below B w w') (hg : g < B) : Bk w' g t cs := (hb.block g hg).trans h
end

/-- a list of bytes as the model's string -/
def bs (l : List UInt8) : ByteArray := ⟨l.toArray⟩
theorem bs_data (l : List UInt8) : (bs l).data = l.toArray := rfl
theorem bs_list (l : List UInt8) : (bs l).data.toList = l := by simp [bs]
theorem bs_of (s : ByteArray) : bs s.data.toList = s := by cases s; simp [bs]
theorem bs_size (l : List UInt8) : (bs l).size = l.length := by simp [bs, ByteArray.size]
theorem bs_inj {a b : List UInt8} (h : bs a = bs b) : a = b := by
  have := congrArg (fun s => s.data.toList) h; simpa [bs] using this
theorem bs_toList (l : List UInt8) : (bs l).toList = l := by
  rw [Go.Lib.toList_data]; simp [bs]
theorem bs_append (a b : List UInt8) : bs a ++ bs b = bs (a ++ b) := by
  have h : (bs a ++ bs b).data = (bs (a ++ b)).data := by rw [ByteArray.data_append]; simp [bs]
  cases hx : bs a ++ bs b; cases hy : bs (a ++ b); rw [hx, hy] at h; simp at h; rw [h]
theorem bs_extract (l : List UInt8) (i j : Nat) : (bs l).extract i j = bs ((l.take j).drop i) := by
  have h : ((bs l).extract i j).data = (bs ((l.take j).drop i)).data := by rw [ByteArray.data_extract]; simp [bs, List.drop_take]
  cases hx : (bs l).extract i j; cases hy : bs ((l.take j).drop i); rw [hx, hy] at h; simp at h; rw [h]
theorem bs_get (l : List UInt8) (i : Nat) (h : i < (bs l).size) : (bs l)[i] = l[i]'(by rw [bs_size] at h; exact h) := by
  simp only [bs, ByteArray.getElem_eq_getElem_data]; simp

/-- the bytes from i up to j -/
def sub (l : List UInt8) (i j : Nat) : List UInt8 := (l.take j).drop i
theorem bs_sub (l : List UInt8) (i j : Nat) : (bs l).extract i j = bs (sub l i j) := bs_extract l i j
theorem sub_length (l : List UInt8) (i j : Nat) (h : j ≤ l.length) : (sub l i j).length = j - i := by simp [sub, List.length_drop, List.length_take]; omega
theorem sub_le (l : List UInt8) (i j : Nat) : (sub l i j).length ≤ j - i := by simp [sub, List.length_drop, List.length_take]; omega
theorem sub_all (l : List UInt8) : sub l 0 l.length = l := by simp [sub]
theorem sub_rest (l : List UInt8) (i : Nat) : sub l i l.length = l.drop i := by simp [sub]
def u8v (b : UInt8) : Value := .int .u8 (b.toNat : Int)
def u8s (l : List UInt8) : List Value := l.map u8v
theorem u8s_append (a b : List UInt8) : u8s (a ++ b) = u8s a ++ u8s b := by simp [u8s]
theorem u8s_length (a : List UInt8) : (u8s a).length = a.length := by simp [u8s]
theorem u8s_one (a : List UInt8) : ∀ u ∈ u8s a, u.oneCell' = true := by
  intro u hu; simp only [u8s, List.mem_map] at hu; obtain ⟨b, _, rfl⟩ := hu; rfl

theorem wr64 {n : Int} (h0 : 0 ≤ n) (h1 : n ≤ 4611686018427387904) : wrap64 n = n := IntWalk.wrap64_in n ⟨by omega, by omega⟩
theorem xor_max16 (x : Nat) (h : x < 65536) : 65535 ^^^ x = 65535 - x := by
  have h1 : (BitVec.allOnes 16 ^^^ BitVec.ofNat 16 x) = ~~~ (BitVec.ofNat 16 x) := by rw [BitVec.xor_comm, BitVec.xor_allOnes]
  have h2 := congrArg BitVec.toNat h1
  rw [BitVec.toNat_xor, BitVec.toNat_not, BitVec.toNat_ofNat, BitVec.toNat_allOnes, Nat.mod_eq_of_lt (by omega : x < 2 ^ 16)] at h2
  simpa using h2
theorem block_add (a : Addr) (n : Nat) : (a.add n).block = a.block := by unfold Addr.add; split <;> rfl
theorem add_add (a : Addr) (i j : Nat) : (a.add i).add j = a.add (i + j) := by
  unfold Addr.add
  by_cases hi : i = 0 <;> by_cases hj : j = 0 <;> simp [hi, hj, Nat.add_assoc]
theorem addr_add (b o n : Nat) : (⟨b, o, none⟩ : Addr).add n = ⟨b, o + n, none⟩ := by
  unfold Addr.add; split <;> simp_all

/-- The slice value of address A and n elements (size cells each) reads as the cells xs; its block is not one of S's. -/
def SlR (w : World) (S : Nat → Prop) (size : Nat) (A : Option Addr) (n : Nat) (xs : List Value) : Prop :=
  xs.length = n * size ∧ (0 < n → ∃ ad, A = some ad ∧ ad.block < w.heap.size ∧ ¬ S ad.block ∧ ∀ j u, xs[j]? = some u → w.cell? (ad.add j) = some u)
section
variable {S T : Nat → Prop} {w w' : World} {size n : Nat} {A : Option Addr} {xs : List Value}
theorem SlR.nil : SlR w S size A 0 [] := ⟨by simp, fun h => absurd h (by omega)⟩
theorem SlR.at_ {k : Nat} (h : SlR w S 1 A n xs) (hk : k < n) : ∃ ad u, A = some ad ∧ xs[k]? = some u ∧ w.cell? (ad.add k) = some u := by
  obtain ⟨ad, e, hb, _, hc⟩ := h.2 (by omega)
  have hl : k < xs.length := by have := h.1; omega
  exact ⟨ad, xs[k], e, List.getElem?_eq_getElem hl, hc k _ (List.getElem?_eq_getElem hl)⟩
theorem SlR.keep (h : SlR w S size A n xs) (hf : Fr S w w') : SlR w' S size A n xs :=
  ⟨h.1, fun hn => by
    obtain ⟨ad, e, hb, hS, hc⟩ := h.2 hn
    exact ⟨ad, e, Nat.lt_of_lt_of_le hb hf.size, hS, fun j u hu => (hf.cell (by rw [block_add]; exact hb) (by rw [block_add]; exact hS)).trans (hc j u hu)⟩⟩
theorem SlR.sub (h : SlR w S size A n xs) (hT : ∀ b, b < w.heap.size → T b → S b) : SlR w T size A n xs :=
  ⟨h.1, fun hn => by
    obtain ⟨ad, e, hb, hS, hc⟩ := h.2 hn
    exact ⟨ad, e, hb, fun x => hS (hT _ hb x), hc⟩⟩
theorem SlR.cut (h : SlR w S size A n xs) {k cap : Nat} (hk : k ≤ n) (hc : n ≤ cap) :
    SlR w S size (if cap = k then A else A.map (·.add (k * size))) (n - k) (xs.drop (k * size)) := by
  refine ⟨by rw [List.length_drop, h.1, Nat.sub_mul], fun hn => ?_⟩
  obtain ⟨ad, rfl, hb, hS, hcell⟩ := h.2 (by omega)
  rw [if_neg (by omega)]
  refine ⟨ad.add (k * size), rfl, by rw [block_add]; exact hb, by rw [block_add]; exact hS, fun j u hu => ?_⟩
  rw [add_add]
  exact hcell _ u (by rw [← hu, List.getElem?_drop])
theorem SlR.of_bk {g : Nat} {t : TypeId} {cs : Array Value} (h : Bk w g t cs) (hS : ¬ S g) (hn : cs.size = n * size) : SlR w S size (some ⟨g, 0, none⟩) n cs.toList := by
  refine ⟨by simpa using hn, fun _ => ⟨_, rfl, h.lt, hS, fun j u hu => ?_⟩⟩
  rw [addr_add, Nat.zero_add, h.cell j]; simpa using hu
end

/-- An append (of elements of one cell) onto a row of the call's own, whatever the source. -/
theorem run_app {P : Program} (w : World) (base : Nat) (t ty e : TypeId) (i : TypeInfo) (z : Value) (size bytes : Nat) (ht : P.underlying t = some (.slice e)) (hi : P.info? e = some i) (hz : i.zero = some z)
    (hsize : i.size = size) (hby : i.bytes = bytes) (hzs : z.cells.size = size) (hsz : 0 < size)
    (v : Value) (n : Nat) (xs : List Value) (hown : w.ownsRow base e size v n xs) (S : Nat → Prop)
    (A : Option Addr) (m c : Nat) (news : List Value) (hr : SlR w S size A m news) (h1 : ∀ u ∈ news, u.oneCell' = true)
    (h63 : n + m ≤ maxLen) (hbytes : (n + m) * bytes ≤ 140737488355328) (hbase : base ≤ w.heap.size) :
    ∃ v' w', (Builtin.append_ #[t, t] ty #[v, .slice A m c]).run P w = .ok v' w' ∧ w'.ownsRow base e size v' (n + m) (xs ++ news) ∧ w.grownBy w' v.ownBlock ∧
      (v'.ownBlock = v.ownBlock ∨ v'.ownBlock = some w.heap.size) := by
  rcases A with _ | ad
  · have hm : m = 0 := by
      rcases Nat.eq_zero_or_pos m with h0 | h0
      · exact h0
      · obtain ⟨ad, h, _⟩ := hr.2 h0; cases h
    subst hm
    have hn : news = [] := List.eq_nil_of_length_eq_zero (by simpa using hr.1)
    subst hn
    refine ⟨v, w, ?_, by simpa using hown, ⟨rfl, rfl, rfl, Nat.le_refl _, fun _ _ _ => rfl⟩, .inl rfl⟩
    rcases hown.2 with ⟨rfl, rfl⟩ | ⟨g, cap, cur, rfl, _, _, hnc, _⟩
    · simp [Builtin.append_, run_underlying ht, sizeOf, typeInfo, hi, Builtin.lenOf, Builtin.firstCells]
    · simp [Builtin.append_, run_underlying ht, sizeOf, typeInfo, hi, Builtin.lenOf, Builtin.firstCells, hnc, storeCells]
  · have hcells : ∀ j u, news[j]? = some u → w.cell? (ad.add j) = some u := by
      intro j u hu
      rcases Nat.eq_zero_or_pos m with h0 | h0
      · subst h0
        have hn : news = [] := List.eq_nil_of_length_eq_zero (by simpa using hr.1)
        subst hn; simp at hu
      · obtain ⟨ad', h, _, _, hc⟩ := hr.2 h0
        injection h with h; subst h
        exact hc j u hu
    obtain ⟨v', w', hrun, h2, h3, _, h5⟩ := run_append_own_at (P := P) w base t ty e i z size bytes ht hi hz hsize hby hzs hsz v n xs hown ad m c news hr.1 hcells h1 h63 hbytes hbase
    exact ⟨v', w', hrun, h2, h3, h5⟩

/-- what an append leaves: the new slice written out, where it lies, what has turned -/
structure Apd (w w' : World) (base : Nat) (e : TypeId) (size : Nat) (A : Option Addr) (A' : Option Addr) (cap' n : Nat) (xs : List Value) : Prop where
  own : w'.ownsRow base e size (.slice A' n cap') n xs
  fr : Fr (fun k => ∃ a, A = some a ∧ a.block = k) w w'
  at_ : ∀ a', A' = some a' → (w.heap.size ≤ a'.block ∨ ∃ a, A = some a ∧ a.block = a'.block)

theorem own_slice {w : World} {base : Nat} {e : TypeId} {size : Nat} {v : Value} {n : Nat} {xs : List Value} (h : w.ownsRow base e size v n xs) : ∃ A cap, v = .slice A n cap ∧ (A = none ∨ ∃ g, A = some ⟨g, 0, none⟩) := by
  rcases h.2 with ⟨rfl, rfl⟩ | ⟨g, cap, cur, rfl, _⟩
  · exact ⟨none, 0, rfl, .inl rfl⟩
  · exact ⟨_, cap, rfl, .inr ⟨g, rfl⟩⟩

theorem wp_app {P : Program} {w : World} {o : Oper} {a : Act} {K : Act → World → Prop} {Q : Exit → Act → World → Prop} (s x : Operand) (t : TypeId)
    (ho : o.op = .call { callee := .builtin .append, args := #[s, x], argTypes := #[t, t] })
    (base : Nat) (e : TypeId) (i : TypeInfo) (z : Value) (size bytes : Nat) (ht : P.underlying t = some (.slice e)) (hi : P.info? e = some i) (hz : i.zero = some z)
    (hsize : i.size = size) (hby : i.bytes = bytes) (hzs : z.cells.size = size) (hsz : 0 < size)
    (A0 : Option Addr) (n cap : Nat) (xs : List Value) (hs : a.eval s = .slice A0 n cap) (hown : w.ownsRow base e size (.slice A0 n cap) n xs) (S : Nat → Prop)
    (A : Option Addr) (m c : Nat) (news : List Value) (hx : a.eval x = .slice A m c) (hr : SlR w S size A m news) (h1 : ∀ u ∈ news, u.oneCell' = true)
    (h63 : n + m ≤ maxLen) (hbytes : (n + m) * bytes ≤ 140737488355328) (hbase : base ≤ w.heap.size)
    (h : ∀ A' cap' w', Apd w w' base e size A0 A' cap' (n + m) (xs ++ news) → K (a.put o.dst (.slice A' (n + m) cap')) w') : o.wp P a w K Q := by
  obtain ⟨v', w', hrun, h2, h3, h4⟩ := run_app (P := P) w base t o.type e i z size bytes ht hi hz hsize hby hzs hsz _ n xs hown S A m c news hr h1 h63 hbytes hbase
  obtain ⟨A', cap', rfl, hA'⟩ := own_slice h2
  unfold Oper.wp execOp
  simp only [ho, resolve, invoke, builtin, Sem.run_bind, Sem.run_pure, Result.andThen_ok, List.map_toArray, List.map_cons, List.map_nil, hs, hx, hrun]
  have hA0 : ∀ g, (Value.slice A0 n cap).ownBlock = some g → ∃ a, A0 = some a ∧ a.block = g := by
    intro g hg; cases A0 with
    | none => cases hg
    | some a => exact ⟨a, rfl, by simpa [Value.ownBlock] using hg⟩
  refine h A' cap' w' ⟨h2, (Fr.refl _ _).grown h3 fun g hg _ => hA0 g hg, ?_⟩
  rintro a' rfl
  rcases h4 with h4 | h4
  · exact .inr (hA0 _ h4.symm)
  · simp [Value.ownBlock] at h4; exact .inl (by omega)

/-- in a plain region's list -/
theorem wpList_app {P : Program} {w : World} {ops : Array Oper} {rest : List Oper} {o : Oper} {a : Act} {Q : Exit → Act → World → Prop} (hgd : o.guard = none) (s x : Operand) (t : TypeId)
    (ho : o.op = .call { callee := .builtin .append, args := #[s, x], argTypes := #[t, t] })
    (base : Nat) (e : TypeId) (i : TypeInfo) (z : Value) (size bytes : Nat) (ht : P.underlying t = some (.slice e)) (hi : P.info? e = some i) (hz : i.zero = some z)
    (hsize : i.size = size) (hby : i.bytes = bytes) (hzs : z.cells.size = size) (hsz : 0 < size)
    (A0 : Option Addr) (n cap : Nat) (xs : List Value) (hs : a.eval s = .slice A0 n cap) (hown : w.ownsRow base e size (.slice A0 n cap) n xs) (S : Nat → Prop)
    (A : Option Addr) (m c : Nat) (news : List Value) (hx : a.eval x = .slice A m c) (hr : SlR w S size A m news) (h1 : ∀ u ∈ news, u.oneCell' = true)
    (h63 : n + m ≤ maxLen) (hbytes : (n + m) * bytes ≤ 140737488355328) (hbase : base ≤ w.heap.size)
    (h : ∀ A' cap' w', Apd w w' base e size A0 A' cap' (n + m) (xs ++ news) → wpList P ops Q rest (a.put o.dst (.slice A' (n + m) cap')) w') : wpList P ops Q (o :: rest) a w :=
  wpList_plain hgd fun K hK => wp_app s x t ho base e i z size bytes ht hi hz hsize hby hzs hsz A0 n cap xs hs hown S A m c news hx hr h1 h63 hbytes hbase fun A' cap' w' h' => hK _ _ (h A' cap' w' h')

/-- at a step of a region that draws its order -/
theorem step_app {P : Program} {w : World} {ops : Array Oper} {o : Oper} {a : Act} {K : Act → World → Prop} {Q : Exit → Act → World → Prop} {E : Prop} (hgd : o.guard = none) (s x : Operand) (t : TypeId)
    (ho : o.op = .call { callee := .builtin .append, args := #[s, x], argTypes := #[t, t] })
    (base : Nat) (e : TypeId) (i : TypeInfo) (z : Value) (size bytes : Nat) (ht : P.underlying t = some (.slice e)) (hi : P.info? e = some i) (hz : i.zero = some z)
    (hsize : i.size = size) (hby : i.bytes = bytes) (hzs : z.cells.size = size) (hsz : 0 < size)
    (A0 : Option Addr) (n cap : Nat) (xs : List Value) (hs : a.eval s = .slice A0 n cap) (hown : w.ownsRow base e size (.slice A0 n cap) n xs) (S : Nat → Prop)
    (A : Option Addr) (m c : Nat) (news : List Value) (hx : a.eval x = .slice A m c) (hr : SlR w S size A m news) (h1 : ∀ u ∈ news, u.oneCell' = true)
    (h63 : n + m ≤ maxLen) (hbytes : (n + m) * bytes ≤ 140737488355328) (hbase : base ≤ w.heap.size)
    (h : ∀ A' cap' w', Apd w w' base e size A0 A' cap' (n + m) (xs ++ news) → K (a.put o.dst (.slice A' (n + m) cap')) w') :
    if Region.wanted o (yielded ops a.tmps) = true then Oper.wp P o a w K Q else E := by
  have hw : Region.wanted o (yielded ops a.tmps) = true := by simp [Region.wanted, hgd]
  rw [if_pos hw]
  exact wp_app s x t ho base e i z size bytes ht hi hz hsize hby hzs hsz A0 n cap xs hs hown S A m c news hx hr h1 h63 hbytes hbase h

theorem strCells_bs (l : List UInt8) : Go.Lib.strCells (bs l) = u8s l := by simp [Go.Lib.strCells, bs, u8s, u8v]
/-- append of a string's bytes, and where the new row lies -/
theorem run_app_str {P : Program} (w : World) (base : Nat) (t u ty e : TypeId) (i : TypeInfo) (ht : P.underlying t = some (.slice e)) (hu : P.underlying u = some .string) (hi : P.info? e = some i) (hz : i.zero = some (.int .u8 0))
    (hsize : i.size = 1) (hby : i.bytes = 1) (v : Value) (n : Nat) (xs : List Value) (hown : w.ownsRow base e 1 v n xs) (s : ByteArray)
    (h63 : n + s.size ≤ maxLen) (hbytes : n + s.size ≤ 140737488355328) (hbase : base ≤ w.heap.size) :
    ∃ v' w', (Builtin.append_ #[t, u] ty #[v, .string s]).run P w = .ok v' w' ∧ w'.ownsRow base e 1 v' (n + s.size) (xs ++ Go.Lib.strCells s) ∧ w.grownBy w' v.ownBlock ∧
      (v'.ownBlock = v.ownBlock ∨ v'.ownBlock = some w.heap.size) := by
  have hsmall : n + s.size ≤ 9223372036854775807 := by simp only [maxLen] at h63; omega
  obtain ⟨v', w', hrun, h1, h2, h3⟩ := Go.Lib.run_append_own_string (P := P) w base t u ty e i ht hu hi hz hsize hby v n xs hown s h63 hbytes hbase
  refine ⟨v', w', hrun, h1, h2, ?_⟩
  have hxl : xs.length = n := by simpa using hown.1
  rcases hown.2 with ⟨rfl, rfl⟩ | ⟨g, cap, cur, rfl, hbg, hg, hnc, hcm, hcs, htake⟩
  · by_cases hm : s.size = 0
    · have := h3.2 ⟨rfl, hm⟩; subst this; exact .inl rfl
    · rcases h1.2 with ⟨rfl, hn⟩ | ⟨g, cap, cur, rfl, _⟩
      · omega
      · have hr := run_append_nil_string (P := P) w t u ty e i (.int .u8 0) ht hu hi hz s (by omega) (by omega) (by rw [hby]; omega)
        rw [hr] at hrun
        injection hrun with hv _
        right; rw [← hv]; rfl
  · by_cases hroom : n + s.size ≤ cap
    · have hr := Go.Lib.run_append_room_string (P := P) w t u ty e i ht hu hi hsize g n cap cur hg s hroom (by simp at hcs; omega)
      rw [hr] at hrun
      injection hrun with hv _
      left; rw [← hv]; rfl
    · have holds : ∀ j u, xs[j]? = some u → w.cell? ((⟨g, 0, none⟩ : Addr).add j) = some u := hown.cells (g := g) rfl
      have hr := Go.Lib.run_append_grow_string (P := P) w t u ty e i (.int .u8 0) ht hu hi hz ⟨g, 0, none⟩ n cap xs (by rw [hsize]; simpa using hxl) holds s (by omega) (by omega) (by rw [hby]; exact growslice_fits (by omega) (by omega))
      rw [hr] at hrun
      injection hrun with hv _
      right; rw [← hv]; rfl

theorem wpList_app_str {P : Program} {w : World} {ops : Array Oper} {rest : List Oper} {o : Oper} {a : Act} {Q : Exit → Act → World → Prop} (hgd : o.guard = none) (sl x : Operand) (t u : TypeId)
    (ho : o.op = .call { callee := .builtin .append, args := #[sl, x], argTypes := #[t, u] })
    (base : Nat) (e : TypeId) (i : TypeInfo) (ht : P.underlying t = some (.slice e)) (hu : P.underlying u = some .string) (hi : P.info? e = some i) (hz : i.zero = some (.int .u8 0))
    (hsize : i.size = 1) (hby : i.bytes = 1) (A0 : Option Addr) (n cap : Nat) (xs : List Value) (hs : a.eval sl = .slice A0 n cap) (hown : w.ownsRow base e 1 (.slice A0 n cap) n xs)
    (s : List UInt8) (hx : a.eval x = .string (bs s)) (h63 : n + s.length ≤ maxLen) (hbytes : n + s.length ≤ 140737488355328) (hbase : base ≤ w.heap.size)
    (h : ∀ A' cap' w', Apd w w' base e 1 A0 A' cap' (n + s.length) (xs ++ u8s s) → wpList P ops Q rest (a.put o.dst (.slice A' (n + s.length) cap')) w') : wpList P ops Q (o :: rest) a w := by
  refine wpList_plain hgd fun K hK => ?_
  obtain ⟨v', w', hrun, h2, h3, h4⟩ := run_app_str (P := P) w base t u o.type e i ht hu hi hz hsize hby _ n xs hown (bs s) (by rw [bs_size]; exact h63) (by rw [bs_size]; exact hbytes) hbase
  rw [strCells_bs, bs_size] at h2
  obtain ⟨A', cap', rfl, hA'⟩ := own_slice h2
  unfold Oper.wp execOp
  simp only [ho, resolve, invoke, builtin, Sem.run_bind, Sem.run_pure, Result.andThen_ok, List.map_toArray, List.map_cons, List.map_nil, hs, hx, hrun]
  have hA0 : ∀ g, (Value.slice A0 n cap).ownBlock = some g → ∃ a, A0 = some a ∧ a.block = g := by
    intro g hg; cases A0 with
    | none => cases hg
    | some a => exact ⟨a, rfl, by simpa [Value.ownBlock] using hg⟩
  refine hK _ _ (h A' cap' w' ⟨h2, (Fr.refl _ _).grown h3 fun g hg _ => hA0 g hg, ?_⟩)
  rintro a' rfl
  rcases h4 with h4 | h4
  · exact .inr (hA0 _ h4.symm)
  · simp [Value.ownBlock] at h4; exact .inl (by omega)

/-- a row of bytes as a string -/
theorem run_str_of {P : Program} (w : World) (src dst e : TypeId) (hs : P.underlying src = some (.slice e)) (he : P.underlying e = some (.int .u8)) (hd : P.underlying dst = some .string) (S : Nat → Prop)
    (A : Option Addr) (n c : Nat) (l : List UInt8) (hr : SlR w S 1 A n (u8s l)) (hA : A = none ∨ ∃ g o, A = some ⟨g, o, none⟩) : (convert src dst (.slice A n c)).run P w = .ok (.string (bs l)) w := by
  have hn : l.length = n := by have := hr.1; rw [u8s_length] at this; omega
  rcases hA with rfl | ⟨g, o, rfl⟩
  · have h0 : n = 0 := by
      rcases Nat.eq_zero_or_pos n with h | h
      · exact h
      · obtain ⟨_, h, _⟩ := hr.2 h; cases h
    subst h0
    have hl : l = [] := List.eq_nil_of_length_eq_zero hn
    subst hl
    have h := run_convert_bytes_nil (P := P) (w := w) src e hs he 0 c dst hd
    exact h
  · have hb : strOfNums (l.map fun b => (b.toNat : Int)) = bs l := by
      have h1 : (strOfNums (l.map fun b => (b.toNat : Int))).data.toList = (bs l).data.toList := by
        rw [strOfNums_data, bs_list, List.map_map]
        conv => rhs; rw [← List.map_id l]
        apply List.map_congr_left; intro b _; simp
      have h2 := congrArg bs h1
      rw [bs_of, bs_of] at h2; exact h2
    have h := run_convert_bytes_arg (P := P) (w := w) src e hs he g o n c (l.map fun b => (b.toNat : Int)) (by simpa using hn) ?_ dst hd
    · rw [hb] at h; exact h
    · intro i hi
      obtain ⟨ad, hA, _, _, hc⟩ := hr.2 (by omega)
      injection hA with hA; subst hA
      have hx : (u8s l)[i]? = some (.int .u8 ((l.map fun b => (b.toNat : Int)).getD i 0)) := by
        have hi' : i < l.length := by omega
        simp [u8s, u8v, hi', List.getD]
      have h := hc i _ hx
      rwa [addr_add] at h

/-- 'make([]byte, n)' -/
theorem run_make_bytes {P : Program} (t e : TypeId) (i : TypeInfo) (ht : P.underlying t = some (.slice e)) (hi : P.info? e = some i) (hz : i.zero = some (.int .u8 0)) (hs : i.size = 1) (hb : i.bytes = 1)
    (n : Nat) (hn : n ≤ 1000000000) (w : World) :
    (Instr.makeSlice t (.int .i64 (n : Int)) (.int .i64 (n : Int))).run P w = .ok (.slice (some ⟨w.heap.size, 0, none⟩) n n) (w.alloc (.cells (List.replicate n (Value.int .u8 0)).toArray e)) := by
  have h := run_make (P := P) (w := w) t e i _ ht hi hz .i64 .i64 (n : Int) (n : Int) (by omega) (by omega) (by rw [hb]; omega) (by omega)
  rw [h, Int.toNat_natCast, hs, Nat.mul_one]
  congr 3
  apply Array.ext'
  rw [show (Value.int IntKind.u8 0).cells = #[Value.int IntKind.u8 0] from rfl, toList_madeCells_one]
theorem u8s_zeros (n : Nat) : u8s (List.replicate n 0) = List.replicate n (Value.int .u8 0) := by simp [u8s, u8v]
theorem alloc_sz (w : World) (o : Obj) : (w.alloc o).heap.size = w.heap.size + 1 := Array.size_push _
theorem wp_append_run {P : Program} {w : World} {o : Oper} {a : Act} {K : Act → World → Prop} {Q : Exit → Act → World → Prop} (s x : Operand) (t u : TypeId)
    (ho : o.op = .call { callee := .builtin .append, args := #[s, x], argTypes := #[t, u] }) {v y v' : Value} {w' : World}
    (hrun : (Builtin.append_ #[t, u] o.type #[v, y]).run P w = .ok v' w') (hs : a.eval s = v) (hx : a.eval x = y) (h : K (a.put o.dst v') w') : o.wp P a w K Q := by
  unfold Oper.wp execOp
  simp only [ho, resolve, invoke, builtin, Sem.run_bind, Sem.run_pure, Result.andThen_ok, List.map_toArray, List.map_cons, List.map_nil, hs, hx, hrun]
  exact h
theorem wpList_append_run {P : Program} {w : World} {ops : Array Oper} {rest : List Oper} {o : Oper} {a : Act} {Q : Exit → Act → World → Prop} (hgd : o.guard = none) (s x : Operand) (t u : TypeId)
    (ho : o.op = .call { callee := .builtin .append, args := #[s, x], argTypes := #[t, u] }) {v y v' : Value} {w' : World}
    (hrun : (Builtin.append_ #[t, u] o.type #[v, y]).run P w = .ok v' w') (hs : a.eval s = v) (hx : a.eval x = y) (h : wpList P ops Q rest (a.put o.dst v') w') : wpList P ops Q (o :: rest) a w :=
  wpList_plain hgd fun K hK => wp_append_run s x t u ho hrun hs hx (hK _ _ h)
theorem step_append_run {P : Program} {w : World} {ops : Array Oper} {o : Oper} {a : Act} {K : Act → World → Prop} {Q : Exit → Act → World → Prop} {E : Prop} (hgd : o.guard = none) (s x : Operand) (t u : TypeId)
    (ho : o.op = .call { callee := .builtin .append, args := #[s, x], argTypes := #[t, u] }) {v y v' : Value} {w' : World}
    (hrun : (Builtin.append_ #[t, u] o.type #[v, y]).run P w = .ok v' w') (hs : a.eval s = v) (hx : a.eval x = y) (h : K (a.put o.dst v') w') :
    if Region.wanted o (yielded ops a.tmps) = true then Oper.wp P o a w K Q else E := by
  have hw : Region.wanted o (yielded ops a.tmps) = true := by simp [Region.wanted, hgd]
  rw [if_pos hw]
  exact wp_append_run s x t u ho hrun hs hx h
end Go.Proofs.YtcbkaiakdhiloabGreatDoor
