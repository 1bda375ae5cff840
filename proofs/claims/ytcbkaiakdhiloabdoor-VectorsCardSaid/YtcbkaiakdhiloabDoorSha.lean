/- SHA-256 as plain functions on lists of bytes and words: the program's way (state, rest, count) and the reference's (a padded text) come to the same. No program in sight. -/
import Derived.Test.YtcbkaiakdhiloabDoorFmt
set_option linter.unusedSimpArgs false
set_option linter.unusedVariables false
namespace Go.Proofs.YtcbkaiakdhiloabDoor

/-- the word x turned right by n bits -/
def rotr (x : UInt32) (n : Nat) : UInt32 := UInt32.ofNat ((x.toNat / 2 ^ n) ||| (x.toNat * 2 ^ (32 - n)) % 4294967296)
theorem rotr_toNat (x : UInt32) (n : Nat) : (rotr x n).toNat = (x.toNat / 2 ^ n) ||| (x.toNat * 2 ^ (32 - n)) % 4294967296 := by
  have hx := x.toNat_lt
  unfold rotr
  rw [UInt32.toNat_ofNat']
  apply Nat.mod_eq_of_lt
  apply Nat.or_lt_two_pow (n := 32)
  · exact Nat.lt_of_le_of_lt (Nat.div_le_self _ _) hx
  · omega
def shr (x : UInt32) (n : Nat) : UInt32 := UInt32.ofNat (x.toNat / 2 ^ n)
theorem shr_toNat (x : UInt32) (n : Nat) : (shr x n).toNat = x.toNat / 2 ^ n := by
  have hx := x.toNat_lt
  unfold shr
  rw [UInt32.toNat_ofNat']
  exact Nat.mod_eq_of_lt (Nat.lt_of_le_of_lt (Nat.div_le_self _ _) hx)

def sg0 (x : UInt32) : UInt32 := rotr x 7 ^^^ rotr x 18 ^^^ shr x 3
def sg1 (x : UInt32) : UInt32 := rotr x 17 ^^^ rotr x 19 ^^^ shr x 10
def bg0 (x : UInt32) : UInt32 := rotr x 2 ^^^ rotr x 13 ^^^ rotr x 22
def bg1 (x : UInt32) : UInt32 := rotr x 6 ^^^ rotr x 11 ^^^ rotr x 25
def chs (e f g : UInt32) : UInt32 := (e &&& f) ^^^ (~~~ e &&& g)
def maj (a b c : UInt32) : UInt32 := (a &&& b) ^^^ (a &&& c) ^^^ (b &&& c)
theorem chs_or (e f g : UInt32) : (e &&& f) ||| (~~~ e &&& g) = chs e f g := by
  unfold chs
  apply UInt32.toBitVec_inj.1
  simp only [UInt32.toBitVec_or, UInt32.toBitVec_and, UInt32.toBitVec_xor, UInt32.toBitVec_not]
  apply BitVec.eq_of_getLsbD_eq
  intro i hi
  simp [hi]
  cases e.toBitVec[i] <;> cases f.toBitVec[i] <;> cases g.toBitVec[i] <;> rfl
theorem maj_or (a b c : UInt32) : (a &&& b) ||| (a &&& c) ||| (b &&& c) = maj a b c := by
  unfold maj
  apply UInt32.toBitVec_inj.1
  simp only [UInt32.toBitVec_or, UInt32.toBitVec_and, UInt32.toBitVec_xor, UInt32.toBitVec_not]
  apply BitVec.eq_of_getLsbD_eq
  intro i hi
  simp [hi]
  cases a.toBitVec[i] <;> cases b.toBitVec[i] <;> cases c.toBitVec[i] <;> rfl

/-- the next word of a block's schedule -/
def nextW (w : List UInt32) : UInt32 := w.getD (w.length - 16) 0 + sg0 (w.getD (w.length - 15) 0) + w.getD (w.length - 7) 0 + sg1 (w.getD (w.length - 2) 0)
def sched (w : List UInt32) : Nat → List UInt32
  | 0 => w
  | k + 1 => sched w k ++ [nextW (sched w k)]
theorem sched_length (w : List UInt32) : ∀ k, (sched w k).length = w.length + k
  | 0 => rfl
  | k + 1 => by simp [sched, sched_length w k]; omega
/-- four bytes as a word -/
def wd (a b c d : UInt8) : UInt32 := UInt32.ofNat (a.toNat * 16777216 + b.toNat * 65536 + c.toNat * 256 + d.toNat)
theorem wd_toNat (a b c d : UInt8) : (wd a b c d).toNat = a.toNat * 16777216 + b.toNat * 65536 + c.toNat * 256 + d.toNat := by
  have := a.toNat_lt; have := b.toNat_lt; have := c.toNat_lt; have := d.toNat_lt
  unfold wd; rw [UInt32.toNat_ofNat']; omega
/-- the first k words of a block of bytes -/
def words32 (b : List UInt8) (k : Nat) : List UInt32 := (List.range k).map fun i => wd (b.getD (4 * i) 0) (b.getD (4 * i + 1) 0) (b.getD (4 * i + 2) 0) (b.getD (4 * i + 3) 0)
theorem words32_length (b : List UInt8) (k : Nat) : (words32 b k).length = k := by simp [words32]
theorem words32_succ (b : List UInt8) (k : Nat) : words32 b (k + 1) = words32 b k ++ [wd (b.getD (4 * k) 0) (b.getD (4 * k + 1) 0) (b.getD (4 * k + 2) 0) (b.getD (4 * k + 3) 0)] := by
  simp [words32, List.range_succ]

/-- eight words -/
structure S8 where
  a : UInt32
  b : UInt32
  c : UInt32
  d : UInt32
  e : UInt32
  f : UInt32
  g : UInt32
  h : UInt32
def S8.list (v : S8) : List UInt32 := [v.a, v.b, v.c, v.d, v.e, v.f, v.g, v.h]
def rnd (v : S8) (k w : UInt32) : S8 :=
  ⟨(v.h + bg1 v.e + chs v.e v.f v.g + k + w) + (bg0 v.a + maj v.a v.b v.c), v.a, v.b, v.c, v.d + (v.h + bg1 v.e + chs v.e v.f v.g + k + w), v.e, v.f, v.g⟩
def kTab : List UInt32 := [
  0x428a2f98, 0x71374491, 0xb5c0fbcf, 0xe9b5dba5, 0x3956c25b, 0x59f111f1, 0x923f82a4, 0xab1c5ed5,
  0xd807aa98, 0x12835b01, 0x243185be, 0x550c7dc3, 0x72be5d74, 0x80deb1fe, 0x9bdc06a7, 0xc19bf174,
  0xe49b69c1, 0xefbe4786, 0x0fc19dc6, 0x240ca1cc, 0x2de92c6f, 0x4a7484aa, 0x5cb0a9dc, 0x76f988da,
  0x983e5152, 0xa831c66d, 0xb00327c8, 0xbf597fc7, 0xc6e00bf3, 0xd5a79147, 0x06ca6351, 0x14292967,
  0x27b70a85, 0x2e1b2138, 0x4d2c6dfc, 0x53380d13, 0x650a7354, 0x766a0abb, 0x81c2c92e, 0x92722c85,
  0xa2bfe8a1, 0xa81a664b, 0xc24b8b70, 0xc76c51a3, 0xd192e819, 0xd6990624, 0xf40e3585, 0x106aa070,
  0x19a4c116, 0x1e376c08, 0x2748774c, 0x34b0bcb5, 0x391c0cb3, 0x4ed8aa4a, 0x5b9cca4f, 0x682e6ff3,
  0x748f82ee, 0x78a5636f, 0x84c87814, 0x8cc70208, 0x90befffa, 0xa4506ceb, 0xbef9a3f7, 0xc67178f2]
def h0 : S8 := ⟨0x6a09e667, 0xbb67ae85, 0x3c6ef372, 0xa54ff53a, 0x510e527f, 0x9b05688c, 0x1f83d9ab, 0x5be0cd19⟩
/-- the first k rounds -/
def rnds (v : S8) (ws : List UInt32) : Nat → S8
  | 0 => v
  | k + 1 => rnd (rnds v ws k) (kTab.getD k 0) (ws.getD k 0)
def S8.add (x y : S8) : S8 := ⟨x.a + y.a, x.b + y.b, x.c + y.c, x.d + y.d, x.e + y.e, x.f + y.f, x.g + y.g, x.h + y.h⟩
def blk (h : S8) (b : List UInt8) : S8 := h.add (rnds h (sched (words32 b 16) 48) 64)

/-- n blocks -/
def feedN : Nat → S8 → List UInt8 → S8 × List UInt8
  | 0, h, l => (h, l)
  | n + 1, h, l => feedN n (blk h (l.take 64)) (l.drop 64)
/-- all whole blocks -/
def feed (h : S8) (l : List UInt8) : S8 × List UInt8 := feedN (l.length / 64) h l
theorem feedN_rest : ∀ n h l, (feedN n h l).2 = l.drop (64 * n)
  | 0, h, l => by simp [feedN]
  | n + 1, h, l => by rw [feedN, feedN_rest n, List.drop_drop]; congr 1; omega
theorem feedN_append : ∀ n h (l r : List UInt8), 64 * n ≤ l.length → feedN n h (l ++ r) = ((feedN n h l).1, (feedN n h l).2 ++ r)
  | 0, h, l, r, _ => rfl
  | n + 1, h, l, r, hl => by
    rw [feedN, feedN, List.take_append_of_le_length (by omega), List.drop_append_of_le_length (by omega), feedN_append n _ _ _ (by rw [List.length_drop]; omega)]
theorem feedN_add : ∀ m n h l, feedN (m + n) h l = feedN n (feedN m h l).1 (feedN m h l).2
  | 0, n, h, l => by simp [feedN]
  | m + 1, n, h, l => by rw [show m + 1 + n = (m + n) + 1 by omega, feedN, feedN, feedN_add m n]
theorem feed_rest (h : S8) (l : List UInt8) : (feed h l).2 = l.drop (64 * (l.length / 64)) := feedN_rest _ _ _
theorem feed_lt (h : S8) (l : List UInt8) : (feed h l).2.length < 64 := by rw [feed_rest, List.length_drop]; omega
theorem feed_small (h : S8) (l : List UInt8) (hl : l.length < 64) : feed h l = (h, l) := by
  unfold feed; rw [Nat.div_eq_of_lt hl]; rfl
theorem feed_big (h : S8) (l : List UInt8) (hl : 64 ≤ l.length) : feed h l = feed (blk h (l.take 64)) (l.drop 64) := by
  unfold feed; rw [show l.length / 64 = (l.drop 64).length / 64 + 1 by rw [List.length_drop]; omega]; rfl
theorem feed_append (h : S8) (l r : List UInt8) : feed h (l ++ r) = feed (feed h l).1 ((feed h l).2 ++ r) := by
  have h1 : (l ++ r).length / 64 = l.length / 64 + ((feed h l).2 ++ r).length / 64 := by
    rw [List.length_append, List.length_append, feed_rest, List.length_drop]; omega
  have h2 := feedN_append (l.length / 64) h l r (by omega)
  show feedN ((l ++ r).length / 64) h (l ++ r) = feedN (((feed h l).2 ++ r).length / 64) (feed h l).1 ((feed h l).2 ++ r)
  rw [h1, feedN_add, h2]; rfl

/-- the bytes of a digest -/
def out8 (v : S8) : List UInt8 := v.list.flatMap fun x => big 4 x.toNat
/-- the text with what is put behind it -/
def padTo (l : List UInt8) : List UInt8 := l ++ [128] ++ List.replicate ((119 - l.length % 64) % 64) 0
def padded64 (l : List UInt8) : List UInt8 := padTo l ++ big 8 (8 * l.length)
def sha (l : List UInt8) : List UInt8 := out8 (feed h0 (padded64 l)).1
theorem padTo_length (l : List UInt8) : (padTo l).length % 64 = 56 := by simp [padTo]; omega
theorem padded64_length (l : List UInt8) : (padded64 l).length % 64 = 0 := by
  have := padTo_length l; simp [padded64, big_length]; omega
/-- zeros are put behind one by one, till 56 bytes are over -/
theorem pad_zero (l : List UInt8) (k : Nat) (hk : (l ++ List.replicate k (0 : UInt8)).length % 64 = 56) (hmin : ∀ j, j < k → (l.length + j) % 64 ≠ 56) : l ++ List.replicate k 0 = l ++ List.replicate ((120 - l.length % 64) % 64) 0 := by
  congr 2
  simp at hk
  rcases Nat.lt_trichotomy k ((120 - l.length % 64) % 64) with h | h | h
  · omega
  · exact h
  · exact absurd (by omega : (l.length + (120 - l.length % 64) % 64) % 64 = 56) (hmin _ h)
end Go.Proofs.YtcbkaiakdhiloabDoor
