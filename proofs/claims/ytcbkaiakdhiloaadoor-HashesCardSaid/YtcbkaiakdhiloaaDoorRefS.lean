/- The words of the reference's Sum: its whole numbers are the words of plain SHA-256. -/
import Derived.Test.YtcbkaiakdhiloaaDoorRefTab
set_option linter.unusedSimpArgs false
set_option linter.unusedVariables false
namespace Go.Proofs.YtcbkaiakdhiloaaDoor
open Go.RowKit Go.Proofs

theorem xorw (a b : UInt32) : bits .xor .i64 (a.toNat : Int) (b.toNat : Int) = ((a ^^^ b).toNat : Int) := by
  have ha := a.toNat_lt; have hb := b.toNat_lt
  rw [i64_xor_nat _ _ (by omega) (by omega), UInt32.toNat_xor]
theorem andw (a b : UInt32) : bits .and .i64 (a.toNat : Int) (b.toNat : Int) = ((a &&& b).toNat : Int) := by
  have ha := a.toNat_lt; have hb := b.toNat_lt
  rw [i64_and_nat _ _ (by omega) (by omega), UInt32.toNat_and]
theorem orw (a b : UInt32) : bits .or .i64 (a.toNat : Int) (b.toNat : Int) = ((a ||| b).toNat : Int) := by
  have ha := a.toNat_lt; have hb := b.toNat_lt
  rw [i64_or_nat _ _ (by omega) (by omega), UInt32.toNat_or]
theorem notw (a : UInt32) : (4294967295 : Int) - (a.toNat : Int) = ((~~~ a).toNat : Int) := by
  have ha := a.toNat_lt
  rw [UInt32.toNat_not, show UInt32.size = 4294967296 from rfl]; omega
theorem shrw3 (x : UInt32) : (x.toNat : Int) / 8 = ((shr x 3).toNat : Int) := by rw [shr_toNat]; omega
theorem shrw10 (x : UInt32) : (x.toNat : Int) / 1024 = ((shr x 10).toNat : Int) := by rw [shr_toNat]; omega
theorem sg0w (x : UInt32) : bits .xor .i64 (bits .xor .i64 ((rotr x 7).toNat : Int) ((rotr x 18).toNat : Int)) ((x.toNat : Int) / 8) = ((sg0 x).toNat : Int) := by
  rw [shrw3, xorw, xorw]; rfl
theorem sg1w (x : UInt32) : bits .xor .i64 (bits .xor .i64 ((rotr x 17).toNat : Int) ((rotr x 19).toNat : Int)) ((x.toNat : Int) / 1024) = ((sg1 x).toNat : Int) := by
  rw [shrw10, xorw, xorw]; rfl
theorem bg1w (x : UInt32) : bits .xor .i64 (bits .xor .i64 ((rotr x 6).toNat : Int) ((rotr x 11).toNat : Int)) ((rotr x 25).toNat : Int) = ((bg1 x).toNat : Int) := by
  rw [xorw, xorw]; rfl
theorem bg0w (x : UInt32) : bits .xor .i64 (bits .xor .i64 ((rotr x 2).toNat : Int) ((rotr x 13).toNat : Int)) ((rotr x 22).toNat : Int) = ((bg0 x).toNat : Int) := by
  rw [xorw, xorw]; rfl
theorem chsw (e f g : UInt32) : bits .or .i64 (bits .and .i64 (e.toNat : Int) (f.toNat : Int)) (bits .and .i64 (4294967295 - (e.toNat : Int)) (g.toNat : Int)) = ((chs e f g).toNat : Int) := by
  rw [notw, andw, andw, orw, chs_or]
theorem majw (a b c : UInt32) : bits .or .i64 (bits .or .i64 (bits .and .i64 (a.toNat : Int) (b.toNat : Int)) (bits .and .i64 (a.toNat : Int) (c.toNat : Int))) (bits .and .i64 (b.toNat : Int) (c.toNat : Int)) = ((maj a b c).toNat : Int) := by
  rw [andw, andw, andw, orw, orw, maj_or]
theorem addw (a b : UInt32) : ((a.toNat : Int) + (b.toNat : Int)) % 4294967296 = ((a + b).toNat : Int) := by
  rw [UInt32.toNat_add]; omega
theorem add4w (a b c d : UInt32) : ((a.toNat : Int) + (b.toNat : Int) + (c.toNat : Int) + (d.toNat : Int)) % 4294967296 = ((a + b + c + d).toNat : Int) := by
  rw [UInt32.toNat_add, UInt32.toNat_add, UInt32.toNat_add]; omega
/-- a round's x, not cut to a word -/
theorem x5w (h e p k w d : UInt32) : ((d.toNat : Int) + ((h.toNat : Int) + (e.toNat : Int) + (p.toNat : Int) + (k.toNat : Int) + (w.toNat : Int))) % 4294967296 = ((d + (h + e + p + k + w)).toNat : Int) := by
  rw [UInt32.toNat_add, UInt32.toNat_add, UInt32.toNat_add, UInt32.toNat_add, UInt32.toNat_add]; omega
theorem x7w (h e p k w a m : UInt32) : (((h.toNat : Int) + (e.toNat : Int) + (p.toNat : Int) + (k.toNat : Int) + (w.toNat : Int)) + (a.toNat : Int) + (m.toNat : Int)) % 4294967296 = (((h + e + p + k + w) + (a + m)).toNat : Int) := by
  rw [UInt32.toNat_add, UInt32.toNat_add, UInt32.toNat_add, UInt32.toNat_add, UInt32.toNat_add, UInt32.toNat_add]; omega
theorem wdw (a b c d : UInt8) : ((a.toNat : Int) * 16777216 + (b.toNat : Int) * 65536 + (c.toNat : Int) * 256 + (d.toNat : Int)) = ((wd a b c d).toNat : Int) := by
  rw [wd_toNat]; omega
theorem big_byte2 (x : Int) (h0 : 0 ≤ x) (j : Nat) : Value.int .u8 (IntKind.u8.wrap (x / 2 ^ (8 * (j : Int)).toNat)) = .int .u8 ((UInt8.ofNat (x.toNat / 256 ^ j)).toNat : Int) := by
  obtain ⟨n, rfl⟩ := Int.eq_ofNat_of_zero_le h0
  rw [IntKind.wrap_u8']
  congr 1
  have e : (8 * (j : Int)).toNat = 8 * j := by omega
  rw [e, Int.toNat_natCast, UInt8.toNat_ofNat', show (2 : Int) ^ (8 * j) = ((2 ^ (8 * j) : Nat) : Int) by simp, show (256 : Nat) ^ j = 2 ^ (8 * j) by rw [show (256 : Nat) = 2 ^ 8 from rfl, ← Nat.pow_mul]]
  omega
/-- a number's first bytes: those from place j on -/
def bigF (n j x : Nat) : List UInt8 := big (n - j) (x / 256 ^ j)
theorem bigF_step (n j x : Nat) (h : j < n) : bigF n j x = bigF n (j + 1) x ++ [UInt8.ofNat (x / 256 ^ j)] := by
  unfold bigF
  rw [show n - j = (n - (j + 1)) + 1 by omega, big, Nat.div_div_eq_div_mul, ← Nat.pow_succ]

/-- words as whole numbers -/
def wv (l : List UInt32) : List Nat := l.map UInt32.toNat
theorem wv_length (l : List UInt32) : (wv l).length = l.length := by simp [wv]
theorem wv_get (l : List UInt32) (k : Nat) (x : UInt32) (h : l[k]? = some x) : (wv l)[k]? = some x.toNat := by simp [wv, h]
theorem wv_append (a b : List UInt32) : wv (a ++ b) = wv a ++ wv b := by simp [wv]
theorem getD_of (l : List UInt32) (k : Nat) (hk : k < l.length) : l[k]? = some (l.getD k 0) := by
  rw [List.getD_eq_getElem?_getD, List.getElem?_eq_getElem hk]; rfl
/-- the first i words of a block's schedule -/
def wsN (b : List UInt8) (i : Nat) : List UInt32 := if i ≤ 16 then words32 b i else sched (words32 b 16) (i - 16)
theorem wsN_length (b : List UInt8) (i : Nat) : (wsN b i).length = i := by
  unfold wsN; split
  · exact words32_length b i
  · rw [sched_length, words32_length]; omega
theorem wsN_zero (b : List UInt8) : wsN b 0 = [] := rfl
theorem wsN_lo (b : List UInt8) (i : Nat) (h : i < 16) : wsN b (i + 1) = wsN b i ++ [wd (b.getD (4 * i) 0) (b.getD (4 * i + 1) 0) (b.getD (4 * i + 2) 0) (b.getD (4 * i + 3) 0)] := by
  unfold wsN; rw [if_pos (by omega), if_pos (by omega), words32_succ]
theorem wsN_hi (b : List UInt8) (i : Nat) (h : 16 ≤ i) : wsN b (i + 1) = wsN b i ++ [nextW (wsN b i)] := by
  have e : wsN b i = sched (words32 b 16) (i - 16) := by
    unfold wsN; split
    · obtain rfl : i = 16 := by omega
      rfl
    · rfl
  rw [e]; unfold wsN; rw [if_neg (by omega), show i + 1 - 16 = (i - 16) + 1 by omega]; rfl
theorem wsN_all (b : List UInt8) : wsN b 64 = sched (words32 b 16) 48 := rfl
theorem S8.list_length (v : S8) : v.list.length = 8 := rfl
/-- i of the eight sums are done -/
def mixN (x y : S8) (i : Nat) : List UInt32 := ((x.add y).list.take i) ++ (x.list.drop i)
theorem mixN_zero (x y : S8) : mixN x y 0 = x.list := by simp [mixN]
theorem mixN_all (x y : S8) : mixN x y 8 = (x.add y).list := rfl
theorem mixN_step (x y : S8) : ∀ i, i < 8 → ∃ a b, (mixN x y i)[i]? = some a ∧ y.list[i]? = some b ∧ mixN x y (i + 1) = (mixN x y i).set i (a + b) := by
  intro i hi
  match i, hi with
  | 0, _ => exact ⟨_, _, rfl, rfl, rfl⟩
  | 1, _ => exact ⟨_, _, rfl, rfl, rfl⟩
  | 2, _ => exact ⟨_, _, rfl, rfl, rfl⟩
  | 3, _ => exact ⟨_, _, rfl, rfl, rfl⟩
  | 4, _ => exact ⟨_, _, rfl, rfl, rfl⟩
  | 5, _ => exact ⟨_, _, rfl, rfl, rfl⟩
  | 6, _ => exact ⟨_, _, rfl, rfl, rfl⟩
  | 7, _ => exact ⟨_, _, rfl, rfl, rfl⟩
end Go.Proofs.YtcbkaiakdhiloaaDoor
