/- Words of SHA-256 as whole numbers, without any program. -/
import Derived.Test.YtcbkaiakdhiloabDoorMem
import Derived.Test.YtcbkaiakdhiloabDoorFmt
import Derived.Test.YtcbkaiakdhiloabDoorFmt2
import Derived.Test.YtcbkaiakdhiloabDoorSha
set_option linter.unusedSimpArgs false
set_option linter.unusedVariables false
namespace Go.Proofs.YtcbkaiakdhiloabDoor
open Go.RowKit Go.Proofs

theorem shrw3 (x : UInt32) : (x.toNat : Int) / 8 = ((shr x 3).toNat : Int) := by rw [shr_toNat]; omega
theorem shrw10 (x : UInt32) : (x.toNat : Int) / 1024 = ((shr x 10).toNat : Int) := by rw [shr_toNat]; omega
theorem addw (a b : UInt32) : ((a.toNat : Int) + (b.toNat : Int)) % 4294967296 = ((a + b).toNat : Int) := by
  rw [UInt32.toNat_add]; omega
theorem getD_of (l : List UInt32) (k : Nat) (hk : k < l.length) : l[k]? = some (l.getD k 0) := by
  rw [List.getD_eq_getElem?_getD, List.getElem?_eq_getElem hk]; rfl
/-- the first i words of a block's schedule -/
def wsN (b : List UInt8) (i : Nat) : List UInt32 := if i ≤ 16 then words32 b i else sched (words32 b 16) (i - 16)
theorem wsN_length (b : List UInt8) (i : Nat) : (wsN b i).length = i := by
  unfold wsN; split
  · exact words32_length b i
  · rw [sched_length, words32_length]; omega
theorem wsN_zero (b : List UInt8) : wsN b 0 = [] := rfl
theorem wsN_lo (b : List UInt8) (i : Nat) (h : i < 16) : wsN b (i + 1) = wsN b i ++ [wd (b.getD (4 * i) 0) (b.getD (4 * i + 1) 0) (b.getD (4 * i + 2) 0) (b.getD (4 * i + 3) 0)] := by
  unfold wsN; rw [if_pos (by omega), if_pos (by omega), words32_succ]
theorem wsN_hi (b : List UInt8) (i : Nat) (h : 16 ≤ i) : wsN b (i + 1) = wsN b i ++ [nextW (wsN b i)] := by
  have e : wsN b i = sched (words32 b 16) (i - 16) := by
    unfold wsN; split
    · obtain rfl : i = 16 := by omega
      rfl
    · rfl
  rw [e]; unfold wsN; rw [if_neg (by omega), show i + 1 - 16 = (i - 16) + 1 by omega]; rfl
theorem wsN_all (b : List UInt8) : wsN b 64 = sched (words32 b 16) 48 := rfl
theorem S8.list_length (v : S8) : v.list.length = 8 := rfl
/-- i of the eight sums are done -/
def mixN (x y : S8) (i : Nat) : List UInt32 := ((x.add y).list.take i) ++ (x.list.drop i)
theorem mixN_zero (x y : S8) : mixN x y 0 = x.list := by simp [mixN]
theorem mixN_all (x y : S8) : mixN x y 8 = (x.add y).list := rfl
theorem mixN_step (x y : S8) : ∀ i, i < 8 → ∃ a b, (mixN x y i)[i]? = some a ∧ y.list[i]? = some b ∧ mixN x y (i + 1) = (mixN x y i).set i (a + b) := by
  intro i hi
  match i, hi with
  | 0, _ => exact ⟨_, _, rfl, rfl, rfl⟩
  | 1, _ => exact ⟨_, _, rfl, rfl, rfl⟩
  | 2, _ => exact ⟨_, _, rfl, rfl, rfl⟩
  | 3, _ => exact ⟨_, _, rfl, rfl, rfl⟩
  | 4, _ => exact ⟨_, _, rfl, rfl, rfl⟩
  | 5, _ => exact ⟨_, _, rfl, rfl, rfl⟩
  | 6, _ => exact ⟨_, _, rfl, rfl, rfl⟩
  | 7, _ => exact ⟨_, _, rfl, rfl, rfl⟩
theorem words32_take (u : List UInt8) : words32 (u.take 64) 16 = words32 u 16 := by
  unfold words32
  apply List.map_congr_left
  intro i hi
  have hi2 : i < 16 := by simpa using hi
  have h : ∀ k, k < 64 → (u.take 64).getD k 0 = u.getD k 0 := by
    intro k hk
    rw [List.getD_eq_getElem?_getD, List.getD_eq_getElem?_getD, List.getElem?_take, if_pos hk]
  rw [h _ (by omega), h _ (by omega), h _ (by omega), h _ (by omega)]
theorem blk_wsN (H : S8) (u : List UInt8) : blk H (u.take 64) = H.add (rnds H (wsN u 64) 64) := by
  rw [blk, words32_take, wsN_all]
theorem byte_at (n j : Nat) : (n : Int) / 2 ^ (8 * j) % 256 = ((UInt8.ofNat (n / 256 ^ j)).toNat : Int) := by
  rw [UInt8.toNat_ofNat', show (2 : Int) ^ (8 * j) = ((2 ^ (8 * j) : Nat) : Int) by simp, show (256 : Nat) ^ j = 2 ^ (8 * j) by rw [show (256 : Nat) = 2 ^ 8 from rfl, ← Nat.pow_mul]]
  omega
end Go.Proofs.YtcbkaiakdhiloabDoor
