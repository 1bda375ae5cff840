/- The walks of the reference's small words for reading: of, macOf, ipOf. -/
import Derived.Test.YtcbkaiakdhiloabDoorOctR
set_option linter.unusedSimpArgs false
set_option linter.unusedVariables false
namespace Go.Proofs.YtcbkaiakdhiloabDoor
open Go.RowKit Go.Proofs
attribute [local go_sem] bs_size bs_append bs_extract bs_toList

theorem of_val (x : Nat) (b : UInt8) (hx : x < 281474976710656) : Value.int .i64 (wrap64 (256 * (x : Int) + wrap64 (b.toNat : Int))) = .int .i64 ((256 * x + b.toNat : Nat) : Int) := by
  have hb := b.toNat_lt
  rw [wr64 (n := (b.toNat : Int)) (by omega) (by omega), wr64 (by omega) (by omega)]
  congr 1
set_option maxRecDepth 20000 in
set_option maxHeartbeats 1000000 in
theorem refOf (l : List UInt8) (w : World) (hl : l.length ≤ 6) :
    Calls Tryd.prog 27 #[.string (bs l)] w fun e w' => e = .returned (.int .i64 (num l)) ∧ w = w' := by
  go_enter Tryd.func27, Tryd.ntmps27
  go_wp2_with fail
  go_loop [3, 4] (fun n i => ∃ j : Nat, j ≤ l.length ∧ i = .int .i64 j ∧ n = .int .i64 (num (l.take j) : Int)) (fun _ i => l.length - (intOf i).toNat)
  case atStart => exact ⟨0, by omega, rfl, rfl⟩
  case round =>
    obtain ⟨j, hj, rfl, rfl⟩ := hrel
    by_cases hlt : j < l.length
    · have hb : num (l.take j) < 281474976710656 := by
        have h := num_le (l.take j)
        have h2 : (l.take j).length ≤ 6 := by rw [List.length_take]; omega
        have h3 : 256 ^ (l.take j).length ≤ 256 ^ 6 := Nat.pow_le_pow_right (by omega) h2
        omega
      have Hs : Hid (num (l.take (j + 1)) = 256 * num (l.take j) + l[j].toNat) := by
        unfold Hid; rw [List.take_succ_eq_append_getElem hlt, num_snoc]
      have hgi : ∀ h : j < (bs l).size, (bs l)[j]'h = l[j] := fun h => bs_get l j h
      have hb8 := l[j].toNat_lt
      generalize num (l.take j) = x at *
      have hb2 : (x : Int) ≤ 281474976710656 := by omega
      go_wp2_with fail
      go_round
      case rel =>
        exact ⟨j + 1, by omega, by go_num, by rw [Hs.out] <;> go_num⟩
      case measure => simp [intOf]; omega
    · go_wp2_with fail
      go_ret
      obtain rfl : j = l.length := by omega
      rw [List.take_length]
      exact ⟨rfl, rfl⟩


/-- the first j bytes of six are those of a list, the others 0 -/
def part6 (a : List UInt8) (j : Nat) : Array Value := ((u8s (a.take j)) ++ List.replicate (6 - j) (Value.int .u8 0)).toArray
theorem part6_size (a : List UInt8) (j : Nat) (hj : j ≤ 6) (ha : 6 ≤ a.length) : (part6 a j).size = 6 := by simp [part6, u8s, List.length_take]; omega
theorem part6_set (a : List UInt8) (j : Nat) (hj : j < 6) (ha : 6 ≤ a.length) : (part6 a j).setIfInBounds j (.int .u8 ((a[j]'(by omega)).toNat : Int)) = part6 a (j + 1) := by
  match a, ha with
  | a0 :: a1 :: a2 :: a3 :: a4 :: a5 :: r, _ =>
    match j, hj with
    | 0, _ | 1, _ | 2, _ | 3, _ | 4, _ | 5, _ => rfl
end Go.Proofs.YtcbkaiakdhiloabDoor
