/- What a datagram's sum is of, beside it: the program's and the reference's. -/
import Derived.Test.YtcbkaiakdhiloabDoorChain
import Derived.Test.YtcbkaiakdhiloabDoorRefW
import Derived.Test.YtcbkaiakdhiloabDoorCheck
import Derived.Deep.Cut
import Derived.Deep.CutRange
set_option linter.unusedSimpArgs false
set_option linter.unusedVariables false
namespace Go.Proofs.YtcbkaiakdhiloabDoor
open Go.RowKit Go.Proofs
attribute [local go_sem] bs_size bs_append bs_sub bs_toList
def besideB (fi ti n : Nat) : List UInt8 := big 4 fi ++ big 4 ti ++ [0, 17] ++ big 2 n
theorem beside_length (fi ti n : Nat) : (besideB fi ti n).length = 12 := by simp [besideB, big_length]
theorem beside_lst (fi ti : Nat) (n : Int) : ([] ++ bigs 4 [(fi : Int), (ti : Int)] ++ [0, 17] ++ bigs 2 [n]) = besideB fi ti n.toNat := by
  simp only [bigs, List.flatMap_cons, List.flatMap_nil, List.append_nil, Int.toNat_natCast, List.nil_append, besideB, List.append_assoc]
theorem hashCheck_two (A : Option Addr) (c : Nat) (p q : List UInt8) (w : World) (hr : SlR w noB 1 A 2 (strs [p, q])) (hz : p.length ≤ 9223372036854775807) (hy : q.length ≤ 9223372036854775807) :
    Calls Tryd.prog 21 #[.slice A 2 c] w fun e w' => e = .returned (.int .u16 (check (p ++ q))) ∧ w = w' := by
  have h := hashCheck_any A 2 c [p, q] w noB hr (by omega) (by intro x hx; simp at hx; rcases hx with rfl | rfl <;> assumption)
  simpa using h
theorem refBigI (x : Int) (n : Nat) (w : World) (h0 : 0 ≤ x) (hx : x ≤ 4611686018427387904) (hn : n ≤ 1000) :
    Calls Tryd.prog 33 #[.int .i64 x, .int .i64 n] w fun e w' => e = .returned (.string (bs (big n x.toNat))) ∧ Fr noB w w' := by
  have h := refBig x.toNat n w (by omega) hn
  rw [Int.toNat_of_nonneg h0] at h
  exact h



end Go.Proofs.YtcbkaiakdhiloabDoor
