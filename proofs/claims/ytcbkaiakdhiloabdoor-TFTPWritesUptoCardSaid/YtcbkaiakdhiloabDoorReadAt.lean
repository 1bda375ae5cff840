/- octets.Reader's methods at a place of a whole string: what is read there, where enough is left. -/
import Derived.Test.YtcbkaiakdhiloabDoorOctR
set_option linter.unusedSimpArgs false
set_option linter.unusedVariables false
namespace Go.Proofs.YtcbkaiakdhiloabDoor
open Go.RowKit Go.Proofs
attribute [local go_sem] bs_size bs_append bs_extract

theorem take_drop_sub (l : List UInt8) (i n : Nat) : (l.drop i).take n = sub l i (i + n) := by unfold sub; rw [List.drop_take, Nat.add_sub_cancel_left]
theorem drop_drop_at (l : List UInt8) (i n : Nat) : (l.drop i).drop n = l.drop (i + n) := by rw [List.drop_drop]
section
variable (i p : Nat) (l : List UInt8) (w : World) (hR : Rd w p (l.drop i)) (hl : l.length ≤ 9223372036854775807)
include hR hl
theorem aTake (n : Nat) (h : i + n ≤ l.length) :
    Calls Tryd.prog 43 #[.pointer (some ⟨p, 0, none⟩), .int .i64 n] w fun e w' => e = .returned (.string (bs (sub l i (i + n)))) ∧ Rd w' p (l.drop (i + n)) ∧ Fr (oneB p) w w' :=
  (rTake n p (l.drop i) w hR (by omega) (by rw [List.length_drop]; omega)).mono fun e w' h' => by
    rw [Took, List.length_drop, take_drop_sub, drop_drop_at] at h'
    rcases h' with ⟨_, h'⟩ | ⟨h', _⟩
    · exact h'
    · omega
theorem aU8 (h : i + 1 ≤ l.length) :
    Calls Tryd.prog 40 #[.pointer (some ⟨p, 0, none⟩)] w fun e w' => e = .returned (.int .u8 (num (sub l i (i + 1)) : Int)) ∧ Rd w' p (l.drop (i + 1)) ∧ Fr (oneB p) w w' :=
  (rU8 p (l.drop i) w hR (by rw [List.length_drop]; omega)).mono fun e w' h' => by
    rw [Took, List.length_drop, take_drop_sub, drop_drop_at] at h'
    rcases h' with ⟨_, h'⟩ | ⟨h', _⟩
    · exact h'
    · omega
theorem aU16 (h : i + 2 ≤ l.length) :
    Calls Tryd.prog 41 #[.pointer (some ⟨p, 0, none⟩)] w fun e w' => e = .returned (.int .u16 (num (sub l i (i + 2)) : Int)) ∧ Rd w' p (l.drop (i + 2)) ∧ Fr (oneB p) w w' :=
  (rU16 p (l.drop i) w hR (by rw [List.length_drop]; omega)).mono fun e w' h' => by
    rw [Took, List.length_drop, take_drop_sub, drop_drop_at] at h'
    rcases h' with ⟨_, h'⟩ | ⟨h', _⟩
    · exact h'
    · omega
theorem aIP (h : i + 4 ≤ l.length) :
    Calls Tryd.prog 42 #[.pointer (some ⟨p, 0, none⟩)] w fun e w' => e = .returned (.int .u32 (num (sub l i (i + 4)) : Int)) ∧ Rd w' p (l.drop (i + 4)) ∧ Fr (oneB p) w w' :=
  (rIP p (l.drop i) w hR (by rw [List.length_drop]; omega)).mono fun e w' h' => by
    rw [Took, List.length_drop, take_drop_sub, drop_drop_at] at h'
    rcases h' with ⟨_, h'⟩ | ⟨h', _⟩
    · exact h'
    · omega
end
end Go.Proofs.YtcbkaiakdhiloabDoor
