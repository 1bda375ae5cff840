/- octets.Reader's methods at a place of a whole string: what is read there, where enough is left. -/
import Derived.Test.YtcbkaiakdhiloabOctR
set_option linter.unusedSimpArgs false
set_option linter.unusedVariables false
namespace Go.Proofs.Ytcbkaiakdhiloab
open Go.RowKit Go.Proofs
attribute [local go_sem] bs_size bs_append bs_extract

theorem take_drop_sub (l : List UInt8) (i n : Nat) : (l.drop i).take n = sub l i (i + n) := by unfold sub; rw [List.drop_take, Nat.add_sub_cancel_left]
theorem drop_drop_at (l : List UInt8) (i n : Nat) : (l.drop i).drop n = l.drop (i + n) := by rw [List.drop_drop]
section
variable (i p : Nat) (l : List UInt8) (w : World) (hR : Rd w p (l.drop i)) (hl : l.length ≤ 9223372036854775807)
include hR hl
theorem aTake (n : Nat) (h : i + n ≤ l.length) :
    Calls Try.prog 51 #[.pointer (some ⟨p, 0, none⟩), .int .i64 n] w fun e w' => e = .returned (.string (bs (sub l i (i + n)))) ∧ Rd w' p (l.drop (i + n)) ∧ Fr (oneB p) w w' :=
  (rTake n p (l.drop i) w hR (by omega) (by rw [List.length_drop]; omega)).mono fun e w' h' => by
    rw [Took, List.length_drop, take_drop_sub, drop_drop_at] at h'
    rcases h' with ⟨_, h'⟩ | ⟨h', _⟩
    · exact h'
    · omega
theorem aU8 (h : i + 1 ≤ l.length) :
    Calls Try.prog 54 #[.pointer (some ⟨p, 0, none⟩)] w fun e w' => e = .returned (.int .u8 (num (sub l i (i + 1)) : Int)) ∧ Rd w' p (l.drop (i + 1)) ∧ Fr (oneB p) w w' :=
  (rU8 p (l.drop i) w hR (by rw [List.length_drop]; omega)).mono fun e w' h' => by
    rw [Took, List.length_drop, take_drop_sub, drop_drop_at] at h'
    rcases h' with ⟨_, h'⟩ | ⟨h', _⟩
    · exact h'
    · omega
theorem aU16 (h : i + 2 ≤ l.length) :
    Calls Try.prog 47 #[.pointer (some ⟨p, 0, none⟩)] w fun e w' => e = .returned (.int .u16 (num (sub l i (i + 2)) : Int)) ∧ Rd w' p (l.drop (i + 2)) ∧ Fr (oneB p) w w' :=
  (rU16 p (l.drop i) w hR (by rw [List.length_drop]; omega)).mono fun e w' h' => by
    rw [Took, List.length_drop, take_drop_sub, drop_drop_at] at h'
    rcases h' with ⟨_, h'⟩ | ⟨h', _⟩
    · exact h'
    · omega
theorem aIP (h : i + 4 ≤ l.length) :
    Calls Try.prog 56 #[.pointer (some ⟨p, 0, none⟩)] w fun e w' => e = .returned (.int .u32 (num (sub l i (i + 4)) : Int)) ∧ Rd w' p (l.drop (i + 4)) ∧ Fr (oneB p) w w' :=
  (rIP p (l.drop i) w hR (by rw [List.length_drop]; omega)).mono fun e w' h' => by
    rw [Took, List.length_drop, take_drop_sub, drop_drop_at] at h'
    rcases h' with ⟨_, h'⟩ | ⟨h', _⟩
    · exact h'
    · omega
theorem aMAC (h : i + 6 ≤ l.length) :
    Calls Try.prog 57 #[.pointer (some ⟨p, 0, none⟩)] w fun e w' => e = .returned (macV (macOf (l.drop i))) ∧ Rd w' p (l.drop (i + 6)) ∧ Fr (oneB p) w w' :=
  (rMAC p (l.drop i) w hR (by rw [List.length_drop]; omega)).mono fun e w' h' => by
    rw [Took, List.length_drop, drop_drop_at] at h'
    rcases h' with ⟨_, h'⟩ | ⟨h', _⟩
    · exact h'
    · omega
end
theorem rU32 (p : Nat) (l : List UInt8) (w : World) (hR : Rd w p l) (hl : l.length ≤ 9223372036854775807) :
    Calls Try.prog 55 #[.pointer (some ⟨p, 0, none⟩)] w (Took p l 4 w (.int .u32 (num (l.take 4)))) := by
  go_enter Try.func55, Try.ntmps55
  go_wp2_with fail
  refine (rNum 4 p l _ hR (by omega) hl).mono ?_
  rintro e w1 (⟨hle, rfl, hR1, hf1⟩ | ⟨hlt, rfl, hf1⟩)
  · generalize num (l.take 4) = x at *
    go_wp2_with fail
    go_ret
    exact .inl ⟨hle, rfl, hR1, hf1⟩
  · exact ⟨rfl, .inr ⟨hlt, rfl, hf1⟩⟩
theorem aU32 (i p : Nat) (l : List UInt8) (w : World) (hR : Rd w p (l.drop i)) (hl : l.length ≤ 9223372036854775807) (h : i + 4 ≤ l.length) :
    Calls Try.prog 55 #[.pointer (some ⟨p, 0, none⟩)] w fun e w' => e = .returned (.int .u32 (num (sub l i (i + 4)) : Int)) ∧ Rd w' p (l.drop (i + 4)) ∧ Fr (oneB p) w w' :=
  (rU32 p (l.drop i) w hR (by rw [List.length_drop]; omega)).mono fun e w' h' => by
    rw [Took, List.length_drop, take_drop_sub, drop_drop_at] at h'
    rcases h' with ⟨_, h'⟩ | ⟨h', _⟩
    · exact h'
    · omega
end Go.Proofs.Ytcbkaiakdhiloab
