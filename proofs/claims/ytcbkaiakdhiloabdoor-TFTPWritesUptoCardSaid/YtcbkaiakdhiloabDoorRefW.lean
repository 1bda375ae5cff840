/- The walks of the reference's small words: big, of, zero, mac, macOf, ip, ipOf. -/
import Derived.Test.YtcbkaiakdhiloabDoorMem
import Derived.Test.YtcbkaiakdhiloabDoorFmt
import Derived.Test.YtcbkaiakdhiloabDoorOctW
set_option linter.unusedSimpArgs false
set_option linter.unusedVariables false
namespace Go.Proofs.YtcbkaiakdhiloabDoor
open Go.RowKit Go.Proofs

attribute [local go_sem] bs_size bs_append bs_extract big_length

theorem one_str (P : Program) (w : World) (b : UInt8) (t : TypeId) (src dst e : TypeId) (hs : P.underlying src = some (.slice e)) (he : P.underlying e = some (.int .u8)) (hd : P.underlying dst = some .string) :
    (convert src dst (.slice (some ⟨w.heap.size, 0, none⟩) 1 1)).run P (w.alloc (.cells #[.int .u8 (b.toNat : Int)] t)) = .ok (.string (bs [b])) (w.alloc (.cells #[.int .u8 (b.toNat : Int)] t)) :=
  run_str_of _ src dst e hs he hd noB _ 1 1 [b] (SlR.of_bk (n := 1) (size := 1) (S := noB) (Bk.new w t #[.int .u8 (b.toNat : Int)]) (fun x => x) rfl) (.inr ⟨_, _, rfl⟩)

/-- the last j bytes of a number -/
theorem big_add (n j x : Nat) : big (n + j) x = big n (x / 256 ^ j) ++ big j x := by
  induction j generalizing x with
  | zero => simp [big]
  | succ j ih =>
    rw [show n + (j + 1) = (n + j) + 1 by omega, big, ih, big, Nat.div_div_eq_div_mul, Nat.mul_comm 256, ← Nat.pow_succ, List.append_assoc]
theorem big_cons (j x : Nat) : big (j + 1) x = UInt8.ofNat (x / 256 ^ j) :: big j x := by
  rw [show j + 1 = 1 + j by omega, big_add]; rfl

theorem big_wrap (x : Nat) : Value.int .u8 (IntKind.u8.wrap (x : Int)) = .int .u8 ((UInt8.ofNat x).toNat : Int) := by
  rw [IntKind.wrap_u8', UInt8.toNat_ofNat']; congr 1
set_option maxRecDepth 20000 in
set_option maxHeartbeats 1000000 in
theorem refBig (x n : Nat) (w : World) (hx : x ≤ 4611686018427387904) (hn : n ≤ 1000) :
    Calls Tryd.prog 33 #[.int .i64 x, .int .i64 n] w fun e w' => e = .returned (.string (bs (big n x))) ∧ Fr noB w w' := by
  go_enter Tryd.func33, Tryd.ntmps33
  go_wp2_with fail
  go_loopw [0, 1, 5] (fun y m s wr => ∃ j : Nat, j ≤ n ∧ m = .int .i64 ((n - j : Nat) : Int) ∧ y = .int .i64 ((x / 256 ^ j : Nat) : Int) ∧ s = .string (bs (big j x)) ∧ Fr noB w wr) (fun _ m _ _ => (intOf m).toNat)
  case atStart => exact ⟨0, Nat.zero_le _, rfl, by simp, by simp [big, bs], Fr.refl _ _⟩
  case round =>
    obtain ⟨j, hj, rfl, rfl, rfl, hfr⟩ := hrel
    by_cases hlt : j < n
    · have hy : x / 256 ^ j ≤ x := Nat.div_le_self _ _
      have Hb := Lib.hid (big_cons j x)
      have Hd : Hid (x / 256 ^ (j + 1) = x / 256 ^ j / 256) := by unfold Hid; rw [Nat.pow_succ, Nat.div_div_eq_div_mul]
      generalize x / 256 ^ j = y at *
      have hy2 : (y : Int) ≤ 4611686018427387904 := by omega
      have hm : (0 : Int) < ((n - j : Nat) : Int) := by omega
      have hm2 : ((n - j : Nat) : Int) ≤ 1000 := by omega
      have Hm : Hid ((n - (j + 1) : Nat) = (n - j) - 1) := by unfold Hid; omega
      generalize n - j = m at *
      have hbw := big_wrap y
      have hcv := fun w : World => one_str Tryd.prog w (UInt8.ofNat y) 5 43 9 5 Tryd.underlying43 Tryd.underlying5 Tryd.underlying9
      generalize UInt8.ofNat y = b at *
      go_wp2_with fail
      refine ⟨⟨j + 1, by omega, by rw [Hm.out] <;> go_num, by rw [Hd.out] <;> go_num, by rw [Hb.out] <;> rfl, hfr.alloc _⟩, by simp [intOf] <;> omega⟩
    · go_wp2_with fail
      go_ret
      obtain rfl : j = n := by omega
      exact ⟨rfl, hfr⟩


def macV (m : Mac) : Value := .agg #[.int .u8 (m.1.toNat : Int), .int .u8 (m.2.1.toNat : Int), .int .u8 (m.2.2.1.toNat : Int), .int .u8 (m.2.2.2.1.toNat : Int), .int .u8 (m.2.2.2.2.1.toNat : Int), .int .u8 (m.2.2.2.2.2.toNat : Int)]

end Go.Proofs.YtcbkaiakdhiloabDoor
