/- The program's rotation of words, and its words as they come out of the walk. -/
import Derived.Test.YtcbkaiakdhiloabDoorShaW
import Derived.BigQuiet
set_option linter.unusedSimpArgs false
set_option linter.unusedVariables false
namespace Go.Proofs.YtcbkaiakdhiloabDoor
open Go.RowKit Go.Proofs

theorem rot_val (x : UInt32) (n a b : Nat) (ha : a = x.toNat * 2 ^ (32 - n) % 4294967296) (hb : b = x.toNat / 2 ^ n) : bits .or .u32 (a : Int) (b : Int) = ((rotr x n).toNat : Int) := by
  have hx := x.toNat_lt
  have hal : a < 4294967296 := by rw [ha]; exact Nat.mod_lt _ (by omega)
  have hbl : b < 4294967296 := by rw [hb]; exact Nat.lt_of_le_of_lt (Nat.div_le_self _ _) hx
  rw [u32_or_nat a b hal hbl, Nat.or_comm, rotr_toNat, ha, hb]

set_option maxRecDepth 20000 in
theorem rot2 (x : UInt32) (w : World) :
    Calls Tryd.prog 71 #[.int .u32 (x.toNat : Int), .int .i64 (-2)] w fun e w' => e = .returned (.int .u32 ((rotr x 2).toNat : Int)) ∧ w' = w := by
  have hx := x.toNat_lt
  have hx1 : (x.toNat : Int) ≤ 4294967295 := by omega
  have hb : bits .and .u64 (IntKind.u64.wrap (-2)) 31 = 30 := by decide
  have hv := rot_val x 2 (x.toNat * 1073741824 % 4294967296) (x.toNat / 4) rfl rfl
  have hv2 : Hid (bits .or .u32 ((x.toNat : Int) * 1073741824 % 4294967296) ((x.toNat : Int) / 4) = ((rotr x 2).toNat : Int)) := by
    unfold Hid; rw [← hv]; congr 1
  clear hv
  go_enter Tryd.func71, Tryd.ntmps71
  go_wp2_with fail
  go_ret
  exact ⟨congrArg (fun v => Ending.returned (.int .u32 v)) hv2.out, rfl⟩

set_option maxRecDepth 20000 in
theorem rot6 (x : UInt32) (w : World) :
    Calls Tryd.prog 71 #[.int .u32 (x.toNat : Int), .int .i64 (-6)] w fun e w' => e = .returned (.int .u32 ((rotr x 6).toNat : Int)) ∧ w' = w := by
  have hx := x.toNat_lt
  have hx1 : (x.toNat : Int) ≤ 4294967295 := by omega
  have hb : bits .and .u64 (IntKind.u64.wrap (-6)) 31 = 26 := by decide
  have hv := rot_val x 6 (x.toNat * 67108864 % 4294967296) (x.toNat / 64) rfl rfl
  have hv2 : Hid (bits .or .u32 ((x.toNat : Int) * 67108864 % 4294967296) ((x.toNat : Int) / 64) = ((rotr x 6).toNat : Int)) := by
    unfold Hid; rw [← hv]; congr 1
  clear hv
  go_enter Tryd.func71, Tryd.ntmps71
  go_wp2_with fail
  go_ret
  exact ⟨congrArg (fun v => Ending.returned (.int .u32 v)) hv2.out, rfl⟩

set_option maxRecDepth 20000 in
theorem rot7 (x : UInt32) (w : World) :
    Calls Tryd.prog 71 #[.int .u32 (x.toNat : Int), .int .i64 (-7)] w fun e w' => e = .returned (.int .u32 ((rotr x 7).toNat : Int)) ∧ w' = w := by
  have hx := x.toNat_lt
  have hx1 : (x.toNat : Int) ≤ 4294967295 := by omega
  have hb : bits .and .u64 (IntKind.u64.wrap (-7)) 31 = 25 := by decide
  have hv := rot_val x 7 (x.toNat * 33554432 % 4294967296) (x.toNat / 128) rfl rfl
  have hv2 : Hid (bits .or .u32 ((x.toNat : Int) * 33554432 % 4294967296) ((x.toNat : Int) / 128) = ((rotr x 7).toNat : Int)) := by
    unfold Hid; rw [← hv]; congr 1
  clear hv
  go_enter Tryd.func71, Tryd.ntmps71
  go_wp2_with fail
  go_ret
  exact ⟨congrArg (fun v => Ending.returned (.int .u32 v)) hv2.out, rfl⟩

set_option maxRecDepth 20000 in
theorem rot11 (x : UInt32) (w : World) :
    Calls Tryd.prog 71 #[.int .u32 (x.toNat : Int), .int .i64 (-11)] w fun e w' => e = .returned (.int .u32 ((rotr x 11).toNat : Int)) ∧ w' = w := by
  have hx := x.toNat_lt
  have hx1 : (x.toNat : Int) ≤ 4294967295 := by omega
  have hb : bits .and .u64 (IntKind.u64.wrap (-11)) 31 = 21 := by decide
  have hv := rot_val x 11 (x.toNat * 2097152 % 4294967296) (x.toNat / 2048) rfl rfl
  have hv2 : Hid (bits .or .u32 ((x.toNat : Int) * 2097152 % 4294967296) ((x.toNat : Int) / 2048) = ((rotr x 11).toNat : Int)) := by
    unfold Hid; rw [← hv]; congr 1
  clear hv
  go_enter Tryd.func71, Tryd.ntmps71
  go_wp2_with fail
  go_ret
  exact ⟨congrArg (fun v => Ending.returned (.int .u32 v)) hv2.out, rfl⟩

set_option maxRecDepth 20000 in
theorem rot13 (x : UInt32) (w : World) :
    Calls Tryd.prog 71 #[.int .u32 (x.toNat : Int), .int .i64 (-13)] w fun e w' => e = .returned (.int .u32 ((rotr x 13).toNat : Int)) ∧ w' = w := by
  have hx := x.toNat_lt
  have hx1 : (x.toNat : Int) ≤ 4294967295 := by omega
  have hb : bits .and .u64 (IntKind.u64.wrap (-13)) 31 = 19 := by decide
  have hv := rot_val x 13 (x.toNat * 524288 % 4294967296) (x.toNat / 8192) rfl rfl
  have hv2 : Hid (bits .or .u32 ((x.toNat : Int) * 524288 % 4294967296) ((x.toNat : Int) / 8192) = ((rotr x 13).toNat : Int)) := by
    unfold Hid; rw [← hv]; congr 1
  clear hv
  go_enter Tryd.func71, Tryd.ntmps71
  go_wp2_with fail
  go_ret
  exact ⟨congrArg (fun v => Ending.returned (.int .u32 v)) hv2.out, rfl⟩

set_option maxRecDepth 20000 in
theorem rot17 (x : UInt32) (w : World) :
    Calls Tryd.prog 71 #[.int .u32 (x.toNat : Int), .int .i64 (-17)] w fun e w' => e = .returned (.int .u32 ((rotr x 17).toNat : Int)) ∧ w' = w := by
  have hx := x.toNat_lt
  have hx1 : (x.toNat : Int) ≤ 4294967295 := by omega
  have hb : bits .and .u64 (IntKind.u64.wrap (-17)) 31 = 15 := by decide
  have hv := rot_val x 17 (x.toNat * 32768 % 4294967296) (x.toNat / 131072) rfl rfl
  have hv2 : Hid (bits .or .u32 ((x.toNat : Int) * 32768 % 4294967296) ((x.toNat : Int) / 131072) = ((rotr x 17).toNat : Int)) := by
    unfold Hid; rw [← hv]; congr 1
  clear hv
  go_enter Tryd.func71, Tryd.ntmps71
  go_wp2_with fail
  go_ret
  exact ⟨congrArg (fun v => Ending.returned (.int .u32 v)) hv2.out, rfl⟩

set_option maxRecDepth 20000 in
theorem rot18 (x : UInt32) (w : World) :
    Calls Tryd.prog 71 #[.int .u32 (x.toNat : Int), .int .i64 (-18)] w fun e w' => e = .returned (.int .u32 ((rotr x 18).toNat : Int)) ∧ w' = w := by
  have hx := x.toNat_lt
  have hx1 : (x.toNat : Int) ≤ 4294967295 := by omega
  have hb : bits .and .u64 (IntKind.u64.wrap (-18)) 31 = 14 := by decide
  have hv := rot_val x 18 (x.toNat * 16384 % 4294967296) (x.toNat / 262144) rfl rfl
  have hv2 : Hid (bits .or .u32 ((x.toNat : Int) * 16384 % 4294967296) ((x.toNat : Int) / 262144) = ((rotr x 18).toNat : Int)) := by
    unfold Hid; rw [← hv]; congr 1
  clear hv
  go_enter Tryd.func71, Tryd.ntmps71
  go_wp2_with fail
  go_ret
  exact ⟨congrArg (fun v => Ending.returned (.int .u32 v)) hv2.out, rfl⟩

set_option maxRecDepth 20000 in
theorem rot19 (x : UInt32) (w : World) :
    Calls Tryd.prog 71 #[.int .u32 (x.toNat : Int), .int .i64 (-19)] w fun e w' => e = .returned (.int .u32 ((rotr x 19).toNat : Int)) ∧ w' = w := by
  have hx := x.toNat_lt
  have hx1 : (x.toNat : Int) ≤ 4294967295 := by omega
  have hb : bits .and .u64 (IntKind.u64.wrap (-19)) 31 = 13 := by decide
  have hv := rot_val x 19 (x.toNat * 8192 % 4294967296) (x.toNat / 524288) rfl rfl
  have hv2 : Hid (bits .or .u32 ((x.toNat : Int) * 8192 % 4294967296) ((x.toNat : Int) / 524288) = ((rotr x 19).toNat : Int)) := by
    unfold Hid; rw [← hv]; congr 1
  clear hv
  go_enter Tryd.func71, Tryd.ntmps71
  go_wp2_with fail
  go_ret
  exact ⟨congrArg (fun v => Ending.returned (.int .u32 v)) hv2.out, rfl⟩

set_option maxRecDepth 20000 in
theorem rot22 (x : UInt32) (w : World) :
    Calls Tryd.prog 71 #[.int .u32 (x.toNat : Int), .int .i64 (-22)] w fun e w' => e = .returned (.int .u32 ((rotr x 22).toNat : Int)) ∧ w' = w := by
  have hx := x.toNat_lt
  have hx1 : (x.toNat : Int) ≤ 4294967295 := by omega
  have hb : bits .and .u64 (IntKind.u64.wrap (-22)) 31 = 10 := by decide
  have hv := rot_val x 22 (x.toNat * 1024 % 4294967296) (x.toNat / 4194304) rfl rfl
  have hv2 : Hid (bits .or .u32 ((x.toNat : Int) * 1024 % 4294967296) ((x.toNat : Int) / 4194304) = ((rotr x 22).toNat : Int)) := by
    unfold Hid; rw [← hv]; congr 1
  clear hv
  go_enter Tryd.func71, Tryd.ntmps71
  go_wp2_with fail
  go_ret
  exact ⟨congrArg (fun v => Ending.returned (.int .u32 v)) hv2.out, rfl⟩

set_option maxRecDepth 20000 in
theorem rot25 (x : UInt32) (w : World) :
    Calls Tryd.prog 71 #[.int .u32 (x.toNat : Int), .int .i64 (-25)] w fun e w' => e = .returned (.int .u32 ((rotr x 25).toNat : Int)) ∧ w' = w := by
  have hx := x.toNat_lt
  have hx1 : (x.toNat : Int) ≤ 4294967295 := by omega
  have hb : bits .and .u64 (IntKind.u64.wrap (-25)) 31 = 7 := by decide
  have hv := rot_val x 25 (x.toNat * 128 % 4294967296) (x.toNat / 33554432) rfl rfl
  have hv2 : Hid (bits .or .u32 ((x.toNat : Int) * 128 % 4294967296) ((x.toNat : Int) / 33554432) = ((rotr x 25).toNat : Int)) := by
    unfold Hid; rw [← hv]; congr 1
  clear hv
  go_enter Tryd.func71, Tryd.ntmps71
  go_wp2_with fail
  go_ret
  exact ⟨congrArg (fun v => Ending.returned (.int .u32 v)) hv2.out, rfl⟩

theorem rotC (w : World) (x : UInt32) (m : Int) (hm : m = -2 ∨ m = -6 ∨ m = -7 ∨ m = -11 ∨ m = -13 ∨ m = -17 ∨ m = -18 ∨ m = -19 ∨ m = -22 ∨ m = -25) :
    Calls Tryd.prog 71 #[.int .u32 (x.toNat : Int), .int .i64 m] w fun e w' => e = .returned (.int .u32 ((rotr x (-m).toNat).toNat : Int)) ∧ w' = w := by
  rcases hm with rfl | rfl | rfl | rfl | rfl | rfl | rfl | rfl | rfl | rfl
  · exact rot2 x _
  · exact rot6 x _
  · exact rot7 x _
  · exact rot11 x _
  · exact rot13 x _
  · exact rot17 x _
  · exact rot18 x _
  · exact rot19 x _
  · exact rot22 x _
  · exact rot25 x _
theorem rotQ (w : World) (n : Nat) (x : UInt32) (m : Int) (hm : m = -2 ∨ m = -6 ∨ m = -7 ∨ m = -11 ∨ m = -13 ∨ m = -17 ∨ m = -18 ∨ m = -19 ∨ m = -22 ∨ m = -25) :
    Calls Tryd.prog 71 #[.int .u32 (x.toNat : Int), .int .i64 m] (w.drewN n) fun e w'' => e = .returned (.int .u32 ((rotr x (-m).toNat).toNat : Int)) ∧ ∃ k, w'' = w.drewN k := Calls.quiet_of_same (rotC _ x m hm)

theorem xorW (a b : UInt32) : bits .xor .u32 (a.toNat : Int) (b.toNat : Int) = ((a ^^^ b).toNat : Int) := by
  rw [u32_xor_nat _ _ a.toNat_lt b.toNat_lt, UInt32.toNat_xor]
theorem andW (a b : UInt32) : bits .and .u32 (a.toNat : Int) (b.toNat : Int) = ((a &&& b).toNat : Int) := by
  rw [u32_and_nat _ _ a.toNat_lt b.toNat_lt, UInt32.toNat_and]
theorem sg0W (x : UInt32) : bits .xor .u32 (bits .xor .u32 ((rotr x 7).toNat : Int) ((rotr x 18).toNat : Int)) ((x.toNat : Int) / 8) = ((sg0 x).toNat : Int) := by
  rw [shrw3, xorW, xorW]; rfl
theorem sg1W (x : UInt32) : bits .xor .u32 (bits .xor .u32 ((rotr x 17).toNat : Int) ((rotr x 19).toNat : Int)) ((x.toNat : Int) / 1024) = ((sg1 x).toNat : Int) := by
  rw [shrw10, xorW, xorW]; rfl
theorem bg1W (x : UInt32) : bits .xor .u32 (bits .xor .u32 ((rotr x 6).toNat : Int) ((rotr x 11).toNat : Int)) ((rotr x 25).toNat : Int) = ((bg1 x).toNat : Int) := by
  rw [xorW, xorW]; rfl
theorem bg0W (x : UInt32) : bits .xor .u32 (bits .xor .u32 ((rotr x 2).toNat : Int) ((rotr x 13).toNat : Int)) ((rotr x 22).toNat : Int) = ((bg0 x).toNat : Int) := by
  rw [xorW, xorW]; rfl
theorem majW (a b c : UInt32) : bits .xor .u32 (bits .xor .u32 (bits .and .u32 (a.toNat : Int) (b.toNat : Int)) (bits .and .u32 (a.toNat : Int) (c.toNat : Int))) (bits .and .u32 (b.toNat : Int) (c.toNat : Int)) = ((maj a b c).toNat : Int) := by
  rw [andW, andW, andW, xorW, xorW]; rfl
theorem wdW (a b c d : UInt8) : bits .or .u32 (bits .or .u32 (bits .or .u32 ((a.toNat : Int) * 16777216) ((b.toNat : Int) * 65536)) ((c.toNat : Int) * 256)) (d.toNat : Int) = ((wd a b c d).toNat : Int) := by
  have ha := a.toNat_lt; have hb := b.toNat_lt; have hc := c.toNat_lt; have hd := d.toNat_lt
  have e1 : ∀ x y n : Nat, y < 2 ^ n → (x * 2 ^ n) ||| y = x * 2 ^ n + y := by
    intro x y n h; rw [Nat.mul_comm]; exact (Nat.two_pow_add_eq_or_of_lt h x).symm
  rw [show (a.toNat : Int) * 16777216 = ((a.toNat * 16777216 : Nat) : Int) by omega, show (b.toNat : Int) * 65536 = ((b.toNat * 65536 : Nat) : Int) by omega, show (c.toNat : Int) * 256 = ((c.toNat * 256 : Nat) : Int) by omega,
    u32_or_nat _ _ (by omega) (by omega)]
  have h1 : a.toNat * 16777216 ||| b.toNat * 65536 = a.toNat * 16777216 + b.toNat * 65536 := by
    rw [show (16777216 : Nat) = 2 ^ 24 from rfl]; exact e1 _ _ 24 (by omega)
  rw [h1, u32_or_nat _ _ (by omega) (by omega)]
  have h2 : (a.toNat * 16777216 + b.toNat * 65536) ||| c.toNat * 256 = a.toNat * 16777216 + b.toNat * 65536 + c.toNat * 256 := by
    rw [show a.toNat * 16777216 + b.toNat * 65536 = (a.toNat * 256 + b.toNat) * 2 ^ 16 by omega]; exact e1 _ _ 16 (by omega)
  rw [h2, u32_or_nat _ _ (by omega) (by omega)]
  have h3 : (a.toNat * 16777216 + b.toNat * 65536 + c.toNat * 256) ||| d.toNat = a.toNat * 16777216 + b.toNat * 65536 + c.toNat * 256 + d.toNat := by
    rw [show a.toNat * 16777216 + b.toNat * 65536 + c.toNat * 256 = (a.toNat * 65536 + b.toNat * 256 + c.toNat) * 2 ^ 8 by omega]; exact e1 _ _ 8 (by omega)
  rw [h3, wd_toNat]

end Go.Proofs.YtcbkaiakdhiloabDoor
