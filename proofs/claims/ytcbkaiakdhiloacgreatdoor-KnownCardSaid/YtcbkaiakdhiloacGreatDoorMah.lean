/- Parts of the walk; written by programs, merged. -/
import Derived.Test.YtcbkaiakdhiloacGreatDoorMag
import Derived.Lib.LaidTab
import Derived.Lib.ItoaNum
import Derived.Maps.Own
import Derived.Maps.OwnOps
import Derived.Maps.OwnSet
import Derived.Maps.Views
import Derived.Lib.LaidU8T
import Derived.PinnedBridge
set_option linter.unusedSimpArgs false
set_option linter.unusedVariables false
set_option maxRecDepth 20000
set_option maxHeartbeats 8000000
namespace Go.Proofs.YtcbkaiakdhiloacGreatDoor
open Go.RowKit Go.Proofs
theorem rot_val (x : UInt32) (n a b : Nat) (ha : a = x.toNat * 2 ^ (32 - n) % 4294967296) (hb : b = x.toNat / 2 ^ n) : bits .or .u32 (a : Int) (b : Int) = ((rotr x n).toNat : Int) := by
  have hx := x.toNat_lt
  have hal : a < 4294967296 := by rw [ha]; exact Nat.mod_lt _ (by omega)
  have hbl : b < 4294967296 := by rw [hb]; exact Nat.lt_of_le_of_lt (Nat.div_le_self _ _) hx
  rw [u32_or_nat a b hal hbl, Nat.or_comm, rotr_toNat, ha, hb]
theorem rot2 (x : UInt32) (w : World) :
    Calls Tryz.prog 233 #[.int .u32 (x.toNat : Int), .int .i64 (-2)] w fun e w' => e = .returned (.int .u32 ((rotr x 2).toNat : Int)) ∧ w' = w := by
  have hx := x.toNat_lt
  have hx1 : (x.toNat : Int) ≤ 4294967295 := by omega
  have hb : bits .and .u64 (IntKind.u64.wrap (-2)) 31 = 30 := by decide
  have hv := rot_val x 2 (x.toNat * 1073741824 % 4294967296) (x.toNat / 4) rfl rfl
  have hv2 : Hid (bits .or .u32 ((x.toNat : Int) * 1073741824 % 4294967296) ((x.toNat : Int) / 4) = ((rotr x 2).toNat : Int)) := by
    unfold Hid; rw [← hv]; congr 1
  clear hv
  go_enter Tryz.func233, Tryz.ntmps233
  go_wp2_with fail
  go_ret
  exact ⟨congrArg (fun v => Ending.returned (.int .u32 v)) hv2.out, rfl⟩
theorem rot6 (x : UInt32) (w : World) :
    Calls Tryz.prog 233 #[.int .u32 (x.toNat : Int), .int .i64 (-6)] w fun e w' => e = .returned (.int .u32 ((rotr x 6).toNat : Int)) ∧ w' = w := by
  have hx := x.toNat_lt
  have hx1 : (x.toNat : Int) ≤ 4294967295 := by omega
  have hb : bits .and .u64 (IntKind.u64.wrap (-6)) 31 = 26 := by decide
  have hv := rot_val x 6 (x.toNat * 67108864 % 4294967296) (x.toNat / 64) rfl rfl
  have hv2 : Hid (bits .or .u32 ((x.toNat : Int) * 67108864 % 4294967296) ((x.toNat : Int) / 64) = ((rotr x 6).toNat : Int)) := by
    unfold Hid; rw [← hv]; congr 1
  clear hv
  go_enter Tryz.func233, Tryz.ntmps233
  go_wp2_with fail
  go_ret
  exact ⟨congrArg (fun v => Ending.returned (.int .u32 v)) hv2.out, rfl⟩
theorem rot7 (x : UInt32) (w : World) :
    Calls Tryz.prog 233 #[.int .u32 (x.toNat : Int), .int .i64 (-7)] w fun e w' => e = .returned (.int .u32 ((rotr x 7).toNat : Int)) ∧ w' = w := by
  have hx := x.toNat_lt
  have hx1 : (x.toNat : Int) ≤ 4294967295 := by omega
  have hb : bits .and .u64 (IntKind.u64.wrap (-7)) 31 = 25 := by decide
  have hv := rot_val x 7 (x.toNat * 33554432 % 4294967296) (x.toNat / 128) rfl rfl
  have hv2 : Hid (bits .or .u32 ((x.toNat : Int) * 33554432 % 4294967296) ((x.toNat : Int) / 128) = ((rotr x 7).toNat : Int)) := by
    unfold Hid; rw [← hv]; congr 1
  clear hv
  go_enter Tryz.func233, Tryz.ntmps233
  go_wp2_with fail
  go_ret
  exact ⟨congrArg (fun v => Ending.returned (.int .u32 v)) hv2.out, rfl⟩
theorem rot11 (x : UInt32) (w : World) :
    Calls Tryz.prog 233 #[.int .u32 (x.toNat : Int), .int .i64 (-11)] w fun e w' => e = .returned (.int .u32 ((rotr x 11).toNat : Int)) ∧ w' = w := by
  have hx := x.toNat_lt
  have hx1 : (x.toNat : Int) ≤ 4294967295 := by omega
  have hb : bits .and .u64 (IntKind.u64.wrap (-11)) 31 = 21 := by decide
  have hv := rot_val x 11 (x.toNat * 2097152 % 4294967296) (x.toNat / 2048) rfl rfl
  have hv2 : Hid (bits .or .u32 ((x.toNat : Int) * 2097152 % 4294967296) ((x.toNat : Int) / 2048) = ((rotr x 11).toNat : Int)) := by
    unfold Hid; rw [← hv]; congr 1
  clear hv
  go_enter Tryz.func233, Tryz.ntmps233
  go_wp2_with fail
  go_ret
  exact ⟨congrArg (fun v => Ending.returned (.int .u32 v)) hv2.out, rfl⟩
theorem rot13 (x : UInt32) (w : World) :
    Calls Tryz.prog 233 #[.int .u32 (x.toNat : Int), .int .i64 (-13)] w fun e w' => e = .returned (.int .u32 ((rotr x 13).toNat : Int)) ∧ w' = w := by
  have hx := x.toNat_lt
  have hx1 : (x.toNat : Int) ≤ 4294967295 := by omega
  have hb : bits .and .u64 (IntKind.u64.wrap (-13)) 31 = 19 := by decide
  have hv := rot_val x 13 (x.toNat * 524288 % 4294967296) (x.toNat / 8192) rfl rfl
  have hv2 : Hid (bits .or .u32 ((x.toNat : Int) * 524288 % 4294967296) ((x.toNat : Int) / 8192) = ((rotr x 13).toNat : Int)) := by
    unfold Hid; rw [← hv]; congr 1
  clear hv
  go_enter Tryz.func233, Tryz.ntmps233
  go_wp2_with fail
  go_ret
  exact ⟨congrArg (fun v => Ending.returned (.int .u32 v)) hv2.out, rfl⟩
theorem rot17 (x : UInt32) (w : World) :
    Calls Tryz.prog 233 #[.int .u32 (x.toNat : Int), .int .i64 (-17)] w fun e w' => e = .returned (.int .u32 ((rotr x 17).toNat : Int)) ∧ w' = w := by
  have hx := x.toNat_lt
  have hx1 : (x.toNat : Int) ≤ 4294967295 := by omega
  have hb : bits .and .u64 (IntKind.u64.wrap (-17)) 31 = 15 := by decide
  have hv := rot_val x 17 (x.toNat * 32768 % 4294967296) (x.toNat / 131072) rfl rfl
  have hv2 : Hid (bits .or .u32 ((x.toNat : Int) * 32768 % 4294967296) ((x.toNat : Int) / 131072) = ((rotr x 17).toNat : Int)) := by
    unfold Hid; rw [← hv]; congr 1
  clear hv
  go_enter Tryz.func233, Tryz.ntmps233
  go_wp2_with fail
  go_ret
  exact ⟨congrArg (fun v => Ending.returned (.int .u32 v)) hv2.out, rfl⟩
theorem rot18 (x : UInt32) (w : World) :
    Calls Tryz.prog 233 #[.int .u32 (x.toNat : Int), .int .i64 (-18)] w fun e w' => e = .returned (.int .u32 ((rotr x 18).toNat : Int)) ∧ w' = w := by
  have hx := x.toNat_lt
  have hx1 : (x.toNat : Int) ≤ 4294967295 := by omega
  have hb : bits .and .u64 (IntKind.u64.wrap (-18)) 31 = 14 := by decide
  have hv := rot_val x 18 (x.toNat * 16384 % 4294967296) (x.toNat / 262144) rfl rfl
  have hv2 : Hid (bits .or .u32 ((x.toNat : Int) * 16384 % 4294967296) ((x.toNat : Int) / 262144) = ((rotr x 18).toNat : Int)) := by
    unfold Hid; rw [← hv]; congr 1
  clear hv
  go_enter Tryz.func233, Tryz.ntmps233
  go_wp2_with fail
  go_ret
  exact ⟨congrArg (fun v => Ending.returned (.int .u32 v)) hv2.out, rfl⟩
theorem rot19 (x : UInt32) (w : World) :
    Calls Tryz.prog 233 #[.int .u32 (x.toNat : Int), .int .i64 (-19)] w fun e w' => e = .returned (.int .u32 ((rotr x 19).toNat : Int)) ∧ w' = w := by
  have hx := x.toNat_lt
  have hx1 : (x.toNat : Int) ≤ 4294967295 := by omega
  have hb : bits .and .u64 (IntKind.u64.wrap (-19)) 31 = 13 := by decide
  have hv := rot_val x 19 (x.toNat * 8192 % 4294967296) (x.toNat / 524288) rfl rfl
  have hv2 : Hid (bits .or .u32 ((x.toNat : Int) * 8192 % 4294967296) ((x.toNat : Int) / 524288) = ((rotr x 19).toNat : Int)) := by
    unfold Hid; rw [← hv]; congr 1
  clear hv
  go_enter Tryz.func233, Tryz.ntmps233
  go_wp2_with fail
  go_ret
  exact ⟨congrArg (fun v => Ending.returned (.int .u32 v)) hv2.out, rfl⟩
theorem rot22 (x : UInt32) (w : World) :
    Calls Tryz.prog 233 #[.int .u32 (x.toNat : Int), .int .i64 (-22)] w fun e w' => e = .returned (.int .u32 ((rotr x 22).toNat : Int)) ∧ w' = w := by
  have hx := x.toNat_lt
  have hx1 : (x.toNat : Int) ≤ 4294967295 := by omega
  have hb : bits .and .u64 (IntKind.u64.wrap (-22)) 31 = 10 := by decide
  have hv := rot_val x 22 (x.toNat * 1024 % 4294967296) (x.toNat / 4194304) rfl rfl
  have hv2 : Hid (bits .or .u32 ((x.toNat : Int) * 1024 % 4294967296) ((x.toNat : Int) / 4194304) = ((rotr x 22).toNat : Int)) := by
    unfold Hid; rw [← hv]; congr 1
  clear hv
  go_enter Tryz.func233, Tryz.ntmps233
  go_wp2_with fail
  go_ret
  exact ⟨congrArg (fun v => Ending.returned (.int .u32 v)) hv2.out, rfl⟩
theorem rot25 (x : UInt32) (w : World) :
    Calls Tryz.prog 233 #[.int .u32 (x.toNat : Int), .int .i64 (-25)] w fun e w' => e = .returned (.int .u32 ((rotr x 25).toNat : Int)) ∧ w' = w := by
  have hx := x.toNat_lt
  have hx1 : (x.toNat : Int) ≤ 4294967295 := by omega
  have hb : bits .and .u64 (IntKind.u64.wrap (-25)) 31 = 7 := by decide
  have hv := rot_val x 25 (x.toNat * 128 % 4294967296) (x.toNat / 33554432) rfl rfl
  have hv2 : Hid (bits .or .u32 ((x.toNat : Int) * 128 % 4294967296) ((x.toNat : Int) / 33554432) = ((rotr x 25).toNat : Int)) := by
    unfold Hid; rw [← hv]; congr 1
  clear hv
  go_enter Tryz.func233, Tryz.ntmps233
  go_wp2_with fail
  go_ret
  exact ⟨congrArg (fun v => Ending.returned (.int .u32 v)) hv2.out, rfl⟩
theorem rotC (w : World) (x : UInt32) (m : Int) (hm : m = -2 ∨ m = -6 ∨ m = -7 ∨ m = -11 ∨ m = -13 ∨ m = -17 ∨ m = -18 ∨ m = -19 ∨ m = -22 ∨ m = -25) :
    Calls Tryz.prog 233 #[.int .u32 (x.toNat : Int), .int .i64 m] w fun e w' => e = .returned (.int .u32 ((rotr x (-m).toNat).toNat : Int)) ∧ w' = w := by
  rcases hm with rfl | rfl | rfl | rfl | rfl | rfl | rfl | rfl | rfl | rfl
  · exact rot2 x _
  · exact rot6 x _
  · exact rot7 x _
  · exact rot11 x _
  · exact rot13 x _
  · exact rot17 x _
  · exact rot18 x _
  · exact rot19 x _
  · exact rot22 x _
  · exact rot25 x _
theorem rotQ (w : World) (n : Nat) (x : UInt32) (m : Int) (hm : m = -2 ∨ m = -6 ∨ m = -7 ∨ m = -11 ∨ m = -13 ∨ m = -17 ∨ m = -18 ∨ m = -19 ∨ m = -22 ∨ m = -25) :
    Calls Tryz.prog 233 #[.int .u32 (x.toNat : Int), .int .i64 m] (w.drewN n) fun e w'' => e = .returned (.int .u32 ((rotr x (-m).toNat).toNat : Int)) ∧ ∃ k, w'' = w.drewN k := Calls.quiet_of_same (rotC _ x m hm)
theorem xorW (a b : UInt32) : bits .xor .u32 (a.toNat : Int) (b.toNat : Int) = ((a ^^^ b).toNat : Int) := by
  rw [u32_xor_nat _ _ a.toNat_lt b.toNat_lt, UInt32.toNat_xor]
theorem andW (a b : UInt32) : bits .and .u32 (a.toNat : Int) (b.toNat : Int) = ((a &&& b).toNat : Int) := by
  rw [u32_and_nat _ _ a.toNat_lt b.toNat_lt, UInt32.toNat_and]
theorem sg0W (x : UInt32) : bits .xor .u32 (bits .xor .u32 ((rotr x 7).toNat : Int) ((rotr x 18).toNat : Int)) ((x.toNat : Int) / 8) = ((sg0 x).toNat : Int) := by
  rw [shrw3, xorW, xorW]; rfl
theorem sg1W (x : UInt32) : bits .xor .u32 (bits .xor .u32 ((rotr x 17).toNat : Int) ((rotr x 19).toNat : Int)) ((x.toNat : Int) / 1024) = ((sg1 x).toNat : Int) := by
  rw [shrw10, xorW, xorW]; rfl
theorem bg1W (x : UInt32) : bits .xor .u32 (bits .xor .u32 ((rotr x 6).toNat : Int) ((rotr x 11).toNat : Int)) ((rotr x 25).toNat : Int) = ((bg1 x).toNat : Int) := by
  rw [xorW, xorW]; rfl
theorem bg0W (x : UInt32) : bits .xor .u32 (bits .xor .u32 ((rotr x 2).toNat : Int) ((rotr x 13).toNat : Int)) ((rotr x 22).toNat : Int) = ((bg0 x).toNat : Int) := by
  rw [xorW, xorW]; rfl
theorem majW (a b c : UInt32) : bits .xor .u32 (bits .xor .u32 (bits .and .u32 (a.toNat : Int) (b.toNat : Int)) (bits .and .u32 (a.toNat : Int) (c.toNat : Int))) (bits .and .u32 (b.toNat : Int) (c.toNat : Int)) = ((maj a b c).toNat : Int) := by
  rw [andW, andW, andW, xorW, xorW]; rfl
theorem wdW (a b c d : UInt8) : bits .or .u32 (bits .or .u32 (bits .or .u32 ((a.toNat : Int) * 16777216) ((b.toNat : Int) * 65536)) ((c.toNat : Int) * 256)) (d.toNat : Int) = ((wd a b c d).toNat : Int) := by
  have ha := a.toNat_lt; have hb := b.toNat_lt; have hc := c.toNat_lt; have hd := d.toNat_lt
  have e1 : ∀ x y n : Nat, y < 2 ^ n → (x * 2 ^ n) ||| y = x * 2 ^ n + y := by
    intro x y n h; rw [Nat.mul_comm]; exact (Nat.two_pow_add_eq_or_of_lt h x).symm
  rw [show (a.toNat : Int) * 16777216 = ((a.toNat * 16777216 : Nat) : Int) by omega, show (b.toNat : Int) * 65536 = ((b.toNat * 65536 : Nat) : Int) by omega, show (c.toNat : Int) * 256 = ((c.toNat * 256 : Nat) : Int) by omega,
    u32_or_nat _ _ (by omega) (by omega)]
  have h1 : a.toNat * 16777216 ||| b.toNat * 65536 = a.toNat * 16777216 + b.toNat * 65536 := by
    rw [show (16777216 : Nat) = 2 ^ 24 from rfl]; exact e1 _ _ 24 (by omega)
  rw [h1, u32_or_nat _ _ (by omega) (by omega)]
  have h2 : (a.toNat * 16777216 + b.toNat * 65536) ||| c.toNat * 256 = a.toNat * 16777216 + b.toNat * 65536 + c.toNat * 256 := by
    rw [show a.toNat * 16777216 + b.toNat * 65536 = (a.toNat * 256 + b.toNat) * 2 ^ 16 by omega]; exact e1 _ _ 16 (by omega)
  rw [h2, u32_or_nat _ _ (by omega) (by omega)]
  have h3 : (a.toNat * 16777216 + b.toNat * 65536 + c.toNat * 256) ||| d.toNat = a.toNat * 16777216 + b.toNat * 65536 + c.toNat * 256 + d.toNat := by
    rw [show a.toNat * 16777216 + b.toNat * 65536 + c.toNat * 256 = (a.toNat * 65536 + b.toNat * 256 + c.toNat) * 2 ^ 8 by omega]; exact e1 _ _ 8 (by omega)
  rw [h3, wd_toNat]
end Go.Proofs.YtcbkaiakdhiloacGreatDoor
namespace Go.Proofs.YtcbkaiakdhiloacGreatDoor
open Go.RowKit Go.Proofs
def blkFr (u : Nat → Value) : Act := ⟨#[u 0, u 1, u 2, u 3, u 4, u 5, u 6, u 7, u 8, u 9, u 10, u 11, u 12, u 13, u 14, u 15, u 16, u 17, u 18, u 19, u 20, u 21, u 22, u 23, u 24, u 25, u 26, u 27, u 28, u 29, u 30, u 31, u 32, u 33, u 34, u 35, u 36, u 37, u 38, u 39, u 40, u 41, u 42, u 43, u 44, u 45, u 46, u 47, u 48, u 49, u 50, u 51, u 52, u 53, u 54, u 55, u 56, u 57, u 58, u 59, u 60, u 61, u 62, u 63, u 64, u 65, u 66, u 67, u 68, u 69, u 70, u 71, u 72, u 73, u 74, u 75, u 76, u 77, u 78, u 79, u 80, u 81, u 82, u 83, u 84, u 85, u 86, u 87, u 88, u 89, u 90, u 91, u 92, u 93, u 94, u 95, u 96, u 97, u 98, u 99, u 100, u 101, u 102, u 103, u 104, u 105, u 106, u 107, u 108, u 109, u 110, u 111, u 112, u 113, u 114, u 115, u 116, u 117, u 118, u 119, u 120, u 121, u 122, u 123, u 124, u 125, u 126, u 127, u 128, u 129, u 130, u 131, u 132, u 133, u 134, u 135, u 136, u 137, u 138, u 139, u 140, u 141, u 142, u 143, u 144, u 145, u 146, u 147, u 148, u 149, u 150, u 151, u 152, u 153, u 154, u 155, u 156, u 157, u 158, u 159, u 160, u 161, u 162, u 163, u 164, u 165, u 166, u 167, u 168, u 169, u 170, u 171, u 172, u 173, u 174, u 175, u 176, u 177, u 178, u 179, u 180, u 181, u 182, u 183, u 184, u 185, u 186, u 187, u 188, u 189, u 190, u 191, u 192, u 193, u 194], []⟩
set_option maxRecDepth 100000 in
theorem blkFr_eq (u : Nat → Value) : blkFr u = frN 195 u := rfl
theorem blkFr_of {a : Act} (h : Sz 195 a) : a = blkFr (sl a) := h.eq.trans (blkFr_eq _).symm
theorem wp_copy_run {P : Program} {w : World} {o : Oper} {a : Act} {K : Act → World → Prop} {Q : Exit → Act → World → Prop} (s x : Operand) (t u : TypeId)
    (ho : o.op = .call { callee := .builtin .copy, args := #[s, x], argTypes := #[t, u] }) {v y v' : Value} {w' : World}
    (hrun : (Builtin.copy_ #[t, u] o.type #[v, y]).run P w = .ok v' w') (hs : a.eval s = v) (hx : a.eval x = y) (h : K (a.put o.dst v') w') : o.wp P a w K Q := by
  unfold Oper.wp execOp
  simp only [ho, resolve, invoke, builtin, Sem.run_bind, Sem.run_pure, Result.andThen_ok, List.map_toArray, List.map_cons, List.map_nil, hs, hx, hrun]
  exact h
theorem wpList_copy_run {P : Program} {w : World} {ops : Array Oper} {rest : List Oper} {o : Oper} {a : Act} {Q : Exit → Act → World → Prop} (hgd : o.guard = none) (s x : Operand) (t u : TypeId)
    (ho : o.op = .call { callee := .builtin .copy, args := #[s, x], argTypes := #[t, u] }) {v y v' : Value} {w' : World}
    (hrun : (Builtin.copy_ #[t, u] o.type #[v, y]).run P w = .ok v' w') (hs : a.eval s = v) (hx : a.eval x = y) (h : wpList P ops Q rest (a.put o.dst v') w') : wpList P ops Q (o :: rest) a w :=
  wpList_plain hgd fun K hK => wp_copy_run s x t u ho hrun hs hx (hK _ _ h)
def u32s (l : List UInt32) : List Value := l.map fun x => Value.int .u32 (x.toNat : Int)
theorem u32s_length (l : List UInt32) : (u32s l).length = l.length := by simp [u32s]
theorem u32s_get (l : List UInt32) (k : Nat) (x : UInt32) (h : l[k]? = some x) : (u32s l)[k]? = some (.int .u32 (x.toNat : Int)) := by simp [u32s, h]
theorem u32s_set (l : List UInt32) (k : Nat) (x : UInt32) : ((u32s l).toArray).setIfInBounds k (.int .u32 (x.toNat : Int)) = (u32s (l.set k x)).toArray := by simp [u32s, List.map_set]
def UB (w : World) (g : Nat) (t : TypeId) (l : List UInt32) : Prop := Bk w g t (u32s l).toArray
theorem UB.get {w : World} {g : Nat} {t : TypeId} {l : List UInt32} (h : UB w g t l) (k : Nat) (x : UInt32) (hx : l[k]? = some x) : w.cell? ⟨g, k, none⟩ = some (.int .u32 (x.toNat : Int)) := by
  have h1 := Bk.cell h k
  rw [h1]; simpa using u32s_get l k x hx
theorem UB.set {w : World} {g : Nat} {t : TypeId} {l : List UInt32} (h : UB w g t l) (k : Nat) (x : UInt32) : UB (w.setCell ⟨g, k, none⟩ (.int .u32 (x.toNat : Int))) g t (l.set k x) := by
  have h1 := Bk.set h k (.int .u32 (x.toNat : Int))
  rw [u32s_set] at h1; exact h1
def RU (w : World) (g : Nat) (l : List UInt32) : Prop := g < w.heap.size ∧ ∀ (k : Nat) (x : UInt32), l[k]? = some x → w.cell? ⟨g, k, none⟩ = some (.int .u32 (x.toNat : Int))
theorem UB.ru {w : World} {g : Nat} {t : TypeId} {l : List UInt32} (h : UB w g t l) : RU w g l := ⟨Bk.lt h, fun k x hx => h.get k x hx⟩
theorem RU.keep {S : Nat → Prop} {w w' : World} {g : Nat} {l : List UInt32} (h : RU w g l) (hf : Fr S w w') (hg : ¬ S g) : RU w' g l :=
  ⟨Nat.lt_of_lt_of_le h.1 hf.size, fun k x hx => (hf.cell (a := ⟨g, k, none⟩) h.1 hg).trans (h.2 k x hx)⟩
theorem blkR1  (a : Act) (w : World) (K : Exit → Act → World → Prop) (hs : Sz 195 a)
     
    (hK : ∀ a' w', Sz 195 a' → Kp [0, 1, 4, 5, 6, 7, 8, 9, 10, 11, 12, 13, 14, 15, 16, 17, 104, 178] a a' → sl a' 18 = .int .i64 ((0 : Nat) : Int) → Fr noB w w' → K .normal a' w') :
    (regionOf Tryz.f187 1).wp Tryz.prog K a w := by
  unfold Kp at hK; rw [blkFr_of hs]; clear hs; generalize sl a = u at *; clear a; have HK := Lib.hid hK; clear hK; conv => arg 2; whnf
  simp only [blkFr]
  go_wp2_with fail
  exact HK.out _ _  ⟨rfl, rfl⟩ (Kc rfl (Kc rfl (Kc rfl (Kc rfl (Kc rfl (Kc rfl (Kc rfl (Kc rfl (Kc rfl (Kc rfl (Kc rfl (Kc rfl (Kc rfl (Kc rfl (Kc rfl (Kc rfl (Kc rfl (Kc rfl (Kn _ _))))))))))))))))))) (rfl) (Fr.refl _ _)
theorem blkR2 (i : Nat) (a : Act) (w : World) (K : Exit → Act → World → Prop) (hs : Sz 195 a)
    (h18 : sl a 18 = .int .i64 (i : Int)) (hi : i ≤ 16)
    (hK : ∀ a' w', Sz 195 a' → Kp [0, 1, 4, 5, 6, 7, 8, 9, 10, 11, 12, 13, 14, 15, 16, 17, 18, 104, 178] a a' → sl a' 19 = .bool (decide (i < 16)) → Fr noB w w' → K .normal a' w') :
    (regionOf Tryz.f187 2).wp Tryz.prog K a w := by
  unfold Kp at hK; rw [blkFr_of hs]; clear hs; generalize sl a = u at *; clear a; have HK := Lib.hid hK; clear hK; conv => arg 2; whnf
  simp only [blkFr, h18]
  go_wp2_with fail
  exact HK.out _ _  ⟨rfl, rfl⟩ (Kc rfl (Kc rfl (Kc rfl (Kc rfl (Kc rfl (Kc rfl (Kc rfl (Kc rfl (Kc rfl (Kc rfl (Kc rfl (Kc rfl (Kc rfl (Kc rfl (Kc rfl (Kc rfl (Kc h18.symm (Kc rfl (Kc rfl (Kn _ _)))))))))))))))))))) (congrArg Value.bool (decide_eq_decide.2 (by omega))) (Fr.refl _ _)
theorem blkR3 (i : Nat) (a : Act) (w : World) (K : Exit → Act → World → Prop) (hs : Sz 195 a)
    (h18 : sl a 18 = .int .i64 (i : Int)) 
    (hK : ∀ a' w', Sz 195 a' → Kp [0, 1, 4, 6, 7, 8, 9, 10, 11, 12, 13, 14, 15, 16, 17, 18, 104, 178] a a' → sl a' 5 = .int .i64 (i : Int) → Fr noB w w' → K .normal a' w') :
    (regionOf Tryz.f187 3).wp Tryz.prog K a w := by
  unfold Kp at hK; rw [blkFr_of hs]; clear hs; generalize sl a = u at *; clear a; have HK := Lib.hid hK; clear hK; conv => arg 2; whnf
  simp only [blkFr, h18]
  go_wp2_with fail
  exact HK.out _ _  ⟨rfl, rfl⟩ (Kc rfl (Kc rfl (Kc rfl (Kc rfl (Kc rfl (Kc rfl (Kc rfl (Kc rfl (Kc rfl (Kc rfl (Kc rfl (Kc rfl (Kc rfl (Kc rfl (Kc rfl (Kc h18.symm (Kc rfl (Kc rfl (Kn _ _))))))))))))))))))) (rfl) (Fr.refl _ _)
theorem blkR5 (i : Nat) (a : Act) (w : World) (K : Exit → Act → World → Prop) (hs : Sz 195 a)
    (h18 : sl a 18 = .int .i64 (i : Int)) (hi : i ≤ 16)
    (hK : ∀ a' w', Sz 195 a' → Kp [0, 1, 4, 5, 6, 7, 8, 9, 10, 11, 12, 13, 14, 15, 16, 17, 104, 178] a a' → sl a' 18 = .int .i64 ((i + 1 : Nat) : Int) → Fr noB w w' → K .normal a' w') :
    (regionOf Tryz.f187 5).wp Tryz.prog K a w := by
  unfold Kp at hK; rw [blkFr_of hs]; clear hs; generalize sl a = u at *; clear a; have HK := Lib.hid hK; clear hK; conv => arg 2; whnf
  simp only [blkFr, h18]
  clear h18
  go_wp2_with fail
  exact HK.out _ _  ⟨rfl, rfl⟩ (Kc rfl (Kc rfl (Kc rfl (Kc rfl (Kc rfl (Kc rfl (Kc rfl (Kc rfl (Kc rfl (Kc rfl (Kc rfl (Kc rfl (Kc rfl (Kc rfl (Kc rfl (Kc rfl (Kc rfl (Kc rfl (Kn _ _))))))))))))))))))) (by simp only [sl]; rfl) (Fr.refl _ _)
theorem blkR6  (a : Act) (w : World) (K : Exit → Act → World → Prop) (hs : Sz 195 a)
     
    (hK : ∀ a' w', Sz 195 a' → Kp [0, 1, 4, 5, 7, 8, 9, 10, 11, 12, 13, 14, 15, 16, 17, 18, 104, 178] a a' → sl a' 6 = .int .i64 ((16 : Nat) : Int) → Fr noB w w' → K .normal a' w') :
    (regionOf Tryz.f187 6).wp Tryz.prog K a w := by
  unfold Kp at hK; rw [blkFr_of hs]; clear hs; generalize sl a = u at *; clear a; have HK := Lib.hid hK; clear hK; conv => arg 2; whnf
  simp only [blkFr]
  go_wp2_with fail
  exact HK.out _ _  ⟨rfl, rfl⟩ (Kc rfl (Kc rfl (Kc rfl (Kc rfl (Kc rfl (Kc rfl (Kc rfl (Kc rfl (Kc rfl (Kc rfl (Kc rfl (Kc rfl (Kc rfl (Kc rfl (Kc rfl (Kc rfl (Kc rfl (Kc rfl (Kn _ _))))))))))))))))))) (rfl) (Fr.refl _ _)
theorem blkR7 (i : Nat) (a : Act) (w : World) (K : Exit → Act → World → Prop) (hs : Sz 195 a)
    (h6 : sl a 6 = .int .i64 (i : Int)) (hi : i ≤ 64)
    (hK : ∀ a' w', Sz 195 a' → Kp [0, 1, 4, 5, 6, 7, 8, 9, 10, 11, 12, 13, 14, 15, 16, 17, 18, 104, 178] a a' → sl a' 58 = .bool (decide (i < 64)) → Fr noB w w' → K .normal a' w') :
    (regionOf Tryz.f187 7).wp Tryz.prog K a w := by
  unfold Kp at hK; rw [blkFr_of hs]; clear hs; generalize sl a = u at *; clear a; have HK := Lib.hid hK; clear hK; conv => arg 2; whnf
  simp only [blkFr, h6]
  go_wp2_with fail
  exact HK.out _ _  ⟨rfl, rfl⟩ (Kc rfl (Kc rfl (Kc rfl (Kc rfl (Kc h6.symm (Kc rfl (Kc rfl (Kc rfl (Kc rfl (Kc rfl (Kc rfl (Kc rfl (Kc rfl (Kc rfl (Kc rfl (Kc rfl (Kc rfl (Kc rfl (Kc rfl (Kn _ _)))))))))))))))))))) (congrArg Value.bool (decide_eq_decide.2 (by omega))) (Fr.refl _ _)
theorem blkR8 (i : Nat) (a : Act) (w : World) (K : Exit → Act → World → Prop) (hs : Sz 195 a)
    (h6 : sl a 6 = .int .i64 (i : Int)) (hi : i ≤ 64)
    (hK : ∀ a' w', Sz 195 a' → Kp [0, 1, 4, 5, 7, 8, 9, 10, 11, 12, 13, 14, 15, 16, 17, 18, 104, 178] a a' → sl a' 6 = .int .i64 ((i + 1 : Nat) : Int) → Fr noB w w' → K .normal a' w') :
    (regionOf Tryz.f187 8).wp Tryz.prog K a w := by
  unfold Kp at hK; rw [blkFr_of hs]; clear hs; generalize sl a = u at *; clear a; have HK := Lib.hid hK; clear hK; conv => arg 2; whnf
  simp only [blkFr, h6]
  clear h6
  go_wp2_with fail
  exact HK.out _ _  ⟨rfl, rfl⟩ (Kc rfl (Kc rfl (Kc rfl (Kc rfl (Kc rfl (Kc rfl (Kc rfl (Kc rfl (Kc rfl (Kc rfl (Kc rfl (Kc rfl (Kc rfl (Kc rfl (Kc rfl (Kc rfl (Kc rfl (Kc rfl (Kn _ _))))))))))))))))))) (by simp only [sl]; rfl) (Fr.refl _ _)
theorem blkR14  (a : Act) (w : World) (K : Exit → Act → World → Prop) (hs : Sz 195 a)
     
    (hK : ∀ a' w', Sz 195 a' → Kp [0, 1, 4, 5, 6, 7, 8, 9, 10, 11, 12, 13, 14, 15, 16, 17, 18, 178] a a' → sl a' 104 = .int .i64 ((0 : Nat) : Int) → Fr noB w w' → K .normal a' w') :
    (regionOf Tryz.f187 14).wp Tryz.prog K a w := by
  unfold Kp at hK; rw [blkFr_of hs]; clear hs; generalize sl a = u at *; clear a; have HK := Lib.hid hK; clear hK; conv => arg 2; whnf
  simp only [blkFr]
  go_wp2_with fail
  exact HK.out _ _  ⟨rfl, rfl⟩ (Kc rfl (Kc rfl (Kc rfl (Kc rfl (Kc rfl (Kc rfl (Kc rfl (Kc rfl (Kc rfl (Kc rfl (Kc rfl (Kc rfl (Kc rfl (Kc rfl (Kc rfl (Kc rfl (Kc rfl (Kc rfl (Kn _ _))))))))))))))))))) (rfl) (Fr.refl _ _)
theorem blkR15 (i : Nat) (a : Act) (w : World) (K : Exit → Act → World → Prop) (hs : Sz 195 a)
    (h104 : sl a 104 = .int .i64 (i : Int)) (hi : i ≤ 64)
    (hK : ∀ a' w', Sz 195 a' → Kp [0, 1, 4, 5, 6, 7, 8, 9, 10, 11, 12, 13, 14, 15, 16, 17, 18, 104, 178] a a' → sl a' 105 = .bool (decide (i < 64)) → Fr noB w w' → K .normal a' w') :
    (regionOf Tryz.f187 15).wp Tryz.prog K a w := by
  unfold Kp at hK; rw [blkFr_of hs]; clear hs; generalize sl a = u at *; clear a; have HK := Lib.hid hK; clear hK; conv => arg 2; whnf
  simp only [blkFr, h104]
  go_wp2_with fail
  exact HK.out _ _  ⟨rfl, rfl⟩ (Kc rfl (Kc rfl (Kc rfl (Kc rfl (Kc rfl (Kc rfl (Kc rfl (Kc rfl (Kc rfl (Kc rfl (Kc rfl (Kc rfl (Kc rfl (Kc rfl (Kc rfl (Kc rfl (Kc rfl (Kc h104.symm (Kc rfl (Kn _ _)))))))))))))))))))) (congrArg Value.bool (decide_eq_decide.2 (by omega))) (Fr.refl _ _)
theorem blkR16 (i : Nat) (a : Act) (w : World) (K : Exit → Act → World → Prop) (hs : Sz 195 a)
    (h104 : sl a 104 = .int .i64 (i : Int)) 
    (hK : ∀ a' w', Sz 195 a' → Kp [0, 1, 4, 5, 6, 7, 8, 9, 10, 11, 13, 14, 15, 16, 17, 18, 104, 178] a a' → sl a' 12 = .int .i64 (i : Int) → Fr noB w w' → K .normal a' w') :
    (regionOf Tryz.f187 16).wp Tryz.prog K a w := by
  unfold Kp at hK; rw [blkFr_of hs]; clear hs; generalize sl a = u at *; clear a; have HK := Lib.hid hK; clear hK; conv => arg 2; whnf
  simp only [blkFr, h104]
  go_wp2_with fail
  exact HK.out _ _  ⟨rfl, rfl⟩ (Kc rfl (Kc rfl (Kc rfl (Kc rfl (Kc rfl (Kc rfl (Kc rfl (Kc rfl (Kc rfl (Kc rfl (Kc rfl (Kc rfl (Kc rfl (Kc rfl (Kc rfl (Kc rfl (Kc h104.symm (Kc rfl (Kn _ _))))))))))))))))))) (rfl) (Fr.refl _ _)
theorem blkR23 (i : Nat) (a : Act) (w : World) (K : Exit → Act → World → Prop) (hs : Sz 195 a)
    (h104 : sl a 104 = .int .i64 (i : Int)) (hi : i ≤ 64)
    (hK : ∀ a' w', Sz 195 a' → Kp [0, 1, 4, 5, 6, 7, 8, 9, 10, 11, 12, 13, 14, 15, 16, 17, 18, 178] a a' → sl a' 104 = .int .i64 ((i + 1 : Nat) : Int) → Fr noB w w' → K .normal a' w') :
    (regionOf Tryz.f187 23).wp Tryz.prog K a w := by
  unfold Kp at hK; rw [blkFr_of hs]; clear hs; generalize sl a = u at *; clear a; have HK := Lib.hid hK; clear hK; conv => arg 2; whnf
  simp only [blkFr, h104]
  clear h104
  go_wp2_with fail
  exact HK.out _ _  ⟨rfl, rfl⟩ (Kc rfl (Kc rfl (Kc rfl (Kc rfl (Kc rfl (Kc rfl (Kc rfl (Kc rfl (Kc rfl (Kc rfl (Kc rfl (Kc rfl (Kc rfl (Kc rfl (Kc rfl (Kc rfl (Kc rfl (Kc rfl (Kn _ _))))))))))))))))))) (by simp only [sl]; rfl) (Fr.refl _ _)
theorem blkR24  (a : Act) (w : World) (K : Exit → Act → World → Prop) (hs : Sz 195 a)
     
    (hK : ∀ a' w', Sz 195 a' → Kp [0, 1, 4, 5, 6, 7, 8, 9, 10, 11, 12, 13, 14, 15, 16, 17, 18, 104] a a' → sl a' 178 = .int .i64 ((0 : Nat) : Int) → Fr noB w w' → K .normal a' w') :
    (regionOf Tryz.f187 24).wp Tryz.prog K a w := by
  unfold Kp at hK; rw [blkFr_of hs]; clear hs; generalize sl a = u at *; clear a; have HK := Lib.hid hK; clear hK; conv => arg 2; whnf
  simp only [blkFr]
  go_wp2_with fail
  exact HK.out _ _  ⟨rfl, rfl⟩ (Kc rfl (Kc rfl (Kc rfl (Kc rfl (Kc rfl (Kc rfl (Kc rfl (Kc rfl (Kc rfl (Kc rfl (Kc rfl (Kc rfl (Kc rfl (Kc rfl (Kc rfl (Kc rfl (Kc rfl (Kc rfl (Kn _ _))))))))))))))))))) (rfl) (Fr.refl _ _)
theorem blkR25 (i : Nat) (a : Act) (w : World) (K : Exit → Act → World → Prop) (hs : Sz 195 a)
    (h178 : sl a 178 = .int .i64 (i : Int)) (hi : i ≤ 8)
    (hK : ∀ a' w', Sz 195 a' → Kp [0, 1, 4, 5, 6, 7, 8, 9, 10, 11, 12, 13, 14, 15, 16, 17, 18, 104, 178] a a' → sl a' 179 = .bool (decide (i < 8)) → Fr noB w w' → K .normal a' w') :
    (regionOf Tryz.f187 25).wp Tryz.prog K a w := by
  unfold Kp at hK; rw [blkFr_of hs]; clear hs; generalize sl a = u at *; clear a; have HK := Lib.hid hK; clear hK; conv => arg 2; whnf
  simp only [blkFr, h178]
  go_wp2_with fail
  exact HK.out _ _  ⟨rfl, rfl⟩ (Kc rfl (Kc rfl (Kc rfl (Kc rfl (Kc rfl (Kc rfl (Kc rfl (Kc rfl (Kc rfl (Kc rfl (Kc rfl (Kc rfl (Kc rfl (Kc rfl (Kc rfl (Kc rfl (Kc rfl (Kc rfl (Kc h178.symm (Kn _ _)))))))))))))))))))) (congrArg Value.bool (decide_eq_decide.2 (by omega))) (Fr.refl _ _)
theorem blkR26 (i : Nat) (a : Act) (w : World) (K : Exit → Act → World → Prop) (hs : Sz 195 a)
    (h178 : sl a 178 = .int .i64 (i : Int)) 
    (hK : ∀ a' w', Sz 195 a' → Kp [0, 1, 4, 5, 6, 7, 8, 9, 10, 11, 12, 13, 14, 15, 16, 18, 104, 178] a a' → sl a' 17 = .int .i64 (i : Int) → Fr noB w w' → K .normal a' w') :
    (regionOf Tryz.f187 26).wp Tryz.prog K a w := by
  unfold Kp at hK; rw [blkFr_of hs]; clear hs; generalize sl a = u at *; clear a; have HK := Lib.hid hK; clear hK; conv => arg 2; whnf
  simp only [blkFr, h178]
  go_wp2_with fail
  exact HK.out _ _  ⟨rfl, rfl⟩ (Kc rfl (Kc rfl (Kc rfl (Kc rfl (Kc rfl (Kc rfl (Kc rfl (Kc rfl (Kc rfl (Kc rfl (Kc rfl (Kc rfl (Kc rfl (Kc rfl (Kc rfl (Kc rfl (Kc rfl (Kc h178.symm (Kn _ _))))))))))))))))))) (rfl) (Fr.refl _ _)
theorem blkR28 (i : Nat) (a : Act) (w : World) (K : Exit → Act → World → Prop) (hs : Sz 195 a)
    (h178 : sl a 178 = .int .i64 (i : Int)) (hi : i ≤ 8)
    (hK : ∀ a' w', Sz 195 a' → Kp [0, 1, 4, 5, 6, 7, 8, 9, 10, 11, 12, 13, 14, 15, 16, 17, 18, 104] a a' → sl a' 178 = .int .i64 ((i + 1 : Nat) : Int) → Fr noB w w' → K .normal a' w') :
    (regionOf Tryz.f187 28).wp Tryz.prog K a w := by
  unfold Kp at hK; rw [blkFr_of hs]; clear hs; generalize sl a = u at *; clear a; have HK := Lib.hid hK; clear hK; conv => arg 2; whnf
  simp only [blkFr, h178]
  clear h178
  go_wp2_with fail
  exact HK.out _ _  ⟨rfl, rfl⟩ (Kc rfl (Kc rfl (Kc rfl (Kc rfl (Kc rfl (Kc rfl (Kc rfl (Kc rfl (Kc rfl (Kc rfl (Kc rfl (Kc rfl (Kc rfl (Kc rfl (Kc rfl (Kc rfl (Kc rfl (Kc rfl (Kn _ _))))))))))))))))))) (by simp only [sl]; rfl) (Fr.refl _ _)
theorem blkR9 (i gw : Nat) (x y : UInt32) (a : Act) (w : World) (K : Exit → Act → World → Prop) (hs : Sz 195 a)
    (h4 : sl a 4 = .pointer (some ⟨gw, 0, none⟩)) (h6 : sl a 6 = .int .i64 (i : Int)) (hi : 16 ≤ i) (hi2 : i < 64) (hx : w.cell? ⟨gw, i - 15, none⟩ = some (.int .u32 (x.toNat : Int))) (hy : w.cell? ⟨gw, i - 2, none⟩ = some (.int .u32 (y.toNat : Int)))
    (hK : ∀ a' w', Sz 195 a' → Kp [0, 1, 4, 5, 6, 9, 10, 11, 12, 13, 14, 15, 16, 17, 18, 104, 178] a a' → sl a' 7 = .int .u32 (x.toNat : Int) → sl a' 8 = .int .u32 (y.toNat : Int) → Fr noB w w' → K .normal a' w') :
    (regionOf Tryz.f187 9).wp Tryz.prog K a w := by
  unfold Kp at hK; rw [blkFr_of hs]; clear hs; generalize sl a = u at *; clear a; have HK := Lib.hid hK; clear hK; conv => arg 2; whnf
  obtain ⟨j, hj⟩ : ∃ j, j = i - 15 := ⟨_, rfl⟩
  obtain ⟨k, hk⟩ : ∃ k, k = i - 2 := ⟨_, rfl⟩
  rw [← hj] at hx
  rw [← hk] at hy
  have q0 : (i : Int) - 15 = (j : Int) := by omega
  have q1 : j < 64 := by omega
  have q2 : (i : Int) - 2 = (k : Int) := by omega
  have q3 : k < 64 := by omega
  clear hj hk hi
  simp only [blkFr, h4, h6]
  go_quiet (fail)
  exact HK.out _ _  ⟨rfl, rfl⟩ (Kc rfl (Kc rfl (Kc h4.symm (Kc rfl (Kc h6.symm (Kc rfl (Kc rfl (Kc rfl (Kc rfl (Kc rfl (Kc rfl (Kc rfl (Kc rfl (Kc rfl (Kc rfl (Kc rfl (Kc rfl (Kn _ _)))))))))))))))))) (rfl) (rfl) ((Fr.refl _ _).drewN _)
theorem blkR10 (x : UInt32) (a : Act) (w : World) (K : Exit → Act → World → Prop) (hs : Sz 195 a)
    (h7 : sl a 7 = .int .u32 (x.toNat : Int)) 
    (hK : ∀ a' w', Sz 195 a' → Kp [0, 1, 4, 5, 6, 7, 8, 10, 11, 12, 13, 14, 15, 16, 17, 18, 104, 178] a a' → sl a' 9 = .int .u32 ((sg0 x).toNat : Int) → Fr noB w w' → K .normal a' w') :
    (regionOf Tryz.f187 10).wp Tryz.prog K a w := by
  unfold Kp at hK; rw [blkFr_of hs]; clear hs; generalize sl a = u at *; clear a; have HK := Lib.hid hK; clear hK; conv => arg 2; whnf
  have xlx : (x.toNat : Int) ≤ 4294967295 := by have := x.toNat_lt; omega
  simp only [blkFr, h7]
  go_wp2_with (go_at_call 233; refine (rotC _ _ _ (by decide)).mono ?_; rintro e w1 ⟨rfl, rfl⟩)
  exact HK.out _ _  ⟨rfl, rfl⟩ (Kc rfl (Kc rfl (Kc rfl (Kc rfl (Kc rfl (Kc h7.symm (Kc rfl (Kc rfl (Kc rfl (Kc rfl (Kc rfl (Kc rfl (Kc rfl (Kc rfl (Kc rfl (Kc rfl (Kc rfl (Kc rfl (Kn _ _))))))))))))))))))) (congrArg (fun v => Value.int .u32 v) (sg0W x)) (Fr.refl _ _)
theorem blkR11 (x : UInt32) (a : Act) (w : World) (K : Exit → Act → World → Prop) (hs : Sz 195 a)
    (h8 : sl a 8 = .int .u32 (x.toNat : Int)) 
    (hK : ∀ a' w', Sz 195 a' → Kp [0, 1, 4, 5, 6, 7, 8, 9, 11, 12, 13, 14, 15, 16, 17, 18, 104, 178] a a' → sl a' 10 = .int .u32 ((sg1 x).toNat : Int) → Fr noB w w' → K .normal a' w') :
    (regionOf Tryz.f187 11).wp Tryz.prog K a w := by
  unfold Kp at hK; rw [blkFr_of hs]; clear hs; generalize sl a = u at *; clear a; have HK := Lib.hid hK; clear hK; conv => arg 2; whnf
  have xlx : (x.toNat : Int) ≤ 4294967295 := by have := x.toNat_lt; omega
  simp only [blkFr, h8]
  go_wp2_with (go_at_call 233; refine (rotC _ _ _ (by decide)).mono ?_; rintro e w1 ⟨rfl, rfl⟩)
  exact HK.out _ _  ⟨rfl, rfl⟩ (Kc rfl (Kc rfl (Kc rfl (Kc rfl (Kc rfl (Kc rfl (Kc h8.symm (Kc rfl (Kc rfl (Kc rfl (Kc rfl (Kc rfl (Kc rfl (Kc rfl (Kc rfl (Kc rfl (Kc rfl (Kc rfl (Kn _ _))))))))))))))))))) (congrArg (fun v => Value.int .u32 v) (sg1W x)) (Fr.refl _ _)
theorem blkR17 (gh : Nat) (x y : UInt32) (a : Act) (w : World) (K : Exit → Act → World → Prop) (hs : Sz 195 a)
    (h11 : sl a 11 = .pointer (some ⟨gh, 0, none⟩)) (hx : w.cell? ⟨gh, 4, none⟩ = some (.int .u32 (x.toNat : Int))) (hy : w.cell? ⟨gh, 0, none⟩ = some (.int .u32 (y.toNat : Int)))
    (hK : ∀ a' w', Sz 195 a' → Kp [0, 1, 4, 5, 6, 7, 8, 9, 10, 11, 12, 15, 16, 17, 18, 104, 178] a a' → sl a' 13 = .int .u32 (x.toNat : Int) → sl a' 14 = .int .u32 (y.toNat : Int) → Fr noB w w' → K .normal a' w') :
    (regionOf Tryz.f187 17).wp Tryz.prog K a w := by
  unfold Kp at hK; rw [blkFr_of hs]; clear hs; generalize sl a = u at *; clear a; have HK := Lib.hid hK; clear hK; conv => arg 2; whnf
  simp only [blkFr, h11]
  go_quiet (fail)
  exact HK.out _ _  ⟨rfl, rfl⟩ (Kc rfl (Kc rfl (Kc rfl (Kc rfl (Kc rfl (Kc rfl (Kc rfl (Kc rfl (Kc rfl (Kc h11.symm (Kc rfl (Kc rfl (Kc rfl (Kc rfl (Kc rfl (Kc rfl (Kc rfl (Kn _ _)))))))))))))))))) (rfl) (rfl) ((Fr.refl _ _).drewN _)
end Go.Proofs.YtcbkaiakdhiloacGreatDoor
namespace Go.Proofs.YtcbkaiakdhiloacGreatDoor
open Go.RowKit Go.Proofs Go.Maps
def entC (e : EntD) : Value := .agg #[.int .u8 (e.card.1.toNat : Int), .int .u8 (e.card.2.1.toNat : Int), .int .u8 (e.card.2.2.1.toNat : Int), .int .u8 (e.card.2.2.2.1.toNat : Int), .int .u8 (e.card.2.2.2.2.1.toNat : Int), .int .u8 (e.card.2.2.2.2.2.toNat : Int), .bool e.known, .int .i64 e.due, .int .i64 e.asked, .string (bs e.waits)]
def entDat (e : EntD) : DataW Unit := .agg [.lit (.int .u8 (e.card.1.toNat : Int)), .lit (.int .u8 (e.card.2.1.toNat : Int)), .lit (.int .u8 (e.card.2.2.1.toNat : Int)), .lit (.int .u8 (e.card.2.2.2.1.toNat : Int)), .lit (.int .u8 (e.card.2.2.2.2.1.toNat : Int)), .lit (.int .u8 (e.card.2.2.2.2.2.toNat : Int)), .lit (.bool e.known), .lit (.int .i64 e.due), .lit (.int .i64 e.asked), .lit (.string e.waits)]
def cellD : Value → Option (DataW Unit)
  | .int k n => some (.lit (.int k n))
  | .bool b => some (.lit (.bool b))
  | .string s => some (.lit (.string s.data.toList))
  | _ => none
def cellsD : List Value → Option (List (DataW Unit))
  | [] => some []
  | v :: r => match cellD v, cellsD r with
    | some d, some l => some (d :: l)
    | _, _ => none
theorem cellD_inj {a b : Value} {d : DataW Unit} (ha : cellD a = some d) (hb : cellD b = some d) : a = b := by
  cases a <;> simp only [cellD, Option.some.injEq, reduceCtorEq] at ha <;> cases b <;> simp only [cellD, Option.some.injEq, reduceCtorEq] at hb <;> rw [← hb] at ha <;> simp only [DataW.lit.injEq, Lit.int.injEq, Lit.bool.injEq, Lit.string.injEq, reduceCtorEq] at ha
  · rw [ha]
  · rw [ha.1, ha.2]
  · next s t => 
    have h := congrArg bs ha
    rw [bs_of, bs_of] at h
    rw [h]
theorem cellsD_inj : ∀ {a b : List Value} {l : List (DataW Unit)}, cellsD a = some l → cellsD b = some l → a = b
  | [], [], _, _, _ => rfl
  | [], y :: s, l, ha, hb => by
    simp only [cellsD, Option.some.injEq] at ha; subst ha
    simp only [cellsD] at hb
    split at hb <;> cases hb
  | x :: r, [], l, ha, hb => by
    simp only [cellsD, Option.some.injEq] at hb; subst hb
    simp only [cellsD] at ha
    split at ha <;> cases ha
  | x :: r, y :: s, l, ha, hb => by
    simp only [cellsD] at ha hb
    split at ha
    · next d1 l1 h1 h2 =>
      split at hb
      · next d2 l2 h3 h4 =>
        cases ha
        cases hb
        rw [cellD_inj h1 h3, cellsD_inj h2 h4]
      · cases hb
    · cases ha
def entR : Value → Option (DataW Unit × List MemPlace)
  | .agg cs => (cellsD cs.toList).map fun l => (.agg l, [])
  | _ => none
theorem entR_mk (e : EntD) : entR (entC e) = some (entDat e, []) := by simp [entC, entR, entDat, cellsD, cellD, bs]
theorem entR_inv {v : Value} {e : EntD} {ps : List MemPlace} (h : entR v = some (entDat e, ps)) : v = entC e := by
  cases v <;> simp only [entR, reduceCtorEq] at h
  next cs =>
  rw [Option.map_eq_some_iff] at h
  obtain ⟨l, h1, h2⟩ := h
  injection h2 with h2 _
  have h3 := entR_mk e
  simp only [entC, entR, Option.map_eq_some_iff] at h3
  obtain ⟨l', h4, h5⟩ := h3
  injection h5 with h5 _
  rw [← h5] at h2
  injection h2 with h2
  subst h2
  have := cellsD_inj h1 h4
  unfold entC
  congr 1
  apply Array.ext'
  exact this
def ipL (ip : Nat) : Lit := .int .u32 (ip : Int)
structure Rep (D : DataW Unit) (l : List EntD) : Prop where
  nd : (l.map (·.ip)).Nodup
  lt : ∀ e ∈ l, e.ip < 4294967296
  has : ∀ ip, Maps.has D (ipL ip) = l.any fun e => e.ip == ip
  at_ : ∀ e ∈ l, ∀ z, D.atKey (ipL e.ip) z = entDat e
  size : Maps.size D = l.length
  tidy : Tidy D
def MapAt (w : World) (b : Nat) (l : List EntD) : Prop := ∃ D : DataW Unit, w.ownsMap Tryz.prog 38 entR b l.length D ∧ Rep D l
structure Lay where
  p : Nat
  rx : Nat
  rxs : Nat
  tx : Nat
  txs : Nat
  mp : Nat
  img : Option Addr
  icap : Nat
def Lay.blocks (L : Lay) : List Nat := [L.p, L.rx, L.rxs, L.tx, L.txs, L.mp]
def own' (L : Lay) (b : Nat) : Prop := b ∈ L.blocks ∨ ∃ a, L.img = some a ∧ a.block = b
def bootC (s : St) (L : Lay) : Array Value := #[.int .u8 (s.c.card.1.toNat : Int), .int .u8 (s.c.card.2.1.toNat : Int), .int .u8 (s.c.card.2.2.1.toNat : Int), .int .u8 (s.c.card.2.2.2.1.toNat : Int), .int .u8 (s.c.card.2.2.2.2.1.toNat : Int), .int .u8 (s.c.card.2.2.2.2.2.toNat : Int),
  .string (bs s.c.name), .int .i64 (s.c.cap : Int), .string (bs s.c.digest), .int .i64 (s.c.block : Int), .int .i64 (s.c.window : Int), .int .i64 (s.c.rx : Int), .int .i64 (s.c.tx : Int),
  .pointer (some ⟨L.rx, 0, none⟩), .pointer (some ⟨L.tx, 0, none⟩), .map (some L.mp), .int .i64 s.now, .int .u32 (s.draw : Int), .int .i64 s.boots, .int .i64 s.lost, .int .u16 ((s.id % 65536 : Nat) : Int),
  .int .i64 (s.lease : Int), .int .u32 (s.xid : Int), .int .u32 (s.addr : Int), .int .u32 (s.mask : Int), .int .u32 (s.router : Int), .int .u32 (s.server : Int), .int .u32 (s.source : Int), .int .i64 s.t1, .int .i64 s.t2, .int .i64 s.untl, .int .i64 s.lagain, .int .i64 (s.lsends : Int),
  .int .i64 (s.phase : Int), .int .u16 (s.port : Int), .int .u16 (s.peer : Int), .int .u16 (s.goal : Int), .int .i64 (s.block : Int), .int .i64 (s.wind : Int), .int .u16 ((s.next % 65536 : Nat) : Int), .int .i64 s.came, .int .i64 s.tagain, .int .i64 (s.tsends : Int), .string (bs s.last), .slice L.img s.image.length L.icap]
structure St.Ok (s : St) : Prop where
  rx0 : 0 < s.c.rx
  rx1 : s.c.rx ≤ 16
  tx0 : 0 < s.c.tx
  tx1 : s.c.tx ≤ 16
  draw : s.draw < 4294967296
  xid : s.xid < 4294967296
  addr : s.addr < 4294967296
  mask : s.mask < 4294967296
  router : s.router < 4294967296
  server : s.server < 4294967296
  source : s.source < 4294967296
  lsends : s.lsends ≤ 4
  tsends : s.tsends ≤ 4
  port : s.port < 65536
  peer : s.peer < 65536
  goal : s.goal < 65536
  last : s.last.length ≤ 1472
  name : s.c.name.length ≤ 20
  cap : s.c.cap ≤ 600000
  block : s.c.block ≤ 1024
  window : s.c.window ≤ 8
  blk : s.block ≤ 1024
  wind : s.wind ≤ 8
  next : s.next ≤ s.image.length + 2
  image : s.image.length ≤ s.c.cap
  waits : ∀ e ∈ s.cache, e.waits.length ≤ 1500
  cache : s.cache.length ≤ 4
  now0 : 0 ≤ s.now
  now1 : s.now ≤ 4611686018427387904
  dues : ∀ e ∈ s.cache, 0 ≤ e.due ∧ e.due ≤ 4611686018427388000
def RowG (w : World) (g : Nat) (cs : Array Value) : Prop := g < w.heap.size ∧ ∀ (j : Nat) (u : Value), cs[j]? = some u → w.cell? ⟨g, j, none⟩ = some u
theorem RowG.keep {w w' : World} {S : Nat → Prop} {g : Nat} {cs : Array Value} (h : RowG w g cs) (hf : Fr S w w') (hg : ¬ S g) : RowG w' g cs :=
  ⟨Nat.lt_of_lt_of_le h.1 hf.size, fun j u hu => (hf.cell (a := ⟨g, j, none⟩) h.1 hg).trans (h.2 j u hu)⟩
theorem tab_lt {P : Program} {w : World} {g : Nat} {name : String} {k : IntKind} {zs : List Int} (h : Lib.TabIs P w name k zs) (hn : P.globalNamed name = some g) : g < w.heap.size := by
  unfold Lib.TabIs World.var? at h
  rw [hn] at h
  rcases Nat.lt_or_ge g w.heap.size with h1 | h1
  · exact h1
  · simp [Array.getElem?_eq_none h1] at h
theorem tab_keep {P : Program} {w w' : World} {S : Nat → Prop} {g : Nat} {name : String} {k : IntKind} {zs : List Int} (h : Lib.TabIs P w name k zs) (hn : P.globalNamed name = some g) (hf : Fr S w w') (hg : ¬ S g) : Lib.TabIs P w' name k zs := by
  have hlt := tab_lt h hn
  unfold Lib.TabIs World.var? at h ⊢
  rw [hn] at h ⊢
  simp only [Option.bind_some] at h ⊢
  rw [hf.block g hlt hg]; exact h
theorem gPow : Tryz.prog.globalNamed "internal/strconv.uint64pow10" = some 6 := by kernel_rfl
def glB (b : Nat) : Prop := b = 2 ∨ b = 5 ∨ b = 3 ∨ b = 7 ∨ b = 8 ∨ b = 6
structure Glb (w : World) : Prop where
  all : RowG w 2 #[.int .u8 255, .int .u8 255, .int .u8 255, .int .u8 255, .int .u8 255, .int .u8 255]
  rounds : RU w 5 kTab
  begin : RU w 3 h0.list
  tabs : Tabs w
  pow : Lib.TabIs Tryz.prog w "internal/strconv.uint64pow10" .u64 Lib.pow10Tab
theorem Glb.keep {w w' : World} {S : Nat → Prop} (h : Glb w) (hf : Fr S w w') (hS : ∀ b, glB b → ¬ S b) : Glb w' where
  all := h.all.keep hf (hS _ (.inl rfl))
  rounds := h.rounds.keep hf (hS _ (.inr (.inl rfl)))
  begin := h.begin.keep hf (hS _ (.inr (.inr (.inl rfl))))
  tabs := h.tabs.keep hf (hS _ (.inr (.inr (.inr (.inl rfl))))) (hS _ (.inr (.inr (.inr (.inr (.inl rfl))))))
  pow := tab_keep h.pow gPow hf (hS _ (.inr (.inr (.inr (.inr (.inr rfl))))))
structure BootAt (w : World) (L : Lay) (s : St) : Prop where
  bk : Bk w L.p 106 (bootC s L)
  rx : RingAt w L.rx L.rxs s.c.rx s.rx
  tx : RingAt w L.tx L.txs s.c.tx s.tx
  mp : MapAt w L.mp s.cache
  im : w.ownsRow 0 5 1 (.slice L.img s.image.length L.icap) s.image.length (u8s s.image)
  ne : L.blocks.Nodup
  ni : ∀ a, L.img = some a → a.block ∉ L.blocks
  ok : s.Ok
  gb : Glb w
  gd : ∀ b, own' L b → ¬ glB b
section
variable {w : World} {L : Lay} {s : St}
theorem BootAt.g0 (h : BootAt w L s) : w.cell? ⟨L.p, 0, none⟩ = some (.int .u8 (s.c.card.1.toNat : Int)) := h.bk.cell 0
theorem BootAt.g1 (h : BootAt w L s) : w.cell? ⟨L.p, 1, none⟩ = some (.int .u8 (s.c.card.2.1.toNat : Int)) := h.bk.cell 1
theorem BootAt.g2 (h : BootAt w L s) : w.cell? ⟨L.p, 2, none⟩ = some (.int .u8 (s.c.card.2.2.1.toNat : Int)) := h.bk.cell 2
theorem BootAt.g3 (h : BootAt w L s) : w.cell? ⟨L.p, 3, none⟩ = some (.int .u8 (s.c.card.2.2.2.1.toNat : Int)) := h.bk.cell 3
theorem BootAt.g4 (h : BootAt w L s) : w.cell? ⟨L.p, 4, none⟩ = some (.int .u8 (s.c.card.2.2.2.2.1.toNat : Int)) := h.bk.cell 4
theorem BootAt.g5 (h : BootAt w L s) : w.cell? ⟨L.p, 5, none⟩ = some (.int .u8 (s.c.card.2.2.2.2.2.toNat : Int)) := h.bk.cell 5
theorem BootAt.g13 (h : BootAt w L s) : w.cell? ⟨L.p, 13, none⟩ = some (.pointer (some ⟨L.rx, 0, none⟩)) := h.bk.cell 13
theorem BootAt.g14 (h : BootAt w L s) : w.cell? ⟨L.p, 14, none⟩ = some (.pointer (some ⟨L.tx, 0, none⟩)) := h.bk.cell 14
theorem BootAt.g15 (h : BootAt w L s) : w.cell? ⟨L.p, 15, none⟩ = some (.map (some L.mp)) := h.bk.cell 15
theorem BootAt.g16 (h : BootAt w L s) : w.cell? ⟨L.p, 16, none⟩ = some (.int .i64 s.now) := h.bk.cell 16
theorem BootAt.g17 (h : BootAt w L s) : w.cell? ⟨L.p, 17, none⟩ = some (.int .u32 (s.draw : Int)) := h.bk.cell 17
theorem BootAt.g18 (h : BootAt w L s) : w.cell? ⟨L.p, 18, none⟩ = some (.int .i64 s.boots) := h.bk.cell 18
theorem BootAt.g19 (h : BootAt w L s) : w.cell? ⟨L.p, 19, none⟩ = some (.int .i64 s.lost) := h.bk.cell 19
theorem BootAt.g20 (h : BootAt w L s) : w.cell? ⟨L.p, 20, none⟩ = some (.int .u16 ((s.id % 65536 : Nat) : Int)) := h.bk.cell 20
theorem BootAt.g21 (h : BootAt w L s) : w.cell? ⟨L.p, 21, none⟩ = some (.int .i64 (s.lease : Int)) := h.bk.cell 21
theorem BootAt.g22 (h : BootAt w L s) : w.cell? ⟨L.p, 22, none⟩ = some (.int .u32 (s.xid : Int)) := h.bk.cell 22
theorem BootAt.g23 (h : BootAt w L s) : w.cell? ⟨L.p, 23, none⟩ = some (.int .u32 (s.addr : Int)) := h.bk.cell 23
theorem BootAt.g24 (h : BootAt w L s) : w.cell? ⟨L.p, 24, none⟩ = some (.int .u32 (s.mask : Int)) := h.bk.cell 24
theorem BootAt.g25 (h : BootAt w L s) : w.cell? ⟨L.p, 25, none⟩ = some (.int .u32 (s.router : Int)) := h.bk.cell 25
theorem BootAt.g26 (h : BootAt w L s) : w.cell? ⟨L.p, 26, none⟩ = some (.int .u32 (s.server : Int)) := h.bk.cell 26
theorem BootAt.g27 (h : BootAt w L s) : w.cell? ⟨L.p, 27, none⟩ = some (.int .u32 (s.source : Int)) := h.bk.cell 27
theorem BootAt.g28 (h : BootAt w L s) : w.cell? ⟨L.p, 28, none⟩ = some (.int .i64 s.t1) := h.bk.cell 28
theorem BootAt.g29 (h : BootAt w L s) : w.cell? ⟨L.p, 29, none⟩ = some (.int .i64 s.t2) := h.bk.cell 29
theorem BootAt.g30 (h : BootAt w L s) : w.cell? ⟨L.p, 30, none⟩ = some (.int .i64 s.untl) := h.bk.cell 30
theorem BootAt.g31 (h : BootAt w L s) : w.cell? ⟨L.p, 31, none⟩ = some (.int .i64 s.lagain) := h.bk.cell 31
theorem BootAt.g32 (h : BootAt w L s) : w.cell? ⟨L.p, 32, none⟩ = some (.int .i64 (s.lsends : Int)) := h.bk.cell 32
theorem BootAt.g33 (h : BootAt w L s) : w.cell? ⟨L.p, 33, none⟩ = some (.int .i64 (s.phase : Int)) := h.bk.cell 33
theorem BootAt.g34 (h : BootAt w L s) : w.cell? ⟨L.p, 34, none⟩ = some (.int .u16 (s.port : Int)) := h.bk.cell 34
theorem BootAt.g35 (h : BootAt w L s) : w.cell? ⟨L.p, 35, none⟩ = some (.int .u16 (s.peer : Int)) := h.bk.cell 35
theorem BootAt.g36 (h : BootAt w L s) : w.cell? ⟨L.p, 36, none⟩ = some (.int .u16 (s.goal : Int)) := h.bk.cell 36
theorem BootAt.g37 (h : BootAt w L s) : w.cell? ⟨L.p, 37, none⟩ = some (.int .i64 (s.block : Int)) := h.bk.cell 37
theorem BootAt.g38 (h : BootAt w L s) : w.cell? ⟨L.p, 38, none⟩ = some (.int .i64 (s.wind : Int)) := h.bk.cell 38
theorem BootAt.g39 (h : BootAt w L s) : w.cell? ⟨L.p, 39, none⟩ = some (.int .u16 ((s.next % 65536 : Nat) : Int)) := h.bk.cell 39
theorem BootAt.g40 (h : BootAt w L s) : w.cell? ⟨L.p, 40, none⟩ = some (.int .i64 s.came) := h.bk.cell 40
theorem BootAt.g41 (h : BootAt w L s) : w.cell? ⟨L.p, 41, none⟩ = some (.int .i64 s.tagain) := h.bk.cell 41
theorem BootAt.g42 (h : BootAt w L s) : w.cell? ⟨L.p, 42, none⟩ = some (.int .i64 (s.tsends : Int)) := h.bk.cell 42
theorem BootAt.g43 (h : BootAt w L s) : w.cell? ⟨L.p, 43, none⟩ = some (.string (bs s.last)) := h.bk.cell 43
theorem BootAt.g44 (h : BootAt w L s) : w.cell? ⟨L.p, 44, none⟩ = some (.slice L.img s.image.length L.icap) := h.bk.cell 44
theorem BootAt.fr (h : BootAt w L s) : ∀ j, w.frozen? ⟨L.p, j, none⟩ = false := h.bk.frees
end
theorem ownsMap_keep {w w' : World} {S : Nat → Prop} {b n : Nat} {D : DataW Unit} (h : w.ownsMap Tryz.prog 38 entR b n D) (hf : Fr S w w') (hb : ¬ S b) : w'.ownsMap Tryz.prog 38 entR b n D := by
  have hl := h.lt
  obtain ⟨es, cl, h1, h2⟩ := h
  exact ⟨es, cl, (hf.block b hl hb).trans h1, h2⟩
theorem MapAt.keep {w w' : World} {S : Nat → Prop} {b : Nat} {l : List EntD} (h : MapAt w b l) (hf : Fr S w w') (hb : ¬ S b) : MapAt w' b l := by
  obtain ⟨D, h1, h2⟩ := h
  exact ⟨D, ownsMap_keep h1 hf hb, h2⟩
theorem MapAt.lt {w : World} {b : Nat} {l : List EntD} (h : MapAt w b l) : b < w.heap.size := by obtain ⟨D, h1, _⟩ := h; exact h1.lt
theorem row_keep {w w' : World} {S : Nat → Prop} {A : Option Addr} {n c : Nat} {xs : List Value} (h : w.ownsRow 0 5 1 (.slice A n c) n xs) (hf : Fr S w w') (hb : ∀ a, A = some a → ¬ S a.block) : w'.ownsRow 0 5 1 (.slice A n c) n xs := by
  refine ⟨h.1, ?_⟩
  rcases h.2 with h1 | ⟨g, cap, cur, h1, h2, h3, h4⟩
  · exact .inl h1
  · refine .inr ⟨g, cap, cur, h1, h2, ?_, h4⟩
    have hl : g < w.heap.size := by
      rcases Nat.lt_or_ge g w.heap.size with hlt | hge
      · exact hlt
      · rw [Array.getElem?_eq_none hge] at h3; cases h3
    injection h1 with h1
    exact (hf.block g hl (hb _ h1)).trans h3
theorem BootAt.keep {w w' : World} {S : Nat → Prop} {L : Lay} {s : St} (h : BootAt w L s) (hf : Fr S w w') (hS : ∀ b, own' L b → ¬ S b) (hG : ∀ b, glB b → ¬ S b) : BootAt w' L s where
  bk := h.bk.keep hf (hS _ (.inl (by simp [Lay.blocks])))
  rx := h.rx.keep hf (hS _ (.inl (by simp [Lay.blocks]))) (hS _ (.inl (by simp [Lay.blocks])))
  tx := h.tx.keep hf (hS _ (.inl (by simp [Lay.blocks]))) (hS _ (.inl (by simp [Lay.blocks])))
  mp := h.mp.keep hf (hS _ (.inl (by simp [Lay.blocks])))
  im := row_keep h.im hf fun a ha => hS _ (.inr ⟨a, ha, rfl⟩)
  ne := h.ne
  ni := h.ni
  ok := h.ok
  gb := h.gb.keep hf hG
  gd := h.gd
theorem BootAt.none {w w' : World} {L : Lay} {s : St} (h : BootAt w L s) (hf : Fr noB w w') : BootAt w' L s := h.keep hf (fun _ _ x => x) (fun _ _ x => x)
theorem own_p (L : Lay) : own' L L.p := .inl (by simp [Lay.blocks])
theorem own_rx (L : Lay) : own' L L.rx := .inl (by simp [Lay.blocks])
theorem own_rxs (L : Lay) : own' L L.rxs := .inl (by simp [Lay.blocks])
theorem own_tx (L : Lay) : own' L L.tx := .inl (by simp [Lay.blocks])
theorem own_txs (L : Lay) : own' L L.txs := .inl (by simp [Lay.blocks])
theorem own_mp (L : Lay) : own' L L.mp := .inl (by simp [Lay.blocks])
theorem BootAt.turn {w w' : World} {L : Lay} {s : St} (s' : St) (h : BootAt w L s) (hf : Fr (oneB L.p) w w') (hb : Bk w' L.p 106 (bootC s' L)) (hc : s'.c = s.c) (hr : s'.rx = s.rx) (ht : s'.tx = s.tx) (hm : s'.cache = s.cache) (hi : s'.image = s.image) (ok : s'.Ok) : BootAt w' L s' := by
  have hn := h.ne
  simp only [Lay.blocks, List.nodup_cons, List.mem_cons, List.not_mem_nil, or_false, not_or] at hn
  obtain ⟨⟨n1, n2, n3, n4, n5⟩, _⟩ := hn
  refine ⟨hb, ?_, ?_, ?_, ?_, h.ne, h.ni, ok, h.gb.keep hf (fun b hb x => h.gd _ (own_p L) (x ▸ hb)), h.gd⟩
  · rw [hc, hr]; exact h.rx.keep hf (fun x => n1 x.symm) (fun x => n2 x.symm)
  · rw [hc, ht]; exact h.tx.keep hf (fun x => n3 x.symm) (fun x => n4 x.symm)
  · rw [hm]; exact h.mp.keep hf (fun x => n5 x.symm)
  · rw [hi]; exact row_keep h.im hf fun a ha x => h.ni a ha (by simp only [Lay.blocks, List.mem_cons]; exact .inl x)
theorem BootAt.txTurn {w w' : World} {L : Lay} {s : St} {q : List (List UInt8)} (h : BootAt w L s) (hf : Fr (fun b => b = L.tx ∨ b = L.txs) w w') (hr : RingAt w' L.tx L.txs s.c.tx q) : BootAt w' L { s with tx := q } := by
  have hn := h.ne
  simp only [Lay.blocks, List.nodup_cons, List.mem_cons, List.not_mem_nil, or_false, not_or] at hn
  obtain ⟨⟨n1, n2, n3, n4, n5⟩, ⟨m2, m3, m4, m5⟩, ⟨k3, k4, k5⟩, ⟨j4, j5⟩, i5, _⟩ := hn
  have ok := h.ok
  refine ⟨h.bk.keep hf (by rintro (x | x); exact n3 x; exact n4 x), h.rx.keep hf (by rintro (x | x); exact m3 x; exact m4 x) (by rintro (x | x); exact k3 x; exact k4 x), hr,
    h.mp.keep hf (by rintro (x | x); exact j5 x.symm; exact i5 x.symm), row_keep h.im hf fun a ha x => h.ni a ha (by simp only [Lay.blocks, List.mem_cons]; rcases x with x | x <;> simp [x]), h.ne, h.ni, { ok with }, h.gb.keep hf (fun b hb x => by rcases x with rfl | rfl; exact h.gd _ (own_tx L) hb; exact h.gd _ (own_txs L) hb), h.gd⟩
theorem BootAt.rxTurn {w w' : World} {L : Lay} {s : St} {q : List (List UInt8)} (h : BootAt w L s) (hf : Fr (fun b => b = L.rx ∨ b = L.rxs) w w') (hr : RingAt w' L.rx L.rxs s.c.rx q) : BootAt w' L { s with rx := q } := by
  have hn := h.ne
  simp only [Lay.blocks, List.nodup_cons, List.mem_cons, List.not_mem_nil, or_false, not_or] at hn
  obtain ⟨⟨n1, n2, n3, n4, n5⟩, ⟨m2, m3, m4, m5⟩, ⟨k3, k4, k5⟩, ⟨j4, j5⟩, i5, _⟩ := hn
  have ok := h.ok
  refine ⟨h.bk.keep hf (by rintro (x | x); exact n1 x; exact n2 x), hr, h.tx.keep hf (by rintro (x | x); exact m3 x.symm; exact k3 x.symm) (by rintro (x | x); exact m4 x.symm; exact k4 x.symm),
    h.mp.keep hf (by rintro (x | x); exact m5 x.symm; exact k5 x.symm), row_keep h.im hf fun a ha x => h.ni a ha (by simp only [Lay.blocks, List.mem_cons]; rcases x with x | x <;> simp [x]), h.ne, h.ni, { ok with }, h.gb.keep hf (fun b hb x => by rcases x with rfl | rfl; exact h.gd _ (own_rx L) hb; exact h.gd _ (own_rxs L) hb), h.gd⟩
def LPost (L : Lay) (s : St) (r : Value) (w : World) (e : Ending) (w' : World) : Prop := e = .returned r ∧ BootAt w' L s ∧ Fr (own' L) w w'
theorem BootAt.drew {w : World} {L : Lay} {s : St} (h : BootAt w L s) : BootAt w.drew L s := h.none ((Fr.refl _ _).drew)
theorem BootAt.lt {w : World} {L : Lay} {s : St} (h : BootAt w L s) : ∀ b, own' L b → b < w.heap.size := by
  intro b hb
  obtain ⟨i, cs, r1, r2, _⟩ := h.rx
  obtain ⟨i', cs', t1, t2, _⟩ := h.tx
  rcases hb with hb | ⟨a, ha, rfl⟩
  · simp only [Lay.blocks, List.mem_cons, List.not_mem_nil, or_false] at hb
    rcases hb with rfl | rfl | rfl | rfl | rfl | rfl
    · exact h.bk.lt
    · exact r1.lt
    · exact r2.lt
    · exact t1.lt
    · exact t2.lt
    · exact h.mp.lt
  · rcases h.im.2 with ⟨h1, _⟩ | ⟨g, cap, cur, h1, _, h3, _⟩
    · injection h1 with h1; rw [ha] at h1; cases h1
    · injection h1 with h1
      rw [ha] at h1; injection h1 with h1; subst h1
      rcases Nat.lt_or_ge g w.heap.size with hlt | hge
      · exact hlt
      · rw [Array.getElem?_eq_none hge] at h3; cases h3
end Go.Proofs.YtcbkaiakdhiloacGreatDoor
namespace Go.Proofs.YtcbkaiakdhiloacGreatDoor
open Go.RowKit Go.Proofs
theorem tab_reads {W : World} {name : String} {k : IntKind} {zs : List Int} {g : Nat} {t e : TypeId} {n : Nat} (hg : Tryz.prog.globalNamed name = some g) (hty : (Tryz.prog.globals[g]?).map (·.type) = some t)
    (ht : Tryz.prog.underlying t = some (.array n e)) (he : Tryz.prog.underlying e = some (.int k)) (hce : Tryz.prog.cellsOf e = 1) (hct : Tryz.prog.cellsOf t = n) (h : Lib.VarReads Tryz.prog W name (Lib.tabData k zs)) : Lib.TabIs Tryz.prog W name k zs := by
  obtain ⟨g', t', cs, fuel, p, hg', ht', hvar, hd⟩ := h
  obtain rfl := Option.some.inj (hg.symm.trans hg')
  obtain rfl := Option.some.inj (hty.symm.trans ht')
  unfold Lib.TabIs
  rw [hvar, ← Lib.cells_of_tab ht he hce hct hd]
theorem cell_ltL {W : World} {g i : Nat} {v : Value} (h : W.cell? ⟨g, i, none⟩ = some v) : g < W.heap.size := by
  rcases Nat.lt_or_ge g W.heap.size with h1 | h1
  · exact h1
  · simp [World.cell?, Array.getElem?_eq_none h1] at h
theorem tab_cell {W : World} {name : String} {k : IntKind} {zs : List Int} {g : Nat} (h : Lib.TabIs Tryz.prog W name k zs) (hg : Tryz.prog.globalNamed name = some g) (i : Nat) (z : Int) (hz : zs[i]? = some z) : W.cell? ⟨g, i, none⟩ = some (.int k z) := by
  have hi : i < zs.length := by
    rcases Nat.lt_or_ge i zs.length with h1 | h1
    · exact h1
    · rw [List.getElem?_eq_none h1] at hz; cases hz
  rw [h.cell hg i hi]
  simp [List.getD, hz]
theorem tab_row {W : World} {name : String} {k : IntKind} {z : Int} {zs : List Int} {g : Nat} (h : Lib.TabIs Tryz.prog W name k (z :: zs)) (hg : Tryz.prog.globalNamed name = some g) : RowG W g ((z :: zs).map (Value.int k)).toArray := by
  refine ⟨cell_ltL (tab_cell h hg 0 z rfl), fun j u hu => ?_⟩
  rw [List.getElem?_toArray, List.getElem?_map, Option.map_eq_some_iff] at hu
  obtain ⟨y, hy, rfl⟩ := hu
  exact tab_cell h hg j y hy
theorem tab_ru {W : World} {name : String} {l : List UInt32} {g : Nat} (h : Lib.TabIs Tryz.prog W name .u32 (l.map fun x => (x.toNat : Int))) (hg : Tryz.prog.globalNamed name = some g) (h0 : l ≠ []) : RU W g l := by
  have key : ∀ (k : Nat) (x : UInt32), l[k]? = some x → W.cell? ⟨g, k, none⟩ = some (.int .u32 (x.toNat : Int)) := fun k x hx => tab_cell h hg k _ (by rw [List.getElem?_map, hx]; rfl)
  obtain ⟨x, r, rfl⟩ := List.exists_cons_of_ne_nil h0
  exact ⟨cell_ltL (key 0 x rfl), key⟩
def u8ren : Go.Shelf.Ren := ⟨fun n => n, fun | 5 => 5 | 119 => 340 | 138 => 342 | 139 => 343 | n => n, fun | 3 => 7 | 4 => 8 | n => n⟩
theorem u8types : U8Types Tryz.prog u8ren := ⟨by kernel_rfl, by kernel_rfl, by kernel_rfl, by kernel_rfl⟩
theorem u8extra : U8Extra Tryz.prog u8ren := ⟨by kernel_rfl, by kernel_rfl, by kernel_rfl, by kernel_rfl, by kernel_rfl, by kernel_rfl, by kernel_rfl⟩
theorem acc_eq : (Rows.laid_unicode_utf8_acceptRanges : DataW Unit) = Lib.acceptData := by kernel_rfl
theorem fst_eq : Rows.laid_unicode_utf8_first = Lib.firstData := Go.Pinned.utf8First_eq
theorem glb_reads {W : World} {l : List (String × DataW Unit)} (h : laidMet Tryz.prog l W) (m1 : ("netboot/packet.All", Rows.laid_netboot_packet_All) ∈ l) (m2 : ("netboot/hash.begin", Rows.laid_netboot_hash_begin) ∈ l) (m3 : ("netboot/hash.rounds", Rows.laid_netboot_hash_rounds) ∈ l)
    (m4 : ("internal/strconv.uint64pow10", Rows.laid_internal_strconv_uint64pow10) ∈ l) (m5 : ("unicode/utf8.acceptRanges", Rows.laid_unicode_utf8_acceptRanges) ∈ l) (m6 : ("unicode/utf8.first", Rows.laid_unicode_utf8_first) ∈ l) : Glb W where
  all := tab_row (z := 255) (zs := [255, 255, 255, 255, 255]) (tab_reads (name := "netboot/packet.All") (g := 2) (t := 26) (e := 5) (n := 6) (by kernel_rfl) (by kernel_rfl) Tryz.underlying26 Tryz.underlying5 (by kernel_rfl) (by kernel_rfl) (Lib.laidMet.reads h m1)) (by kernel_rfl)
  rounds := tab_ru (tab_reads (name := "netboot/hash.rounds") (g := 5) (t := 283) (e := 37) (n := 64) (by kernel_rfl) (by kernel_rfl) Tryz.underlying283 Tryz.underlying37 (by kernel_rfl) (by kernel_rfl) (show Lib.VarReads _ _ _ (Lib.tabData .u32 (kTab.map fun x => (x.toNat : Int))) from (show (Rows.laid_netboot_hash_rounds : DataW Unit) = Lib.tabData .u32 (kTab.map fun x => (x.toNat : Int)) by kernel_rfl) ▸ Lib.laidMet.reads h m3)) (by kernel_rfl) (by decide)
  begin := tab_ru (tab_reads (name := "netboot/hash.begin") (g := 3) (t := 201) (e := 37) (n := 8) (by kernel_rfl) (by kernel_rfl) Tryz.underlying201 Tryz.underlying37 (by kernel_rfl) (by kernel_rfl) (show Lib.VarReads _ _ _ (Lib.tabData .u32 (h0.list.map fun x => (x.toNat : Int))) from (show (Rows.laid_netboot_hash_begin : DataW Unit) = Lib.tabData .u32 (h0.list.map fun x => (x.toNat : Int)) by kernel_rfl) ▸ Lib.laidMet.reads h m2)) (by kernel_rfl) (by decide)
  tabs := utf8Tabs_of_readsT u8types u8extra (fst_eq ▸ Lib.laidMet.reads h m6) (acc_eq ▸ Lib.laidMet.reads h m5)
  pow := tab_reads (g := 6) (t := 337) (e := 202) (n := 20) (by kernel_rfl) (by kernel_rfl) Tryz.underlying337 Tryz.underlying202 (by kernel_rfl) (by kernel_rfl) ((show (Rows.laid_internal_strconv_uint64pow10 : DataW Unit) = Lib.tabData .u64 Lib.pow10Tab by kernel_rfl) ▸ Lib.laidMet.reads h m4)
end Go.Proofs.YtcbkaiakdhiloacGreatDoor
namespace Go.Proofs.YtcbkaiakdhiloacGreatDoor
open Go.RowKit Go.Proofs
section
variable {P : Program} {ops : Array Oper} {Q : Exit → Act → World → Prop} {S : World → Prop} {brk : List Nat} {c : Bool} {k : Nat} {t : Pl} {a : Act} {w : World} {o : Oper} {opl : List Oper}
theorem wantedU {o : Oper} {j d : Nat} {b : Bool} {a : Act} (hg : o.guard = some (j, b)) (hd : (ops[j]?).bind (·.dst) = some d) (hv : a.eval (.tmp d) = undef) : Region.wanted o (yielded ops a.tmps) = false := by
  unfold Region.wanted; rw [hg]
  have : yielded ops a.tmps j = none := by
    unfold yielded
    rw [hd]
    have hv' : a.tmps.getD d undef = undef := hv
    rw [Array.getD_eq_getD_getElem?] at hv'
    simp only [Option.bind_some]
    cases hx : a.tmps[d]? with
    | none => rfl
    | some v =>
      rw [hx, Option.getD_some] at hv'
      rw [hv']; rfl
  simp only [this]; rfl
theorem pl_pu {j d : Nat} {b : Bool} (hO : Hid (ops = opl.toArray)) (ho : opl[k]? = some o) (hg : o.guard = some (j, b)) (hd : (opl[j]?).bind (·.dst) = some d) (hb : a.eval (.tmp d) = undef) (h : wpPl P ops Q S brk c t (a.put o.dst undef) w) : wpPl P ops Q S brk c (.p k t) a w := pl_p_no (ops_at hO ho) (wantedU hg (ops_dst hO hd) hb) h
theorem pl_qu {j d : Nat} {b : Bool} (hO : Hid (ops = opl.toArray)) (ho : opl[k]? = some o) (hg : o.guard = some (j, b)) (hd : (opl[j]?).bind (·.dst) = some d) (hb : a.eval (.tmp d) = undef) (h : wpPl P ops Q S brk c t (a.put o.dst undef) w) : wpPl P ops Q S brk c (.q k t) a w := pl_q_no (ops_at hO ho) (wantedU hg (ops_dst hO hd) hb) h
end
end Go.Proofs.YtcbkaiakdhiloacGreatDoor
namespace Go.Proofs.YtcbkaiakdhiloacGreatDoor
open Go.RowKit Go.Proofs
abbrev KT := Exit → Act → World → Prop
section
variable {P : Program} {ops : Array Oper} {Q : Exit → Act → World → Prop} {S : World → Prop} {brk : List Nat} {c : Bool} {k : Nat} {t : Pl} {a a' : Act} {w : World} {o : Oper} {opl : List Oper} {v : Value} {j d : Nat} {b : Bool}
end
theorem kk {l : List Nat} {u : Nat → Value} {a : Act} (h : KpU l u a := by repeat (first | exact Kn _ _ | refine Kc (by first | rfl | (apply Eq.symm; assumption)) ?_)) : KpU l u a := h
theorem rgE {X : Prop} {P : Program} {K : KT} {c c' : Code} {a a2 : Act} {w : World} (hK : X) (h : a = a2) (H : Hid X → c'.wp P K a2 w) (hc : c = c' := by conv => lhs; whnf) : c.wp P K a w := by
  subst hc; subst h; exact H (Lib.hid hK)
end Go.Proofs.YtcbkaiakdhiloacGreatDoor
