/- The walks of the reference's small words for SHA-256: turn; numbers in base 65536. -/
import Derived.Test.YtcbkaiakdhiloaaDoorMem
import Derived.Test.YtcbkaiakdhiloaaDoorRoot
import Derived.Deep.QuietTactic
import Derived.BigQuiet
import Derived.Laws.BitsAll
import Derived.Deep.LoopGhost
import Derived.Deep.Cut
set_option linter.unusedSimpArgs false
set_option linter.unusedVariables false
namespace Go.Proofs.YtcbkaiakdhiloaaDoor
open Go.RowKit Go.Proofs

theorem i64_and_nat (a b : Nat) (ha : a < 9223372036854775808) (hb : b < 9223372036854775808) : bits .and .i64 (a : Int) (b : Int) = ((a &&& b : Nat) : Int) := by
  have hx : a &&& b < 2 ^ 63 := Nat.and_lt_two_pow _ (by omega)
  show IntKind.i64.wrap ((BitVec.ofInt 64 (a : Int) &&& BitVec.ofInt 64 (b : Int)).toNat : Int) = _
  rw [BitVec.toNat_and, ofInt_u64 a (by omega), ofInt_u64 b (by omega), IntKind.wrap_i64]
  omega
theorem i64_or_nat (a b : Nat) (ha : a < 9223372036854775808) (hb : b < 9223372036854775808) : bits .or .i64 (a : Int) (b : Int) = ((a ||| b : Nat) : Int) := by
  have hx : a ||| b < 2 ^ 63 := Nat.or_lt_two_pow (by omega) (by omega)
  show IntKind.i64.wrap ((BitVec.ofInt 64 (a : Int) ||| BitVec.ofInt 64 (b : Int)).toNat : Int) = _
  rw [BitVec.toNat_or, ofInt_u64 a (by omega), ofInt_u64 b (by omega), IntKind.wrap_i64]
  omega
theorem i64_xor_nat (a b : Nat) (ha : a < 9223372036854775808) (hb : b < 9223372036854775808) : bits .xor .i64 (a : Int) (b : Int) = ((a ^^^ b : Nat) : Int) := by
  have hx : a ^^^ b < 2 ^ 63 := Nat.xor_lt_two_pow (by omega) (by omega)
  show IntKind.i64.wrap ((BitVec.ofInt 64 (a : Int) ^^^ BitVec.ofInt 64 (b : Int)).toNat : Int) = _
  rw [BitVec.toNat_xor, ofInt_u64 a (by omega), ofInt_u64 b (by omega), IntKind.wrap_i64]
  omega
theorem turn_val (x : UInt32) (n : Nat) (a b : Nat) (ha : a = x.toNat / 2 ^ n) (hb : b = x.toNat * 2 ^ (32 - n) % 4294967296) : bits .or .i64 (a : Int) (bits .and .i64 (b : Int) 4294967295) = ((rotr x n).toNat : Int) := by
  have hx := x.toNat_lt
  have hbl : b < 4294967296 := by rw [hb]; exact Nat.mod_lt _ (by omega)
  have hal : a < 4294967296 := by rw [ha]; exact Nat.lt_of_le_of_lt (Nat.div_le_self _ _) hx
  rw [show (4294967295 : Int) = ((4294967295 : Nat) : Int) from rfl, i64_and_nat b 4294967295 (by omega) (by omega), show (4294967295 : Nat) = 2 ^ 32 - 1 from rfl, Nat.and_two_pow_sub_one_eq_mod, Nat.mod_eq_of_lt hbl,
    i64_or_nat a b (by omega) (by omega), rotr_toNat, ha, hb]

set_option maxRecDepth 20000 in
theorem refTurn2 (x : UInt32) (w : World) :
    Calls Tryd.prog 10 #[.int .i64 (x.toNat : Int), .int .i64 2] w fun e w' => e = .returned (.int .i64 ((rotr x 2).toNat : Int)) ∧ ∃ m, w' = w.drewN m := by
  have hx := x.toNat_lt
  have hx1 : (x.toNat : Int) ≤ 4294967295 := by omega
  have hv := turn_val x 2 (x.toNat / 4) (x.toNat * 1073741824 % 4294967296) rfl rfl
  have hv2 : Hid (bits .or .i64 ((x.toNat : Int) / 4) (bits .and .i64 ((x.toNat : Int) * 1073741824 % 4294967296) 4294967295) = ((rotr x 2).toNat : Int)) := by
    unfold Hid; rw [← hv]; congr 1
  clear hv
  go_enter Tryd.func10, Tryd.ntmps10
  go_wp2_with fail
  go_quiet (fail)
  go_wp2_with fail
  go_ret
  exact ⟨congrArg (fun v => Ending.returned (.int .i64 v)) hv2.out, ⟨_, rfl⟩⟩

set_option maxRecDepth 20000 in
theorem refTurn6 (x : UInt32) (w : World) :
    Calls Tryd.prog 10 #[.int .i64 (x.toNat : Int), .int .i64 6] w fun e w' => e = .returned (.int .i64 ((rotr x 6).toNat : Int)) ∧ ∃ m, w' = w.drewN m := by
  have hx := x.toNat_lt
  have hx1 : (x.toNat : Int) ≤ 4294967295 := by omega
  have hv := turn_val x 6 (x.toNat / 64) (x.toNat * 67108864 % 4294967296) rfl rfl
  have hv2 : Hid (bits .or .i64 ((x.toNat : Int) / 64) (bits .and .i64 ((x.toNat : Int) * 67108864 % 4294967296) 4294967295) = ((rotr x 6).toNat : Int)) := by
    unfold Hid; rw [← hv]; congr 1
  clear hv
  go_enter Tryd.func10, Tryd.ntmps10
  go_wp2_with fail
  go_quiet (fail)
  go_wp2_with fail
  go_ret
  exact ⟨congrArg (fun v => Ending.returned (.int .i64 v)) hv2.out, ⟨_, rfl⟩⟩

set_option maxRecDepth 20000 in
theorem refTurn7 (x : UInt32) (w : World) :
    Calls Tryd.prog 10 #[.int .i64 (x.toNat : Int), .int .i64 7] w fun e w' => e = .returned (.int .i64 ((rotr x 7).toNat : Int)) ∧ ∃ m, w' = w.drewN m := by
  have hx := x.toNat_lt
  have hx1 : (x.toNat : Int) ≤ 4294967295 := by omega
  have hv := turn_val x 7 (x.toNat / 128) (x.toNat * 33554432 % 4294967296) rfl rfl
  have hv2 : Hid (bits .or .i64 ((x.toNat : Int) / 128) (bits .and .i64 ((x.toNat : Int) * 33554432 % 4294967296) 4294967295) = ((rotr x 7).toNat : Int)) := by
    unfold Hid; rw [← hv]; congr 1
  clear hv
  go_enter Tryd.func10, Tryd.ntmps10
  go_wp2_with fail
  go_quiet (fail)
  go_wp2_with fail
  go_ret
  exact ⟨congrArg (fun v => Ending.returned (.int .i64 v)) hv2.out, ⟨_, rfl⟩⟩

set_option maxRecDepth 20000 in
theorem refTurn11 (x : UInt32) (w : World) :
    Calls Tryd.prog 10 #[.int .i64 (x.toNat : Int), .int .i64 11] w fun e w' => e = .returned (.int .i64 ((rotr x 11).toNat : Int)) ∧ ∃ m, w' = w.drewN m := by
  have hx := x.toNat_lt
  have hx1 : (x.toNat : Int) ≤ 4294967295 := by omega
  have hv := turn_val x 11 (x.toNat / 2048) (x.toNat * 2097152 % 4294967296) rfl rfl
  have hv2 : Hid (bits .or .i64 ((x.toNat : Int) / 2048) (bits .and .i64 ((x.toNat : Int) * 2097152 % 4294967296) 4294967295) = ((rotr x 11).toNat : Int)) := by
    unfold Hid; rw [← hv]; congr 1
  clear hv
  go_enter Tryd.func10, Tryd.ntmps10
  go_wp2_with fail
  go_quiet (fail)
  go_wp2_with fail
  go_ret
  exact ⟨congrArg (fun v => Ending.returned (.int .i64 v)) hv2.out, ⟨_, rfl⟩⟩

set_option maxRecDepth 20000 in
theorem refTurn13 (x : UInt32) (w : World) :
    Calls Tryd.prog 10 #[.int .i64 (x.toNat : Int), .int .i64 13] w fun e w' => e = .returned (.int .i64 ((rotr x 13).toNat : Int)) ∧ ∃ m, w' = w.drewN m := by
  have hx := x.toNat_lt
  have hx1 : (x.toNat : Int) ≤ 4294967295 := by omega
  have hv := turn_val x 13 (x.toNat / 8192) (x.toNat * 524288 % 4294967296) rfl rfl
  have hv2 : Hid (bits .or .i64 ((x.toNat : Int) / 8192) (bits .and .i64 ((x.toNat : Int) * 524288 % 4294967296) 4294967295) = ((rotr x 13).toNat : Int)) := by
    unfold Hid; rw [← hv]; congr 1
  clear hv
  go_enter Tryd.func10, Tryd.ntmps10
  go_wp2_with fail
  go_quiet (fail)
  go_wp2_with fail
  go_ret
  exact ⟨congrArg (fun v => Ending.returned (.int .i64 v)) hv2.out, ⟨_, rfl⟩⟩

set_option maxRecDepth 20000 in
theorem refTurn17 (x : UInt32) (w : World) :
    Calls Tryd.prog 10 #[.int .i64 (x.toNat : Int), .int .i64 17] w fun e w' => e = .returned (.int .i64 ((rotr x 17).toNat : Int)) ∧ ∃ m, w' = w.drewN m := by
  have hx := x.toNat_lt
  have hx1 : (x.toNat : Int) ≤ 4294967295 := by omega
  have hv := turn_val x 17 (x.toNat / 131072) (x.toNat * 32768 % 4294967296) rfl rfl
  have hv2 : Hid (bits .or .i64 ((x.toNat : Int) / 131072) (bits .and .i64 ((x.toNat : Int) * 32768 % 4294967296) 4294967295) = ((rotr x 17).toNat : Int)) := by
    unfold Hid; rw [← hv]; congr 1
  clear hv
  go_enter Tryd.func10, Tryd.ntmps10
  go_wp2_with fail
  go_quiet (fail)
  go_wp2_with fail
  go_ret
  exact ⟨congrArg (fun v => Ending.returned (.int .i64 v)) hv2.out, ⟨_, rfl⟩⟩

set_option maxRecDepth 20000 in
theorem refTurn18 (x : UInt32) (w : World) :
    Calls Tryd.prog 10 #[.int .i64 (x.toNat : Int), .int .i64 18] w fun e w' => e = .returned (.int .i64 ((rotr x 18).toNat : Int)) ∧ ∃ m, w' = w.drewN m := by
  have hx := x.toNat_lt
  have hx1 : (x.toNat : Int) ≤ 4294967295 := by omega
  have hv := turn_val x 18 (x.toNat / 262144) (x.toNat * 16384 % 4294967296) rfl rfl
  have hv2 : Hid (bits .or .i64 ((x.toNat : Int) / 262144) (bits .and .i64 ((x.toNat : Int) * 16384 % 4294967296) 4294967295) = ((rotr x 18).toNat : Int)) := by
    unfold Hid; rw [← hv]; congr 1
  clear hv
  go_enter Tryd.func10, Tryd.ntmps10
  go_wp2_with fail
  go_quiet (fail)
  go_wp2_with fail
  go_ret
  exact ⟨congrArg (fun v => Ending.returned (.int .i64 v)) hv2.out, ⟨_, rfl⟩⟩

set_option maxRecDepth 20000 in
theorem refTurn19 (x : UInt32) (w : World) :
    Calls Tryd.prog 10 #[.int .i64 (x.toNat : Int), .int .i64 19] w fun e w' => e = .returned (.int .i64 ((rotr x 19).toNat : Int)) ∧ ∃ m, w' = w.drewN m := by
  have hx := x.toNat_lt
  have hx1 : (x.toNat : Int) ≤ 4294967295 := by omega
  have hv := turn_val x 19 (x.toNat / 524288) (x.toNat * 8192 % 4294967296) rfl rfl
  have hv2 : Hid (bits .or .i64 ((x.toNat : Int) / 524288) (bits .and .i64 ((x.toNat : Int) * 8192 % 4294967296) 4294967295) = ((rotr x 19).toNat : Int)) := by
    unfold Hid; rw [← hv]; congr 1
  clear hv
  go_enter Tryd.func10, Tryd.ntmps10
  go_wp2_with fail
  go_quiet (fail)
  go_wp2_with fail
  go_ret
  exact ⟨congrArg (fun v => Ending.returned (.int .i64 v)) hv2.out, ⟨_, rfl⟩⟩

set_option maxRecDepth 20000 in
theorem refTurn22 (x : UInt32) (w : World) :
    Calls Tryd.prog 10 #[.int .i64 (x.toNat : Int), .int .i64 22] w fun e w' => e = .returned (.int .i64 ((rotr x 22).toNat : Int)) ∧ ∃ m, w' = w.drewN m := by
  have hx := x.toNat_lt
  have hx1 : (x.toNat : Int) ≤ 4294967295 := by omega
  have hv := turn_val x 22 (x.toNat / 4194304) (x.toNat * 1024 % 4294967296) rfl rfl
  have hv2 : Hid (bits .or .i64 ((x.toNat : Int) / 4194304) (bits .and .i64 ((x.toNat : Int) * 1024 % 4294967296) 4294967295) = ((rotr x 22).toNat : Int)) := by
    unfold Hid; rw [← hv]; congr 1
  clear hv
  go_enter Tryd.func10, Tryd.ntmps10
  go_wp2_with fail
  go_quiet (fail)
  go_wp2_with fail
  go_ret
  exact ⟨congrArg (fun v => Ending.returned (.int .i64 v)) hv2.out, ⟨_, rfl⟩⟩

set_option maxRecDepth 20000 in
theorem refTurn25 (x : UInt32) (w : World) :
    Calls Tryd.prog 10 #[.int .i64 (x.toNat : Int), .int .i64 25] w fun e w' => e = .returned (.int .i64 ((rotr x 25).toNat : Int)) ∧ ∃ m, w' = w.drewN m := by
  have hx := x.toNat_lt
  have hx1 : (x.toNat : Int) ≤ 4294967295 := by omega
  have hv := turn_val x 25 (x.toNat / 33554432) (x.toNat * 128 % 4294967296) rfl rfl
  have hv2 : Hid (bits .or .i64 ((x.toNat : Int) / 33554432) (bits .and .i64 ((x.toNat : Int) * 128 % 4294967296) 4294967295) = ((rotr x 25).toNat : Int)) := by
    unfold Hid; rw [← hv]; congr 1
  clear hv
  go_enter Tryd.func10, Tryd.ntmps10
  go_wp2_with fail
  go_quiet (fail)
  go_wp2_with fail
  go_ret
  exact ⟨congrArg (fun v => Ending.returned (.int .i64 v)) hv2.out, ⟨_, rfl⟩⟩

def ints (l : List Nat) : List Value := l.map fun (x : Nat) => Value.int .i64 (x : Int)
theorem ints_length (l : List Nat) : (ints l).length = l.length := by simp [ints]
theorem ints_get (l : List Nat) (k x : Nat) (h : l[k]? = some x) : (ints l)[k]? = some (.int .i64 (x : Int)) := by simp [ints, h]
theorem ints_set (l : List Nat) (k x : Nat) : ((ints l).toArray).setIfInBounds k (.int .i64 (x : Int)) = (ints (l.set k x)).toArray := by
  simp [ints, List.map_set]
theorem int_info : (Tryd.prog.info? 3).map (fun i => (i.zero, i.size, i.bytes)) = some (some (.int .i64 0), 1, 8) := by kernel_rfl
set_option maxRecDepth 20000 in
theorem run_make_ints (w : World) (n : Nat) (hn : n ≤ 1000000) :
    (Instr.makeSlice 30 (.int .i64 (n : Int)) (.int .i64 (n : Int))).run Tryd.prog w = .ok (.slice (some ⟨w.heap.size, 0, none⟩) n n) (w.alloc (.cells (ints (List.replicate n 0)).toArray 3)) := by
  obtain ⟨i, hi, hz, hs, hb⟩ := info_parts int_info
  have h := run_make (P := Tryd.prog) (w := w) 30 3 i _ Tryd.underlying30 hi hz .i64 .i64 (n : Int) (n : Int) (by omega) (by omega) (by rw [hb]; omega) (by omega)
  rw [h, Int.toNat_natCast, hs, Nat.mul_one]
  congr 3
  apply Array.ext'
  rw [show (Value.int IntKind.i64 0).cells = #[Value.int IntKind.i64 0] from rfl, toList_madeCells_one]
  simp [ints]
/-- a block that is a row of whole numbers -/
def IB (w : World) (g : Nat) (l : List Nat) : Prop := Bk w g 3 (ints l).toArray
theorem IB.get {w : World} {g : Nat} {l : List Nat} (h : IB w g l) (k x : Nat) (hx : l[k]? = some x) : w.cell? ⟨g, k, none⟩ = some (.int .i64 (x : Int)) := by
  have h1 := Bk.cell h k
  rw [h1]; simpa using ints_get l k x hx
theorem IB.set {w : World} {g : Nat} {l : List Nat} (h : IB w g l) (k x : Nat) : IB (w.setCell ⟨g, k, none⟩ (.int .i64 (x : Int))) g (l.set k x) := by
  have h1 := Bk.set h k (.int .i64 (x : Int))
  rw [ints_set] at h1; exact h1

/-- the row at block g can be read as l -/
def RI (w : World) (g : Nat) (l : List Nat) : Prop := g < w.heap.size ∧ ∀ (k x : Nat), l[k]? = some x → w.cell? ⟨g, k, none⟩ = some (.int .i64 (x : Int))
theorem IB.ri {w : World} {g : Nat} {l : List Nat} (h : IB w g l) : RI w g l := ⟨Bk.lt h, fun k x hx => h.get k x hx⟩
theorem RI.lt {w : World} {g : Nat} {l : List Nat} (h : RI w g l) : g < w.heap.size := h.1
theorem RI.get {w : World} {g : Nat} {l : List Nat} (h : RI w g l) (k x : Nat) (hx : l[k]? = some x) : w.cell? ⟨g, k, none⟩ = some (.int .i64 (x : Int)) := h.2 k x hx
theorem RI.keep {S : Nat → Prop} {w w' : World} {g : Nat} {l : List Nat} (h : RI w g l) (hf : Fr S w w') (hg : ¬ S g) : RI w' g l :=
  ⟨Nat.lt_of_lt_of_le h.1 hf.size, fun k x hx => (hf.cell (a := ⟨g, k, none⟩) h.1 hg).trans (h.2 k x hx)⟩
theorem RI.alloc {w : World} {g : Nat} {l : List Nat} (h : RI w g l) (o : Obj) : RI (w.alloc o) g l := h.keep ((Fr.refl noB w).alloc o) id

set_option maxRecDepth 20000 in
set_option maxHeartbeats 1000000 in
theorem refTimes (xs ys : List Nat) (a b n m s ca cb : Nat) (w : World) (hx : RI w a xs) (hy : RI w b ys) (hn : xs.length = n) (hm : ys.length = m) (hs : s = n + m) (hxl : n ≤ 1000) (hyl : m ≤ 1000) (dx : dig xs) (dy : dig ys) :
    Calls Tryd.prog 13 #[.slice (some ⟨a, 0, none⟩) n ca, .slice (some ⟨b, 0, none⟩) m cb] w (fun e w' => ∃ g r, e = .returned (.slice (some ⟨g, 0, none⟩) s s) ∧ IB w' g r ∧ r.length = s ∧ dig r ∧ val r = val xs * val ys ∧ Fr noB w w' ∧ w.heap.size ≤ g) := by
  have hal := hx.lt
  have hbl := hy.lt
  have hmk := run_make_ints w s (by omega)
  have hsum2 : ((n : Int) + (m : Int)) = (s : Int) := by omega
  have hI0 : IB (w.alloc (.cells (ints (List.replicate s 0)).toArray 3)) w.heap.size (List.replicate s 0) := Bk.new w _ _
  have hx1 : RI (w.alloc (.cells (ints (List.replicate s 0)).toArray 3)) a xs := hx.alloc _
  have hy1 : RI (w.alloc (.cells (ints (List.replicate s 0)).toArray 3)) b ys := hy.alloc _
  have hf1 : Fr noB w (w.alloc (.cells (ints (List.replicate s 0)).toArray 3)) := (Fr.refl _ _).alloc _
  have hT0 := Tim.start xs ys
  rw [hn, hm, ← hs] at hT0
  generalize w.alloc (.cells (ints (List.replicate s 0)).toArray 3) = w1 at *
  have Hs := Lib.hid hs
  have Hn := Lib.hid hn
  have Hm := Lib.hid hm
  have hsl : s ≤ 2000 := by omega
  clear hs hn hm
  generalize hg : w.heap.size = g at *
  have Hg := Lib.hid hg
  clear hg
  go_enter Tryd.func13, Tryd.ntmps13
  go_wp2_with fail
  go_loopw [20] (fun i wr => ∃ (k : Nat) (out : List Nat), k ≤ n ∧ i = .int .i64 k ∧ Tim xs ys k out ∧ IB wr g out ∧ Fr (fun q => q = g) w1 wr) (fun i _ => n - (intOf i).toNat)
  case atStart => exact ⟨0, _, by omega, rfl, hT0, hI0, Fr.refl _ _⟩
  case round =>
    obtain ⟨i, out, hi, rfl, hT, hI, hfr⟩ := hrel
    by_cases hlt : i < n
    · obtain ⟨x, hxi⟩ : ∃ x, xs[i]? = some x := ⟨xs[i]'(by rw [Hn.out]; exact hlt), List.getElem?_eq_getElem _⟩
      have hxd : x < 65536 := dx x (List.mem_of_getElem? hxi)
      have hxw : RI wr a xs := hx1.keep hfr (by omega)
      have hyw : RI wr b ys := hy1.keep hfr (by omega)
      have hcx := hxw.get i x hxi
      have hlen := hT.len
      rw [Hn.out, Hm.out, ← Hs.out] at hlen
      have hsi : i + m < s := by have := Hs.out; omega
      have Hlen := Lib.hid hlen
      have Hxi := Lib.hid hxi
      have hpl : Hid ((out.take i).length = i) := by unfold Hid; rw [List.length_take]; omega
      have hR0 : Row x (out.take i) (out.drop i) ys 0 0 out := by
        have h := Row.start (x := x) (pre := out.take i) (R0 := out.drop i) (ys := ys) (by rw [List.take_append_drop]; exact hT.dg)
        rw [List.take_append_drop] at h; exact h
      clear hlen hxi
      obtain ⟨wo, rfl⟩ : ∃ wo, wo = wr := ⟨_, rfl⟩
      go_wp2_with fail
      go_loopw [8, 27] (fun c j wq => ∃ (cc k : Nat) (cur : List Nat), k ≤ m ∧ j = .int .i64 k ∧ c = .int .i64 cc ∧ Row x (out.take i) (out.drop i) ys k cc cur ∧ IB wq g cur ∧ Fr (fun q => q = g) w1 wq) (fun _ j _ => m - (intOf j).toNat)
      case atStart => exact ⟨0, 0, _, by omega, rfl, rfl, hR0, hI, hfr⟩
      case round =>
        obtain ⟨cc, j, cur, hj, rfl, rfl, hR, hIc, hfq⟩ := hrel
        have hcl : Hid (cur.length = s) := by
          unfold Hid; rw [hR.length, hpl.out, List.length_drop, Hlen.out]; omega
        by_cases hjl : j < m
        · obtain ⟨y, hyj⟩ : ∃ y, ys[j]? = some y := ⟨ys[j]'(by rw [Hm.out]; exact hjl), List.getElem?_eq_getElem _⟩
          have hyd : y < 65536 := dy y (List.mem_of_getElem? hyj)
          obtain ⟨o, ho⟩ : ∃ o, cur[i + j]? = some o := ⟨cur[i + j]'(by rw [hcl.out]; omega), List.getElem?_eq_getElem _⟩
          obtain ⟨hR2, hol, hxy, hcc⟩ := hR.step (y := y) (o := o) hyj (by rw [hpl.out]; exact ho) hxd hyd
          rw [hpl.out] at hR2
          have hyq : RI wr b ys := hy1.keep hfq (by omega)
          have hcy := hyq.get j y hyj
          obtain ⟨ij, hijq⟩ : ∃ ij, ij = i + j := ⟨_, rfl⟩
          obtain ⟨P, hP⟩ : ∃ P, P = x * y := ⟨_, rfl⟩
          obtain ⟨T, hTq⟩ : ∃ T, T = o + P + cc := ⟨_, rfl⟩
          obtain ⟨R, hRq⟩ : ∃ R, R = T % 65536 := ⟨_, rfl⟩
          obtain ⟨C, hCq⟩ : ∃ C, C = T / 65536 := ⟨_, rfl⟩
          rw [← hijq] at ho hR2
          rw [← hP] at hxy hR2
          rw [← hTq] at hR2
          rw [← hRq, ← hCq] at hR2
          have hco := hIc.get ij o ho
          have hfz := Bk.free hIc ij
          have hset := hIc.set ij R
          have hfs := hfq.setCell (p := ⟨g, ij, none⟩) (fun _ => rfl) (.int .i64 (R : Int))
          have hTl : T ≤ 4295000000 := by omega
          have e1 : (i : Int) + (j : Int) = (ij : Int) := by omega
          have e2 : (x : Int) * (y : Int) = (P : Int) := by rw [hP]; exact (Int.natCast_mul _ _).symm
          have e3 : (o : Int) + (P : Int) + (cc : Int) = (T : Int) := by omega
          have e4 : (T : Int) % 65536 = (R : Int) := by omega
          have e5 : (T : Int) / 65536 = (C : Int) := by omega
          have hRl : R < 65536 := by omega
          have hCl : C ≤ 65536 := by omega
          have hijl : ij < s := by have := Hs.out; omega
          have Hset := Lib.hid hset
          have HR2 := Lib.hid hR2
          have Hfs := Lib.hid hfs
          clear hset hR2 hyj ho hijq hP hTq hRq hCq hfs
          go_wp2_with fail
          exact ⟨⟨C, j + 1, _, by omega, by rw [Int.natCast_add]; rfl, rfl, HR2.out, Hset.out, Hfs.out⟩, by simp only [intOf]; omega⟩
        · obtain rfl : j = m := by omega
          rw [← Hm.out] at hR
          obtain ⟨hz0, hcc, hT2⟩ := hT.step Hxi.out hR
          rw [Hm.out] at hz0 hT2
          obtain ⟨ij, hijq⟩ : ∃ ij, ij = i + j := ⟨_, rfl⟩
          rw [← hijq, Nat.zero_add] at hT2
          rw [← hijq] at hz0
          have hco := hIc.get ij 0 hz0
          have hfz := Bk.free hIc ij
          have hset := hIc.set ij cc
          have hfs := hfq.setCell (p := ⟨g, ij, none⟩) (fun _ => rfl) (.int .i64 (cc : Int))
          have e1 : (i : Int) + (j : Int) = (ij : Int) := by omega
          have hijl : ij < s := by omega
          have Hset := Lib.hid hset
          have HT2 := Lib.hid hT2
          have Hfs := Lib.hid hfs
          clear hset hT2 hz0 hijq hfs hR
          go_wp2_with fail
          exact ⟨⟨i + 1, _, by omega, by rw [Int.natCast_add]; rfl, HT2.out, Hset.out, Hfs.out⟩, by simp only [intOf]; omega⟩
    · obtain rfl : i = n := by omega
      rw [← Hn.out] at hT
      have hv := hT.all
      have hlen := hT.len
      have hdg := hT.dg
      have hfr2 : Fr noB w wr := hf1.trans' hfr fun q hq he => absurd he (by have := Hg.out; omega)
      rw [Hn.out, Hm.out, ← Hs.out] at hlen
      clear hT
      go_wp2_with fail
      go_ret
      exact ⟨g, out, rfl, hI, hlen, hdg, hv, hfr2, Nat.le_refl _⟩

set_option maxRecDepth 20000 in
set_option maxHeartbeats 1000000 in
theorem refAbove (xs ys : List Nat) (a b n m ca cb : Nat) (w : World) (hx : RI w a xs) (hy : RI w b ys) (hn : xs.length = n) (hm : ys.length = m) (hxl : n ≤ 1000) (hmn : m ≤ n) (hn1 : 1 ≤ n) (dx : dig xs) (dy : dig ys) :
    Calls Tryd.prog 14 #[.slice (some ⟨a, 0, none⟩) n ca, .slice (some ⟨b, 0, none⟩) m cb] w (fun e w' => e = .returned (.bool (decide (val ys < val xs))) ∧ Fr noB w w') := by
  have hal := hx.lt
  have hbl := hy.lt
  have Hn := Lib.hid hn
  have Hm := Lib.hid hm
  have hmax : max (n : Int) (m : Int) = (n : Int) := by omega
  clear hn hm
  go_enter Tryd.func14, Tryd.ntmps14
  go_wp2_with fail
  go_loopw [5] (fun i wr => ∃ (k : Nat), k ≤ n ∧ i = .int .i64 ((k : Int) - 1) ∧ xs.drop k = (ext ys n).drop k ∧ Fr noB w wr) (fun i _ => (intOf i + 1).toNat)
  case atStart => exact ⟨n, by omega, rfl, by rw [List.drop_eq_nil_of_le (by rw [Hn.out]; omega), List.drop_eq_nil_of_le (by rw [ext_length (by rw [Hm.out]; exact hmn)]; omega)], Fr.refl _ _⟩
  case round =>
    obtain ⟨k, hk, rfl, hd, hfr⟩ := hrel
    rcases Nat.eq_zero_or_pos k with rfl | hk0
    · have hv : val xs = val ys := by
        rw [List.drop_zero, List.drop_zero] at hd; rw [hd, val_ext]
      have hv2 : decide (val ys < val xs) = false := by rw [hv]; simp
      clear hv hd
      go_wp2_with fail
      go_ret
      exact ⟨congrArg (fun v => Ending.returned (.bool v)) hv2.symm, hfr⟩
    · obtain ⟨i, rfl⟩ : ∃ i, k = i + 1 := ⟨k - 1, by omega⟩
      rw [show ((i + 1 : Nat) : Int) - 1 = (i : Int) by omega]
      have hxw : RI wr a xs := hx.keep hfr id
      have hyw : RI wr b ys := hy.keep hfr id
      obtain ⟨x, hxi⟩ : ∃ x, xs[i]? = some x := ⟨xs[i]'(by rw [Hn.out]; exact hk), List.getElem?_eq_getElem _⟩
      have hxd : x < 65536 := dx x (List.mem_of_getElem? hxi)
      have hcx := hxw.get i x hxi
      have hlen2 : (ext ys n).length = n := ext_length (by rw [Hm.out]; exact hmn)
      have hcmp : ∀ y, (ext ys n)[i]? = some y → (x < y → decide (val ys < val xs) = false) ∧ (y < x → decide (val ys < val xs) = true) := by
        intro y hy
        have hl : xs.length = (ext ys n).length := by rw [Hn.out, hlen2]
        refine ⟨fun h => ?_, fun h => ?_⟩
        · have h1 := val_lt_of_get dx (dig_ext dy n) hl i (by rw [Hn.out]; exact hk) hd x y hxi hy h
          rw [val_ext] at h1; simp; omega
        · have h1 := val_lt_of_get (dig_ext dy n) dx hl.symm i (by rw [hlen2]; exact hk) hd.symm y x hy hxi h
          rw [val_ext] at h1; simp; omega
      have hnext : ∀ y, (ext ys n)[i]? = some y → x = y → xs.drop i = (ext ys n).drop i := by
        intro y hy h; subst h; exact drop_eq_of hxi hy hd
      clear hlen2
      by_cases him : i < m
      · obtain ⟨y, hyi⟩ : ∃ y, ys[i]? = some y := ⟨ys[i]'(by rw [Hm.out]; exact him), List.getElem?_eq_getElem _⟩
        have hyd : y < 65536 := dy y (List.mem_of_getElem? hyi)
        have hcy := hyw.get i y hyi
        have hye : (ext ys n)[i]? = some y := by rw [ext_low (by rw [Hm.out]; exact him)]; exact hyi
        have Hcmp := Lib.hid (hcmp y hye)
        have Hnext := Lib.hid (hnext y hye)
        have Hxi := Lib.hid hxi
        clear hxi hyi hye hcmp hnext
        rcases Nat.lt_trichotomy x y with h | h | h
        · have h1 := Hcmp.out.1 h
          go_wp2_with fail
          go_ret
          exact ⟨congrArg (fun v => Ending.returned (.bool v)) (show decide (y < x) = decide (val ys < val xs) by rw [h1]; simp; omega), hfr⟩
        · have h1 := Hnext.out h
          have h2 := Lib.hid h1
          clear h1
          go_wp2_with fail
          exact ⟨⟨i, by omega, rfl, h2.out, hfr⟩, by simp only [intOf]; omega⟩
        · have h1 := Hcmp.out.2 h
          go_wp2_with fail
          go_ret
          exact ⟨congrArg (fun v => Ending.returned (.bool v)) h1.symm, hfr⟩
      · have hye : (ext ys n)[i]? = some 0 := ext_high (by rw [Hm.out]; omega) (by omega)
        have Hcmp := Lib.hid (hcmp 0 hye)
        have Hnext := Lib.hid (hnext 0 hye)
        have Hxi := Lib.hid hxi
        clear hxi hye hcmp hnext
        rcases Nat.eq_zero_or_pos x with h | h
        · have h1 := Hnext.out h
          have h2 := Lib.hid h1
          clear h1
          subst h
          go_wp2_with fail
          exact ⟨⟨i, by omega, rfl, h2.out, hfr⟩, by simp only [intOf]; omega⟩
        · have h1 := Hcmp.out.2 h
          go_wp2_with fail
          go_ret
          exact ⟨congrArg (fun v => Ending.returned (.bool v)) h1.symm, hfr⟩
end Go.Proofs.YtcbkaiakdhiloaaDoor
