/- Parts of the walk; written by programs, merged. -/
import Derived.Test.YtcbkaiakdhiloabGreatDoorRaf
import Derived.Laws.BitsAll
set_option linter.unusedSimpArgs false
set_option linter.unusedVariables false
set_option maxRecDepth 20000
set_option maxHeartbeats 8000000
namespace Go.Proofs.YtcbkaiakdhiloabGreatDoor
def primeTab : List Nat := [2, 3, 5, 7, 11, 13, 17, 19, 23, 29, 31, 37, 41, 43, 47, 53, 59, 61, 67, 71, 73, 79, 83, 89, 97, 101, 103, 107, 109, 113, 127, 131, 137, 139, 149, 151, 157, 163, 167, 173, 179, 181, 191, 193, 197, 199, 211, 223, 227, 229, 233, 239, 241, 251, 257, 263, 269, 271, 277, 281, 283, 293, 307, 311]
def below (p : Nat) : List Nat := primeTab.filter fun q => decide (q < p)
def primeB (p : Nat) : Bool := (below p).all fun q => p % q != 0
theorem below_step : ∀ p, 2 ≤ p → p < 312 → below (p + 1) = (if primeB p then below p ++ [p] else below p) := by
  have h : ((List.range 312).all fun p => decide (p < 2) || (below (p + 1) == (if primeB p then below p ++ [p] else below p))) = true := by decide +kernel
  intro p h2 h3
  have h1 := List.all_eq_true.1 h p (by simpa using h3)
  simp only [Bool.or_eq_true, decide_eq_true_eq, beq_iff_eq] at h1
  rcases h1 with h1 | h1
  · omega
  · exact h1
theorem below_len : ∀ p, p < 312 → (below p).length < 64 := by
  have h : ((List.range 312).all fun p => decide ((below p).length < 64)) = true := by decide +kernel
  intro p h3
  have h1 := List.all_eq_true.1 h p (by simpa using h3)
  simpa using h1
theorem below_two : below 2 = [] := by decide +kernel
theorem below_all : below 312 = primeTab := by decide +kernel
theorem primeTab_len : primeTab.length = 64 := by decide +kernel
theorem below_le (p : Nat) : ∀ q ∈ below p, 2 ≤ q ∧ q < p := by
  have h : (primeTab.all fun q => decide (2 ≤ q)) = true := by decide +kernel
  intro q hq
  unfold below at hq
  rw [List.mem_filter] at hq
  exact ⟨by simpa using List.all_eq_true.1 h q hq.1, by simpa using hq.2⟩
def rootStep (p pw r bit : Nat) : Nat := if (r + bit) ^ pw ≤ p * 2 ^ (32 * pw) then r + bit else r
def rootK (p pw : Nat) : Nat → Nat
  | 0 => 0
  | k + 1 => rootStep p pw (rootK p pw k) (2 ^ (36 - k))
def rootN (p pw : Nat) : Nat := rootK p pw 37 % 4294967296
theorem rootK_lt (p pw : Nat) : ∀ k, k ≤ 37 → rootK p pw k + 2 ^ (37 - k) ≤ 2 ^ 37
  | 0, _ => by simp [rootK]
  | k + 1, h => by
    have ih := rootK_lt p pw k (by omega)
    have e : (2 : Nat) ^ (37 - k) = 2 ^ (36 - k) + 2 ^ (36 - k) := by rw [show 37 - k = (36 - k) + 1 by omega, Nat.pow_succ]; omega
    rw [show 37 - (k + 1) = 36 - k by omega]
    simp only [rootK, rootStep]
    generalize 2 ^ (36 - k) = c at *
    split <;> omega
theorem kTab_roots : primeTab.map (fun p => rootN p 3) = kTab.map UInt32.toNat := by decide +kernel
theorem hTab_roots : (primeTab.take 8).map (fun p => rootN p 2) = h0.list.map UInt32.toNat := by decide +kernel
def val : List Nat → Nat
  | [] => 0
  | d :: r => d + 65536 * val r
def addMul (x : Nat) : List Nat → List Nat → Nat → List Nat
  | o :: os, y :: ys, c => (o + x * y + c) % 65536 :: addMul x os ys ((o + x * y + c) / 65536)
  | o :: os, [], c => (o + c) :: os
  | [], _, _ => []
theorem addMul_val (x : Nat) : ∀ (os ys : List Nat) (c : Nat), ys.length < os.length → val (addMul x os ys c) = val os + x * val ys + c
  | o :: os, y :: ys, c, h => by
    simp only [addMul, val]
    rw [addMul_val x os ys _ (by simpa using h)]
    have e1 : x * (y + 65536 * val ys) = x * y + 65536 * (x * val ys) := by rw [Nat.mul_add, Nat.mul_left_comm]
    rw [e1]
    omega
  | o :: os, [], c, h => by simp [addMul, val]; omega
  | [], _, _, h => by simp at h
def dig (l : List Nat) : Prop := ∀ d ∈ l, d < 65536
theorem val_lt : ∀ l : List Nat, dig l → val l < 65536 ^ l.length
  | [], _ => by simp [val]
  | d :: r, h => by
    have h1 := val_lt r (fun x hx => h x (by simp [hx]))
    have h2 := h d (by simp)
    rw [List.length_cons, Nat.pow_succ, val]; omega
theorem val_append : ∀ a b : List Nat, val (a ++ b) = val a + 65536 ^ a.length * val b
  | [], b => by simp [val]
  | d :: r, b => by
    rw [List.cons_append, val, val, val_append r b, List.length_cons, Nat.pow_succ, Nat.mul_add, Nat.mul_comm (65536 ^ r.length) 65536, Nat.mul_assoc]
    omega
def Row (x : Nat) (pre R0 ys : List Nat) (j c : Nat) (cur : List Nat) : Prop :=
  ∃ done, done.length = j ∧ cur = pre ++ (done ++ R0.drop j) ∧ addMul x R0 ys 0 = done ++ addMul x (R0.drop j) (ys.drop j) c ∧ j ≤ R0.length ∧ c < 65536 ∧ dig cur
theorem Row.start {x : Nat} {pre R0 ys : List Nat} (h : dig (pre ++ R0)) : Row x pre R0 ys 0 0 (pre ++ R0) := ⟨[], rfl, rfl, rfl, by omega, by omega, h⟩
theorem dig_set {l : List Nat} (h : dig l) (k v : Nat) (hv : v < 65536) : dig (l.set k v) := by
  intro d hd
  rcases List.mem_or_eq_of_mem_set hd with h1 | h1
  · exact h d h1
  · omega
theorem Row.get {x : Nat} {pre R0 ys cur : List Nat} {j c : Nat} (h : Row x pre R0 ys j c cur) (k : Nat) (hk : j ≤ k) : cur[pre.length + k]? = R0[k]? := by
  obtain ⟨done, hd, rfl, he, hr, hc, hdig⟩ := h
  rw [List.getElem?_append_right (by omega), List.getElem?_append_right (by omega), List.getElem?_drop]
  congr 1; omega
theorem Row.length {x : Nat} {pre R0 ys cur : List Nat} {j c : Nat} (h : Row x pre R0 ys j c cur) : cur.length = pre.length + R0.length := by
  obtain ⟨done, hd, rfl, he, hr, hc, hdig⟩ := h
  simp [hd]; omega
theorem Row.step {x : Nat} {pre R0 ys cur : List Nat} {j c y o : Nat} (h : Row x pre R0 ys j c cur) (hy : ys[j]? = some y) (ho : cur[pre.length + j]? = some o) (hx : x < 65536) (hyl : y < 65536) :
    Row x pre R0 ys (j + 1) ((o + x * y + c) / 65536) (cur.set (pre.length + j) ((o + x * y + c) % 65536)) ∧ o < 65536 ∧ x * y ≤ 4294836225 ∧ c < 65536 := by
  have hg := h.get j (Nat.le_refl _)
  rw [ho] at hg
  obtain ⟨done, hd, rfl, he, hr, hc, hdig⟩ := h
  have hj : j < ys.length := by
    rcases Nat.lt_or_ge j ys.length with h | h
    · exact h
    · rw [List.getElem?_eq_none h] at hy; cases hy
  have hjr : j < R0.length := by
    rcases Nat.lt_or_ge j R0.length with h | h
    · exact h
    · rw [List.getElem?_eq_none h] at hg; cases hg
  have e1 : R0.drop j = o :: R0.drop (j + 1) := by
    rw [List.drop_eq_getElem_cons hjr]
    rw [List.getElem?_eq_getElem hjr] at hg
    injection hg with hg
    rw [hg]
  have e2 : ys.drop j = y :: ys.drop (j + 1) := by
    rw [List.drop_eq_getElem_cons hj]
    rw [List.getElem?_eq_getElem hj] at hy
    injection hy with hy
    rw [hy]
  have hol : o < 65536 := by
    apply hdig
    rw [e1]; simp
  have hxy : x * y ≤ 65535 * 65535 := Nat.mul_le_mul (by omega) (by omega)
  refine ⟨⟨done ++ [(o + x * y + c) % 65536], by simp [hd], ?_, ?_, by omega, by omega, dig_set hdig _ _ (by omega)⟩, hol, by omega, hc⟩
  · rw [List.set_append_right _ _ (by omega), List.set_append_right _ _ (by omega), show pre.length + j - pre.length - done.length = 0 by omega, e1]
    simp
  · rw [he, e1, e2]
    simp [addMul]
theorem Row.fin {x : Nat} {pre R0 ys cur : List Nat} {c o : Nat} (h : Row x pre R0 ys ys.length c cur) (ho : cur[pre.length + ys.length]? = some o) :
    cur.set (pre.length + ys.length) (o + c) = pre ++ addMul x R0 ys 0 := by
  have hg := h.get ys.length (Nat.le_refl _)
  rw [ho] at hg
  obtain ⟨done, hd, rfl, he, hr, hc, hdig⟩ := h
  have hjr : ys.length < R0.length := by
    rcases Nat.lt_or_ge ys.length R0.length with h | h
    · exact h
    · rw [List.getElem?_eq_none h] at hg; cases hg
  have e1 : R0.drop ys.length = o :: R0.drop (ys.length + 1) := by
    rw [List.drop_eq_getElem_cons hjr]
    rw [List.getElem?_eq_getElem hjr] at hg
    injection hg with hg
    rw [hg]
  rw [he, List.drop_length, List.set_append_right _ _ (by omega), List.set_append_right _ _ (by omega), show pre.length + ys.length - pre.length - done.length = 0 by omega, e1]
  simp [addMul]
structure Tim (xs ys : List Nat) (i : Nat) (out : List Nat) : Prop where
  len : out.length = xs.length + ys.length
  dg : dig out
  vl : val out = val (xs.take i) * val ys
  zr : ∀ k, i + ys.length ≤ k → k < out.length → out[k]? = some 0
theorem Tim.start (xs ys : List Nat) : Tim xs ys 0 (List.replicate (xs.length + ys.length) 0) := by
  refine ⟨by simp, ?_, ?_, ?_⟩
  · intro d hd; simp at hd; omega
  · have h : ∀ n, val (List.replicate n 0) = 0 := by intro n; induction n with | zero => rfl | succ n ih => simp [List.replicate_succ, val, ih]
    rw [h]; simp [val]
  · intro k _ hk; simp at hk; simp [hk]
theorem val_take_succ (xs : List Nat) (i x : Nat) (hx : xs[i]? = some x) : val (xs.take (i + 1)) = val (xs.take i) + 65536 ^ i * x := by
  have hi : i < xs.length := by
    rcases Nat.lt_or_ge i xs.length with h | h
    · exact h
    · rw [List.getElem?_eq_none h] at hx; cases hx
  have hxe : xs[i] = x := by rw [List.getElem?_eq_getElem hi] at hx; injection hx
  rw [List.take_succ_eq_append_getElem hi, val_append, hxe, List.length_take, Nat.min_eq_left (by omega)]
  simp [val]
theorem Tim.step {xs ys out cur : List Nat} {i x c : Nat} (h : Tim xs ys i out) (hx : xs[i]? = some x) (hr : Row x (out.take i) (out.drop i) ys ys.length c cur) :
    cur[i + ys.length]? = some 0 ∧ c < 65536 ∧ Tim xs ys (i + 1) (cur.set (i + ys.length) (0 + c)) := by
  have hi : i < xs.length := by
    rcases Nat.lt_or_ge i xs.length with h | h
    · exact h
    · rw [List.getElem?_eq_none h] at hx; cases hx
  have hlen := h.len
  have hpl : (out.take i).length = i := by rw [List.length_take]; omega
  have hcl := hr.length
  rw [hpl, List.length_drop] at hcl
  have hg := hr.get ys.length (Nat.le_refl _)
  rw [hpl, List.getElem?_drop, h.zr (i + ys.length) (Nat.le_refl _) (by omega)] at hg
  have hf := hr.fin (o := 0) (by rw [hpl]; exact hg)
  rw [hpl] at hf
  have hc : c < 65536 := by obtain ⟨_, _, _, _, _, hc, _⟩ := hr; exact hc
  have hdc : dig cur := by obtain ⟨_, _, _, _, _, _, hd⟩ := hr; exact hd
  refine ⟨hg, hc, ⟨by rw [List.length_set]; omega, dig_set hdc _ _ (by omega), ?_, ?_⟩⟩
  · rw [hf, val_append, hpl, addMul_val x _ _ _ (by rw [List.length_drop]; omega), val_take_succ xs i x hx, Nat.add_mul, ← h.vl]
    have e2 : val out = val (out.take i) + 65536 ^ i * val (out.drop i) := by
      conv => lhs; rw [← List.take_append_drop i out]
      rw [val_append, hpl]
    rw [e2, Nat.mul_add, Nat.mul_add, Nat.mul_zero, Nat.add_zero, Nat.add_assoc, Nat.mul_assoc]
  · intro k hk1 hk2
    rw [List.length_set] at hk2
    rw [List.getElem?_set_ne (by omega)]
    have h1 := hr.get (k - i) (by omega)
    rw [hpl, show i + (k - i) = k by omega, List.getElem?_drop, show i + (k - i) = k by omega] at h1
    rw [h1]
    exact h.zr k (by omega) (by omega)
theorem Tim.all {xs ys out : List Nat} (h : Tim xs ys xs.length out) : val out = val xs * val ys := by rw [h.vl, List.take_length]
theorem val_lt_of_get {a b : List Nat} (ha : dig a) (hb : dig b) (hl : a.length = b.length) : ∀ k, k < a.length → a.drop (k + 1) = b.drop (k + 1) → ∀ x y, a[k]? = some x → b[k]? = some y → x < y → val a < val b := by
  intro k hk hd x y hx hy hxy
  have hxe : a[k] = x := by rw [List.getElem?_eq_getElem hk] at hx; injection hx
  have hye : b[k] = y := by rw [List.getElem?_eq_getElem (by omega)] at hy; injection hy
  have e1 : val a = val (a.take k) + 65536 ^ k * (x + 65536 * val (a.drop (k + 1))) := by
    conv => lhs; rw [← List.take_append_drop k a]
    rw [val_append, List.length_take, Nat.min_eq_left (by omega), List.drop_eq_getElem_cons hk, val, hxe]
  have e2 : val b = val (b.take k) + 65536 ^ k * (y + 65536 * val (a.drop (k + 1))) := by
    conv => lhs; rw [← List.take_append_drop k b]
    rw [val_append, List.length_take, Nat.min_eq_left (by omega), List.drop_eq_getElem_cons (by omega), val, hye, hd]
  have h1 := val_lt (a.take k) (fun d hd' => ha d (List.mem_of_mem_take hd'))
  rw [List.length_take, Nat.min_eq_left (by omega)] at h1
  rw [e1, e2]
  generalize val (a.drop (k + 1)) = z at *
  have h2 : 65536 ^ k * (x + 65536 * z) + 65536 ^ k ≤ 65536 ^ k * (y + 65536 * z) := by
    rw [← Nat.mul_succ]
    exact Nat.mul_le_mul_left _ (by omega)
  omega
def ext (l : List Nat) (n : Nat) : List Nat := l ++ List.replicate (n - l.length) 0
theorem val_zeros : ∀ n, val (List.replicate n 0) = 0
  | 0 => rfl
  | n + 1 => by simp [List.replicate_succ, val, val_zeros n]
theorem val_ext (l : List Nat) (n : Nat) : val (ext l n) = val l := by simp [ext, val_append, val_zeros]
theorem dig_ext {l : List Nat} (h : dig l) (n : Nat) : dig (ext l n) := by
  intro d hd
  rw [ext, List.mem_append] at hd
  rcases hd with h1 | h1
  · exact h d h1
  · have := (List.mem_replicate.1 h1).2; omega
theorem ext_length {l : List Nat} {n : Nat} (h : l.length ≤ n) : (ext l n).length = n := by simp [ext]; omega
theorem ext_low {l : List Nat} {n k : Nat} (h : k < l.length) : (ext l n)[k]? = l[k]? := by rw [ext, List.getElem?_append_left h]
theorem ext_high {l : List Nat} {n k : Nat} (h : l.length ≤ k) (hk : k < n) : (ext l n)[k]? = some 0 := by
  rw [ext, List.getElem?_append_right h, List.getElem?_replicate]; simp; omega
theorem drop_eq_of {a b : List Nat} {k x : Nat} (ha : a[k]? = some x) (hb : b[k]? = some x) (h : a.drop (k + 1) = b.drop (k + 1)) : a.drop k = b.drop k := by
  have hka : k < a.length := by
    rcases Nat.lt_or_ge k a.length with h | h
    · exact h
    · rw [List.getElem?_eq_none h] at ha; cases ha
  have hkb : k < b.length := by
    rcases Nat.lt_or_ge k b.length with h | h
    · exact h
    · rw [List.getElem?_eq_none h] at hb; cases hb
  rw [List.drop_eq_getElem_cons hka, List.drop_eq_getElem_cons hkb, h]
  rw [List.getElem?_eq_getElem hka] at ha; rw [List.getElem?_eq_getElem hkb] at hb
  injection ha with ha; injection hb with hb
  rw [ha, hb]
end Go.Proofs.YtcbkaiakdhiloabGreatDoor
namespace Go.Proofs.YtcbkaiakdhiloabGreatDoor
open Go.RowKit Go.Proofs
def ints (l : List Nat) : List Value := l.map fun (x : Nat) => Value.int .i64 (x : Int)
theorem ints_get (l : List Nat) (k x : Nat) (h : l[k]? = some x) : (ints l)[k]? = some (.int .i64 (x : Int)) := by simp [ints, h]
theorem ints_set (l : List Nat) (k x : Nat) : ((ints l).toArray).setIfInBounds k (.int .i64 (x : Int)) = (ints (l.set k x)).toArray := by
  simp [ints, List.map_set]
theorem int_info : (Tryz.prog.info? 3).map (fun i => (i.zero, i.size, i.bytes)) = some (some (.int .i64 0), 1, 8) := by kernel_rfl
theorem run_make_ints (w : World) (n : Nat) (hn : n ≤ 1000000) :
    (Instr.makeSlice 165 (.int .i64 (n : Int)) (.int .i64 (n : Int))).run Tryz.prog w = .ok (.slice (some ⟨w.heap.size, 0, none⟩) n n) (w.alloc (.cells (ints (List.replicate n 0)).toArray 3)) := by
  obtain ⟨i, hi, hz, hs, hb⟩ := info_parts int_info
  have h := run_make (P := Tryz.prog) (w := w) 165 3 i _ Tryz.underlying165 hi hz .i64 .i64 (n : Int) (n : Int) (by omega) (by omega) (by rw [hb]; omega) (by omega)
  rw [h, Int.toNat_natCast, hs, Nat.mul_one]
  congr 3
  apply Array.ext'
  rw [show (Value.int IntKind.i64 0).cells = #[Value.int IntKind.i64 0] from rfl, toList_madeCells_one]
  simp [ints]
def IB (w : World) (g : Nat) (l : List Nat) : Prop := Bk w g 3 (ints l).toArray
theorem IB.get {w : World} {g : Nat} {l : List Nat} (h : IB w g l) (k x : Nat) (hx : l[k]? = some x) : w.cell? ⟨g, k, none⟩ = some (.int .i64 (x : Int)) := by
  have h1 := Bk.cell h k
  rw [h1]; simpa using ints_get l k x hx
theorem IB.set {w : World} {g : Nat} {l : List Nat} (h : IB w g l) (k x : Nat) : IB (w.setCell ⟨g, k, none⟩ (.int .i64 (x : Int))) g (l.set k x) := by
  have h1 := Bk.set h k (.int .i64 (x : Int))
  rw [ints_set] at h1; exact h1
def RI (w : World) (g : Nat) (l : List Nat) : Prop := g < w.heap.size ∧ ∀ (k x : Nat), l[k]? = some x → w.cell? ⟨g, k, none⟩ = some (.int .i64 (x : Int))
theorem IB.ri {w : World} {g : Nat} {l : List Nat} (h : IB w g l) : RI w g l := ⟨Bk.lt h, fun k x hx => h.get k x hx⟩
theorem RI.lt {w : World} {g : Nat} {l : List Nat} (h : RI w g l) : g < w.heap.size := h.1
theorem RI.get {w : World} {g : Nat} {l : List Nat} (h : RI w g l) (k x : Nat) (hx : l[k]? = some x) : w.cell? ⟨g, k, none⟩ = some (.int .i64 (x : Int)) := h.2 k x hx
theorem RI.keep {S : Nat → Prop} {w w' : World} {g : Nat} {l : List Nat} (h : RI w g l) (hf : Fr S w w') (hg : ¬ S g) : RI w' g l :=
  ⟨Nat.lt_of_lt_of_le h.1 hf.size, fun k x hx => (hf.cell (a := ⟨g, k, none⟩) h.1 hg).trans (h.2 k x hx)⟩
theorem RI.alloc {w : World} {g : Nat} {l : List Nat} (h : RI w g l) (o : Obj) : RI (w.alloc o) g l := h.keep ((Fr.refl noB w).alloc o) id
theorem refTimes (xs ys : List Nat) (a b n m s ca cb : Nat) (w : World) (hx : RI w a xs) (hy : RI w b ys) (hn : xs.length = n) (hm : ys.length = m) (hs : s = n + m) (hxl : n ≤ 1000) (hyl : m ≤ 1000) (dx : dig xs) (dy : dig ys) :
    Calls Tryz.prog 141 #[.slice (some ⟨a, 0, none⟩) n ca, .slice (some ⟨b, 0, none⟩) m cb] w (fun e w' => ∃ g r, e = .returned (.slice (some ⟨g, 0, none⟩) s s) ∧ IB w' g r ∧ r.length = s ∧ dig r ∧ val r = val xs * val ys ∧ Fr noB w w' ∧ w.heap.size ≤ g) := by
  have hal := hx.lt
  have hbl := hy.lt
  have hmk := run_make_ints w s (by omega)
  have hsum2 : ((n : Int) + (m : Int)) = (s : Int) := by omega
  have hI0 : IB (w.alloc (.cells (ints (List.replicate s 0)).toArray 3)) w.heap.size (List.replicate s 0) := Bk.new w _ _
  have hx1 : RI (w.alloc (.cells (ints (List.replicate s 0)).toArray 3)) a xs := hx.alloc _
  have hy1 : RI (w.alloc (.cells (ints (List.replicate s 0)).toArray 3)) b ys := hy.alloc _
  have hf1 : Fr noB w (w.alloc (.cells (ints (List.replicate s 0)).toArray 3)) := (Fr.refl _ _).alloc _
  have hT0 := Tim.start xs ys
  rw [hn, hm, ← hs] at hT0
  generalize w.alloc (.cells (ints (List.replicate s 0)).toArray 3) = w1 at *
  have Hs := Lib.hid hs
  have Hn := Lib.hid hn
  have Hm := Lib.hid hm
  have hsl : s ≤ 2000 := by omega
  clear hs hn hm
  generalize hg : w.heap.size = g at *
  have Hg := Lib.hid hg
  clear hg
  go_enter Tryz.func141, Tryz.ntmps141
  go_wp2_with fail
  go_loopw [20] (fun i wr => ∃ (k : Nat) (out : List Nat), k ≤ n ∧ i = .int .i64 k ∧ Tim xs ys k out ∧ IB wr g out ∧ Fr (fun q => q = g) w1 wr) (fun i _ => n - (intOf i).toNat)
  case atStart => exact ⟨0, _, by omega, rfl, hT0, hI0, Fr.refl _ _⟩
  case round =>
    obtain ⟨i, out, hi, rfl, hT, hI, hfr⟩ := hrel
    by_cases hlt : i < n
    · obtain ⟨x, hxi⟩ : ∃ x, xs[i]? = some x := ⟨xs[i]'(by rw [Hn.out]; exact hlt), List.getElem?_eq_getElem _⟩
      have hxd : x < 65536 := dx x (List.mem_of_getElem? hxi)
      have hxw : RI wr a xs := hx1.keep hfr (by omega)
      have hyw : RI wr b ys := hy1.keep hfr (by omega)
      have hcx := hxw.get i x hxi
      have hlen := hT.len
      rw [Hn.out, Hm.out, ← Hs.out] at hlen
      have hsi : i + m < s := by have := Hs.out; omega
      have Hlen := Lib.hid hlen
      have Hxi := Lib.hid hxi
      have hpl : Hid ((out.take i).length = i) := by unfold Hid; rw [List.length_take]; omega
      have hR0 : Row x (out.take i) (out.drop i) ys 0 0 out := by
        have h := Row.start (x := x) (pre := out.take i) (R0 := out.drop i) (ys := ys) (by rw [List.take_append_drop]; exact hT.dg)
        rw [List.take_append_drop] at h; exact h
      clear hlen hxi
      obtain ⟨wo, rfl⟩ : ∃ wo, wo = wr := ⟨_, rfl⟩
      go_wp2_with fail
      go_loopw [8, 27] (fun c j wq => ∃ (cc k : Nat) (cur : List Nat), k ≤ m ∧ j = .int .i64 k ∧ c = .int .i64 cc ∧ Row x (out.take i) (out.drop i) ys k cc cur ∧ IB wq g cur ∧ Fr (fun q => q = g) w1 wq) (fun _ j _ => m - (intOf j).toNat)
      case atStart => exact ⟨0, 0, _, by omega, rfl, rfl, hR0, hI, hfr⟩
      case round =>
        obtain ⟨cc, j, cur, hj, rfl, rfl, hR, hIc, hfq⟩ := hrel
        have hcl : Hid (cur.length = s) := by
          unfold Hid; rw [hR.length, hpl.out, List.length_drop, Hlen.out]; omega
        by_cases hjl : j < m
        · obtain ⟨y, hyj⟩ : ∃ y, ys[j]? = some y := ⟨ys[j]'(by rw [Hm.out]; exact hjl), List.getElem?_eq_getElem _⟩
          have hyd : y < 65536 := dy y (List.mem_of_getElem? hyj)
          obtain ⟨o, ho⟩ : ∃ o, cur[i + j]? = some o := ⟨cur[i + j]'(by rw [hcl.out]; omega), List.getElem?_eq_getElem _⟩
          obtain ⟨hR2, hol, hxy, hcc⟩ := hR.step (y := y) (o := o) hyj (by rw [hpl.out]; exact ho) hxd hyd
          rw [hpl.out] at hR2
          have hyq : RI wr b ys := hy1.keep hfq (by omega)
          have hcy := hyq.get j y hyj
          obtain ⟨ij, hijq⟩ : ∃ ij, ij = i + j := ⟨_, rfl⟩
          obtain ⟨P, hP⟩ : ∃ P, P = x * y := ⟨_, rfl⟩
          obtain ⟨T, hTq⟩ : ∃ T, T = o + P + cc := ⟨_, rfl⟩
          obtain ⟨R, hRq⟩ : ∃ R, R = T % 65536 := ⟨_, rfl⟩
          obtain ⟨C, hCq⟩ : ∃ C, C = T / 65536 := ⟨_, rfl⟩
          rw [← hijq] at ho hR2
          rw [← hP] at hxy hR2
          rw [← hTq] at hR2
          rw [← hRq, ← hCq] at hR2
          have hco := hIc.get ij o ho
          have hfz := Bk.free hIc ij
          have hset := hIc.set ij R
          have hfs := hfq.setCell (p := ⟨g, ij, none⟩) (fun _ => rfl) (.int .i64 (R : Int))
          have hTl : T ≤ 4295000000 := by omega
          have e1 : (i : Int) + (j : Int) = (ij : Int) := by omega
          have e2 : (x : Int) * (y : Int) = (P : Int) := by rw [hP]; exact (Int.natCast_mul _ _).symm
          have e3 : (o : Int) + (P : Int) + (cc : Int) = (T : Int) := by omega
          have e4 : (T : Int) % 65536 = (R : Int) := by omega
          have e5 : (T : Int) / 65536 = (C : Int) := by omega
          have hRl : R < 65536 := by omega
          have hCl : C ≤ 65536 := by omega
          have hijl : ij < s := by have := Hs.out; omega
          have Hset := Lib.hid hset
          have HR2 := Lib.hid hR2
          have Hfs := Lib.hid hfs
          clear hset hR2 hyj ho hijq hP hTq hRq hCq hfs
          go_wp2_with fail
          exact ⟨⟨C, j + 1, _, by omega, by rw [Int.natCast_add]; rfl, rfl, HR2.out, Hset.out, Hfs.out⟩, by simp only [intOf]; omega⟩
        · obtain rfl : j = m := by omega
          rw [← Hm.out] at hR
          obtain ⟨hz0, hcc, hT2⟩ := hT.step Hxi.out hR
          rw [Hm.out] at hz0 hT2
          obtain ⟨ij, hijq⟩ : ∃ ij, ij = i + j := ⟨_, rfl⟩
          rw [← hijq, Nat.zero_add] at hT2
          rw [← hijq] at hz0
          have hco := hIc.get ij 0 hz0
          have hfz := Bk.free hIc ij
          have hset := hIc.set ij cc
          have hfs := hfq.setCell (p := ⟨g, ij, none⟩) (fun _ => rfl) (.int .i64 (cc : Int))
          have e1 : (i : Int) + (j : Int) = (ij : Int) := by omega
          have hijl : ij < s := by omega
          have Hset := Lib.hid hset
          have HT2 := Lib.hid hT2
          have Hfs := Lib.hid hfs
          clear hset hT2 hz0 hijq hfs hR
          go_wp2_with fail
          exact ⟨⟨i + 1, _, by omega, by rw [Int.natCast_add]; rfl, HT2.out, Hset.out, Hfs.out⟩, by simp only [intOf]; omega⟩
    · obtain rfl : i = n := by omega
      rw [← Hn.out] at hT
      have hv := hT.all
      have hlen := hT.len
      have hdg := hT.dg
      have hfr2 : Fr noB w wr := hf1.trans' hfr fun q hq he => absurd he (by have := Hg.out; omega)
      rw [Hn.out, Hm.out, ← Hs.out] at hlen
      clear hT
      go_wp2_with fail
      go_ret
      exact ⟨g, out, rfl, hI, hlen, hdg, hv, hfr2, Nat.le_refl _⟩
theorem refAbove (xs ys : List Nat) (a b n m ca cb : Nat) (w : World) (hx : RI w a xs) (hy : RI w b ys) (hn : xs.length = n) (hm : ys.length = m) (hxl : n ≤ 1000) (hmn : m ≤ n) (hn1 : 1 ≤ n) (dx : dig xs) (dy : dig ys) :
    Calls Tryz.prog 142 #[.slice (some ⟨a, 0, none⟩) n ca, .slice (some ⟨b, 0, none⟩) m cb] w (fun e w' => e = .returned (.bool (decide (val ys < val xs))) ∧ Fr noB w w') := by
  have hal := hx.lt
  have hbl := hy.lt
  have Hn := Lib.hid hn
  have Hm := Lib.hid hm
  have hmax : max (n : Int) (m : Int) = (n : Int) := by omega
  clear hn hm
  go_enter Tryz.func142, Tryz.ntmps142
  go_wp2_with fail
  go_loopw [5] (fun i wr => ∃ (k : Nat), k ≤ n ∧ i = .int .i64 ((k : Int) - 1) ∧ xs.drop k = (ext ys n).drop k ∧ Fr noB w wr) (fun i _ => (intOf i + 1).toNat)
  case atStart => exact ⟨n, by omega, rfl, by rw [List.drop_eq_nil_of_le (by rw [Hn.out]; omega), List.drop_eq_nil_of_le (by rw [ext_length (by rw [Hm.out]; exact hmn)]; omega)], Fr.refl _ _⟩
  case round =>
    obtain ⟨k, hk, rfl, hd, hfr⟩ := hrel
    rcases Nat.eq_zero_or_pos k with rfl | hk0
    · have hv : val xs = val ys := by
        rw [List.drop_zero, List.drop_zero] at hd; rw [hd, val_ext]
      have hv2 : decide (val ys < val xs) = false := by rw [hv]; simp
      clear hv hd
      go_wp2_with fail
      go_ret
      exact ⟨congrArg (fun v => Ending.returned (.bool v)) hv2.symm, hfr⟩
    · obtain ⟨i, rfl⟩ : ∃ i, k = i + 1 := ⟨k - 1, by omega⟩
      rw [show ((i + 1 : Nat) : Int) - 1 = (i : Int) by omega]
      have hxw : RI wr a xs := hx.keep hfr id
      have hyw : RI wr b ys := hy.keep hfr id
      obtain ⟨x, hxi⟩ : ∃ x, xs[i]? = some x := ⟨xs[i]'(by rw [Hn.out]; exact hk), List.getElem?_eq_getElem _⟩
      have hxd : x < 65536 := dx x (List.mem_of_getElem? hxi)
      have hcx := hxw.get i x hxi
      have hlen2 : (ext ys n).length = n := ext_length (by rw [Hm.out]; exact hmn)
      have hcmp : ∀ y, (ext ys n)[i]? = some y → (x < y → decide (val ys < val xs) = false) ∧ (y < x → decide (val ys < val xs) = true) := by
        intro y hy
        have hl : xs.length = (ext ys n).length := by rw [Hn.out, hlen2]
        refine ⟨fun h => ?_, fun h => ?_⟩
        · have h1 := val_lt_of_get dx (dig_ext dy n) hl i (by rw [Hn.out]; exact hk) hd x y hxi hy h
          rw [val_ext] at h1; simp; omega
        · have h1 := val_lt_of_get (dig_ext dy n) dx hl.symm i (by rw [hlen2]; exact hk) hd.symm y x hy hxi h
          rw [val_ext] at h1; simp; omega
      have hnext : ∀ y, (ext ys n)[i]? = some y → x = y → xs.drop i = (ext ys n).drop i := by
        intro y hy h; subst h; exact drop_eq_of hxi hy hd
      clear hlen2
      by_cases him : i < m
      · obtain ⟨y, hyi⟩ : ∃ y, ys[i]? = some y := ⟨ys[i]'(by rw [Hm.out]; exact him), List.getElem?_eq_getElem _⟩
        have hyd : y < 65536 := dy y (List.mem_of_getElem? hyi)
        have hcy := hyw.get i y hyi
        have hye : (ext ys n)[i]? = some y := by rw [ext_low (by rw [Hm.out]; exact him)]; exact hyi
        have Hcmp := Lib.hid (hcmp y hye)
        have Hnext := Lib.hid (hnext y hye)
        have Hxi := Lib.hid hxi
        clear hxi hyi hye hcmp hnext
        rcases Nat.lt_trichotomy x y with h | h | h
        · have h1 := Hcmp.out.1 h
          go_wp2_with fail
          go_ret
          exact ⟨congrArg (fun v => Ending.returned (.bool v)) (show decide (y < x) = decide (val ys < val xs) by rw [h1]; simp; omega), hfr⟩
        · have h1 := Hnext.out h
          have h2 := Lib.hid h1
          clear h1
          go_wp2_with fail
          exact ⟨⟨i, by omega, rfl, h2.out, hfr⟩, by simp only [intOf]; omega⟩
        · have h1 := Hcmp.out.2 h
          go_wp2_with fail
          go_ret
          exact ⟨congrArg (fun v => Ending.returned (.bool v)) h1.symm, hfr⟩
      · have hye : (ext ys n)[i]? = some 0 := ext_high (by rw [Hm.out]; omega) (by omega)
        have Hcmp := Lib.hid (hcmp 0 hye)
        have Hnext := Lib.hid (hnext 0 hye)
        have Hxi := Lib.hid hxi
        clear hxi hye hcmp hnext
        rcases Nat.eq_zero_or_pos x with h | h
        · have h1 := Hnext.out h
          have h2 := Lib.hid h1
          clear h1
          subst h
          go_wp2_with fail
          exact ⟨⟨i, by omega, rfl, h2.out, hfr⟩, by simp only [intOf]; omega⟩
        · have h1 := Hcmp.out.2 h
          go_wp2_with fail
          go_ret
          exact ⟨congrArg (fun v => Ending.returned (.bool v)) h1.symm, hfr⟩
end Go.Proofs.YtcbkaiakdhiloabGreatDoor
namespace Go.Proofs.YtcbkaiakdhiloabGreatDoor
open Go.RowKit Go.Proofs
def OI (w : World) (base : Nat) (v : Value) (l : List Nat) : Prop := w.ownsRow base 3 1 v l.length (ints l)
theorem OI.nil (w : World) (base : Nat) : OI w base (.slice none 0 0) [] := World.ownsRow_nil w base _ _
theorem OI.form {w : World} {base : Nat} {v : Value} {l : List Nat} (h : OI w base v l) (hl : 0 < l.length) : ∃ g cap, v = .slice (some ⟨g, 0, none⟩) l.length cap ∧ RI w g l ∧ base ≤ g := by
  rcases h.2 with ⟨_, hn⟩ | ⟨g, cap, cur, rfl, hb, hg, hnc, _, hcs, htk⟩
  · omega
  · refine ⟨g, cap, rfl, ⟨Bk.lt (t := 3) (cs := cur) hg, fun k x hx => ?_⟩, hb⟩
    have hkl : k < l.length := by
      rcases Nat.lt_or_ge k l.length with h | h
      · exact h
      · rw [List.getElem?_eq_none h] at hx; cases hx
    rw [Bk.cell (t := 3) (cs := cur) hg k]
    have h1 : (cur.toList.take (l.length * 1))[k]? = some (.int .i64 (x : Int)) := by rw [htk]; exact ints_get l k x hx
    rw [List.getElem?_take, if_pos (by omega)] at h1
    simpa using h1
theorem ints_append (a b : List Nat) : ints (a ++ b) = ints a ++ ints b := by simp [ints]
theorem ints_one (l : List Nat) : ∀ u ∈ ints l, u.oneCell' = true := by
  intro u hu; simp only [ints, List.mem_map] at hu; obtain ⟨b, _, rfl⟩ := hu; rfl
theorem run_app_int' (w : World) (base x g : Nat) (v : Value) (l : List Nat) (h : OI w base v l) (hg : IB w g [x]) (hb : base ≤ w.heap.size) (hl : l.length < 1000000) :
    ∃ v' w', (Builtin.append_ #[165, 165] 165 #[v, .slice (some ⟨g, 0, none⟩) 1 1]).run Tryz.prog w = .ok v' w' ∧
      OI w' base v' (l ++ [x]) ∧ w.grownBy w' v.ownBlock ∧ (v'.ownBlock = v.ownBlock ∨ v'.ownBlock = some w.heap.size) := by
  obtain ⟨i, hi, hz, hs, hbb⟩ := info_parts int_info
  obtain ⟨v', w', h1, h2, h3, h4⟩ := run_app (P := Tryz.prog) w base 165 165 3 i _ 1 8 Tryz.underlying165 hi hz hs hbb rfl (by omega) v l.length (ints l) h
    noB (some ⟨g, 0, none⟩) 1 1 (ints [x]) (SlR.of_bk hg (fun h => h) rfl) (ints_one _) (by simp only [maxLen]; omega) (by omega) hb
  refine ⟨v', w', h1, ?_, h3, h4⟩
  unfold OI; rw [List.length_append, List.length_singleton, ints_append]; exact h2
theorem run_app_int (w : World) (base x : Nat) (v : Value) (l : List Nat) (h : OI w base v l) (hb : base ≤ w.heap.size) (hl : l.length < 1000000) :
    ∃ v' w', (Builtin.append_ #[165, 165] 165 #[v, .slice (some ⟨w.heap.size, 0, none⟩) 1 1]).run Tryz.prog (w.alloc (.cells #[.int .i64 (x : Int)] 3)) = .ok v' w' ∧
      OI w' base v' (l ++ [x]) ∧ Fr (fun q => v.ownBlock = some q) w w' := by
  obtain ⟨v', w', h1, h2, h3, h4⟩ := run_app_int' (w.alloc (.cells #[.int .i64 (x : Int)] 3)) base x w.heap.size v l (World.ownsRow.alloc h _) (Bk.new w _ _) (by rw [alloc_sz]; omega) hl
  exact ⟨v', w', h1, h2, ((Fr.refl (fun q => v.ownBlock = some q) w).alloc _).grown h3 fun g hg _ => hg⟩
theorem OI.quiet {w w' : World} {base : Nat} {v : Value} {l : List Nat} (h : OI w base v l) (hf : Fr noB w w') : OI w' base v l :=
  World.ownsRow.kept h (row := none) ⟨hf.os, hf.tape, hf.output, hf.size, fun k hk _ => hf.block k hk id⟩ (by cases v.ownBlock <;> simp)
theorem run_make_ints2 (w : World) (n c : Nat) (hnc : n ≤ c) (hc : c ≤ 1000000) :
    ∃ w', (Instr.makeSlice 165 (.int .i64 (n : Int)) (.int .i64 (c : Int))).run Tryz.prog w = .ok (.slice (some ⟨w.heap.size, 0, none⟩) n c) w' ∧ OI w' w.heap.size (.slice (some ⟨w.heap.size, 0, none⟩) n c) (List.replicate n 0) ∧ Fr noB w w' ∧ w'.heap.size = w.heap.size + 1 := by
  obtain ⟨i, hi, hz, hs, hb⟩ := info_parts int_info
  have h := run_make (P := Tryz.prog) (w := w) 165 3 i _ Tryz.underlying165 hi hz .i64 .i64 (n : Int) (c : Int) (by omega) (by omega) (by rw [hb]; omega) (by omega)
  rw [Int.toNat_natCast, Int.toNat_natCast, hs, Nat.mul_one] at h
  have hm : (madeCells (Value.int IntKind.i64 0).cells c).toList = List.replicate c (.int .i64 0) := by
    rw [show (Value.int IntKind.i64 0).cells = #[Value.int IntKind.i64 0] from rfl, toList_madeCells_one]
  have hsz : (madeCells (Value.int IntKind.i64 0).cells c).size = c := by rw [← Array.length_toList, hm, List.length_replicate]
  refine ⟨_, h, ⟨by simp [ints], .inr ⟨w.heap.size, c, _, by rw [List.length_replicate], Nat.le_refl _, heap_alloc_new w _, by rw [List.length_replicate]; exact hnc, by simp only [maxLen]; omega, by rw [hsz, Nat.mul_one], ?_⟩⟩, (Fr.refl _ _).alloc _, alloc_sz _ _⟩
  rw [hm, List.length_replicate, Nat.mul_one, List.take_replicate, Nat.min_eq_left hnc]; simp [ints]
theorem refRoot (p pw : Nat) (hp : p < 65536) (hpw : 2 ≤ pw ∧ pw ≤ 3) (w : World) :
    Calls Tryz.prog 97 #[.int .i64 (p : Int), .int .i64 (pw : Int)] w (fun e w' => e = .returned (.int .i64 (rootN p pw : Int)) ∧ Fr noB w w') := by
  obtain ⟨hp1, hp2⟩ := hpw
  obtain ⟨n, hn⟩ : ∃ n, n = 2 * pw := ⟨_, rfl⟩
  obtain ⟨c, hc⟩ : ∃ c, c = 2 * pw + 1 := ⟨_, rfl⟩
  obtain ⟨w1, hmk, hO, hF, hsz⟩ := run_make_ints2 w n c (by omega) (by omega)
  have hO2 : OI w1 w.heap.size (.slice (some ⟨w.heap.size, 0, none⟩) n c) (List.replicate n 0) := hO
  obtain ⟨v', w2, hap, hA, hF2⟩ := run_app_int w1 w.heap.size p _ _ hO2 (by omega) (by rw [List.length_replicate]; omega)
  obtain ⟨t, cap, rfl, hR, hbt⟩ := hA.form (by simp)
  have hfr : Fr noB w w2 := hF.trans' hF2 fun b hb he => absurd he (by simp only [Value.ownBlock]; intro h; injection h with h; omega)
  have hlen : (List.replicate n 0 ++ [p]).length = c := by simp; omega
  have hdig : dig (List.replicate n 0 ++ [p]) := by
    intro d hd; rw [List.mem_append] at hd
    rcases hd with h | h
    · have := (List.mem_replicate.1 h).2; omega
    · simp at h; omega
  have hval : val (List.replicate n 0 ++ [p]) = p * 2 ^ (32 * pw) := by
    rw [val_append, val_zeros, List.length_replicate, Nat.zero_add, show (65536 : Nat) = 2 ^ 16 from rfl, ← Nat.pow_mul, show 16 * n = 32 * pw by omega, Nat.mul_comm]; simp [val]
  rw [hlen] at hap
  generalize List.replicate n 0 ++ [p] = tgt at *
  clear hA hF2 hO hO2 hF
  generalize w.heap.size = B at *
  have hn1 : (2 : Int) * (pw : Int) = (n : Int) := by omega
  have hc1 : (n : Int) + 1 = (c : Int) := by omega
  have Hn := Lib.hid hn
  have Hc := Lib.hid hc
  have Hl := Lib.hid hlen
  have Hv := Lib.hid hval
  have Hs := Lib.hid hsz
  clear hn hc hlen hval hsz
  go_enter Tryz.func97, Tryz.ntmps97
  go_wp2_with (at_builtin
               go_must (refine wpList_append_run rfl (.tmp 18) (.tmp 20) _ _ rfl hap rfl rfl ?_))
  have htl := hR.lt
  go_loopw [6, 7] (fun rv bv wr => ∃ (k r b : Nat), k ≤ 37 ∧ r = rootK p pw k ∧ b = 2 ^ (37 - k) / 2 ∧ rv = .int .i64 r ∧ bv = .int .i64 b ∧ Fr noB w2 wr) (fun _ bv _ => (intOf bv).toNat)
  case atStart => exact ⟨0, 0, 68719476736, by omega, rfl, rfl, rfl, rfl, Fr.refl _ _⟩
  case round =>
    obtain ⟨k, r, b, hk, hr, hb, rfl, rfl, hfw⟩ := hrel
    obtain ⟨wo, rfl⟩ : ∃ wo, wo = wr := ⟨_, rfl⟩
    have hrl := rootK_lt p pw k hk
    rw [← hr] at hrl
    by_cases hlt : k < 37
    · have hb2 : b = 2 ^ (36 - k) := by rw [hb, show 37 - k = (36 - k) + 1 by omega, Nat.pow_succ]; omega
      have hpp : (2 : Nat) ^ (37 - k) = b + b := by rw [hb2, show 37 - k = (36 - k) + 1 by omega, Nat.pow_succ]; omega
      have hb0 : 0 < b := by rw [hb2]; exact Nat.pow_pos (by omega)
      have hnb : b / 2 = 2 ^ (37 - (k + 1)) / 2 := by rw [hb2, show 37 - (k + 1) = 36 - k by omega]
      have hstep : rootK p pw (k + 1) = if (r + b) ^ pw ≤ p * 2 ^ (32 * pw) then r + b else r := by rw [rootK, rootStep, ← hr, ← hb2]
      rw [hpp] at hrl
      obtain ⟨x, hx⟩ : ∃ x, x = r + b := ⟨_, rfl⟩
      rw [← hx] at hstep
      have hxl : x < 137438953472 := by omega
      obtain ⟨d0, hd0⟩ : ∃ d0, d0 = x % 65536 := ⟨_, rfl⟩
      obtain ⟨d1, hd1⟩ : ∃ d1, d1 = x / 65536 % 65536 := ⟨_, rfl⟩
      obtain ⟨d2, hd2⟩ : ∃ d2, d2 = x / 65536 / 65536 := ⟨_, rfl⟩
      obtain ⟨hh, hhe⟩ : ∃ hh, hh = b / 2 := ⟨_, rfl⟩
      have e0 : (r : Int) + (b : Int) = (x : Int) := by omega
      have e1 : (x : Int) % 65536 = (d0 : Int) := by omega
      have e2 : (x : Int) / 65536 % 65536 = (d1 : Int) := by omega
      have e3 : (x : Int) / 65536 / 65536 = (d2 : Int) := by omega
      have e4 : (b : Int) / 2 = (hh : Int) := by omega
      have hvD : val [d0, d1, d2] = x := by simp only [val]; omega
      have hdD : dig [d0, d1, d2] := by
        intro d hd; simp only [List.mem_cons, List.not_mem_nil, or_false] at hd; omega
      have hID : IB (wo.alloc (.cells #[.int .i64 (d0 : Int), .int .i64 (d1 : Int), .int .i64 (d2 : Int)] 3)) wo.heap.size [d0, d1, d2] := Bk.new wo _ _
      have hRD := hID.ri
      have hfD : Fr noB w2 (wo.alloc (.cells #[.int .i64 (d0 : Int), .int .i64 (d1 : Int), .int .i64 (d2 : Int)] 3)) := hfw.alloc _
      have hhb : hh < b := by omega
      have hbl : b < 137438953472 := by omega
      rw [← hhe] at hnb
      have Hx := Lib.hid hx
      have Hnb := Lib.hid hnb
      have Hst := Lib.hid hstep
      have HvD := Lib.hid hvD
      clear hr hb hb2 hpp hx hd0 hd1 hd2 hhe hID hnb hstep hvD hrl
      go_wp2_with fail
      rw [e1, e2, e3]
      go_loopw [10, 11] (fun nv kv wq => ∃ (j gn cn l3 : Nat) (cur : List Nat), 1 ≤ j ∧ j ≤ pw ∧ l3 = 3 * j ∧ kv = .int .i64 j ∧ nv = .slice (some ⟨gn, 0, none⟩) l3 cn ∧ cur.length = l3 ∧ dig cur ∧ val cur = x ^ j ∧ RI wq gn cur ∧ RI wq wo.heap.size [d0, d1, d2] ∧ Fr noB w2 wq) (fun _ kv _ => pw - (intOf kv).toNat)
      case atStart => exact ⟨1, wo.heap.size, 3, 3, [d0, d1, d2], by omega, by omega, rfl, rfl, rfl, rfl, hdD, by rw [HvD.out, Nat.pow_one], hRD, hRD, hfD⟩
      case round =>
        obtain ⟨j, gn, cn, l3, cur, hj1, hj2, hl3, rfl, rfl, hcl, hcd, hcv, hRc, hRd, hfq⟩ := hrel
        have Hl3 := Lib.hid hl3
        have hl9 : l3 ≤ 9 := by omega
        clear hl3
        by_cases hjl : j < pw
        · go_wp2_with fail
          refine (refTimes cur [d0, d1, d2] gn wo.heap.size l3 3 (l3 + 3) cn 3 wr hRc hRd hcl rfl rfl (by omega) (by omega) hcd hdD).mono ?_
          rintro e w3 ⟨g, q, rfl, hI, hql, hqd, hqv, hf3, hge⟩
          have hq2 : val q = x ^ (j + 1) := by rw [hqv, hcv, HvD.out, Nat.pow_succ]
          have hRq := hI.ri
          have hRd3 : RI w3 wo.heap.size [d0, d1, d2] := hRd.keep hf3 id
          have hfq3 : Fr noB w2 w3 := hfq.trans hf3
          have Hq2 := Lib.hid hq2
          have Hql := Lib.hid hql
          clear hq2 hql hqv hI
          go_wp2_with fail
          exact ⟨⟨j + 1, g, l3 + 3, l3 + 3, q, by omega, by omega, by have := Hl3.out; omega, by rw [Int.natCast_add]; rfl, rfl, Hql.out, hqd, Hq2.out, hRq, hRd3, hfq3⟩, by simp only [intOf]; omega⟩
        · obtain rfl : j = pw := by omega
          have hRt : RI wr t tgt := hR.keep hfq id
          go_wp2_with fail
          refine (refAbove cur tgt gn t l3 c cn cap wr hRc hRt hcl Hl.out (by omega) (by have := Hl3.out; have := Hc.out; omega) (by have := Hl3.out; omega) hcd hdig).mono ?_
          rintro e w3 ⟨rfl, hf3⟩
          have hfq3 : Fr noB w2 w3 := hfq.trans hf3
          have hdec : decide (val tgt < val cur) = !decide (x ^ j ≤ p * 2 ^ (32 * j)) := by
            rw [Hv.out, hcv]; generalize p * 2 ^ (32 * j) = G; generalize x ^ j = X
            by_cases h : X ≤ G
            · rw [decide_eq_true h, decide_eq_false (by omega)]; rfl
            · rw [decide_eq_false h, decide_eq_true (by omega)]; rfl
          rw [hdec]
          by_cases hle : x ^ j ≤ p * 2 ^ (32 * j)
          · have h1 : x = rootK p j (k + 1) := by rw [Hst.out, if_pos hle]
            have H1 := Lib.hid h1
            have h2 : (!decide (x ^ j ≤ p * 2 ^ (32 * j))) = false := by simp [hle]
            rw [h2]
            clear h1 h2 hle hdec hcv
            go_wp2_with fail
            exact ⟨⟨k + 1, x, hh, by omega, H1.out, Hnb.out, rfl, rfl, hfq3⟩, by simp only [intOf]; omega⟩
          · have h1 : r = rootK p j (k + 1) := by rw [Hst.out, if_neg hle]
            have H1 := Lib.hid h1
            have h2 : (!decide (x ^ j ≤ p * 2 ^ (32 * j))) = true := by simp [hle]
            rw [h2]
            clear h1 h2 hle hdec hcv
            go_wp2_with fail
            exact ⟨⟨k + 1, r, hh, by omega, H1.out, Hnb.out, rfl, rfl, hfq3⟩, by simp only [intOf]; omega⟩
    · obtain rfl : k = 37 := by omega
      have hb0 : b = 0 := by rw [hb]
      subst hb0
      have hfin : ((r : Int) % 4294967296) = (rootN p pw : Int) := by rw [rootN, ← hr]; omega
      have hrl2 : r < 137438953472 := by have := hrl; omega
      clear hrl hr hb
      have hff : Fr noB w wo := hfr.trans hfw
      go_wp2_with fail
      go_ret
      exact ⟨congrArg (fun v => Ending.returned (.int .i64 v)) hfin, hff⟩
end Go.Proofs.YtcbkaiakdhiloabGreatDoor
namespace Go.Proofs.YtcbkaiakdhiloabGreatDoor
open Go.RowKit Go.Proofs
theorem OI.shape {w : World} {base : Nat} {v : Value} {l : List Nat} (h : OI w base v l) : ∃ A cap, v = .slice A l.length cap ∧ (0 < l.length → ∃ g, A = some ⟨g, 0, none⟩ ∧ RI w g l ∧ base ≤ g) := by
  rcases Nat.eq_zero_or_pos l.length with h0 | h0
  · obtain ⟨A, cap, rfl, _⟩ := own_slice h
    exact ⟨A, cap, rfl, fun h => by omega⟩
  · obtain ⟨g, cap, rfl, hR, hb⟩ := h.form h0
    exact ⟨_, cap, rfl, fun _ => ⟨g, rfl, hR, hb⟩⟩
theorem OI.own {w : World} {base : Nat} {v : Value} {l : List Nat} (h : OI w base v l) {S : Nat → Prop} {w0 w' : World} (hf : Fr S w0 w) (hf2 : Fr (fun q => v.ownBlock = some q) w w') (hb : w0.heap.size ≤ base) : Fr S w0 w' :=
  hf.trans' hf2 fun b hb2 he => absurd he (by intro he; have := (World.ownsRow.lt h b he).1; omega)
theorem refPrimes (w : World) :
    Calls Tryz.prog 96 #[.int .i64 64] w (fun e w' => ∃ v, e = .returned v ∧ OI w' w.heap.size v primeTab ∧ Fr noB w w') := by
  go_enter Tryz.func96, Tryz.ntmps96
  go_wp2_with fail
  go_loopw [3, 4] (fun v pv wr => ∃ (p : Nat), 2 ≤ p ∧ p ≤ 312 ∧ pv = .int .i64 p ∧ OI wr w.heap.size v (below p) ∧ Fr noB w wr) (fun _ pv _ => 312 - (intOf pv).toNat)
  case atStart => exact ⟨2, by omega, by omega, rfl, by rw [below_two]; exact OI.nil w _, Fr.refl _ _⟩
  case round =>
    obtain ⟨p, h2, h3, rfl, hO, hfr⟩ := hrel
    obtain ⟨wo, rfl⟩ : ∃ wo, wo = wr := ⟨_, rfl⟩
    by_cases hlt : p < 312
    · have hbl := below_len p hlt
      have hstep := below_step p h2 hlt
      have hle := below_le p
      have hpb : primeB p = (below p).all fun q => p % q != 0 := rfl
      obtain ⟨A, cap, rfl, hA⟩ := hO.shape
      generalize hl : below p = l at *
      have Hl := Lib.hid hl
      have Hst := Lib.hid hstep
      have Hpb := Lib.hid hpb
      generalize hn : l.length = n at *
      have Hn := Lib.hid hn
      clear hl hstep hpb hn
      go_wp2_with fail
      go_loopw [5, 16] (fun bv iv wq => ∃ (i : Nat), i ≤ n ∧ iv = .int .i64 i ∧ bv = .bool ((l.take i).all fun q => p % q != 0) ∧ wq = wo) (fun _ iv _ => n - (intOf iv).toNat)
      case atStart => exact ⟨0, by omega, rfl, rfl, rfl⟩
      case round =>
        obtain ⟨i, hi, rfl, rfl, hwq⟩ := hrel
        subst hwq
        by_cases hin : i < n
        · obtain ⟨g, rfl, hRI, hbg⟩ := hA (by omega)
          obtain ⟨q, hq⟩ : ∃ q, l[i]? = some q := ⟨l[i]'(by rw [Hn.out]; exact hin), List.getElem?_eq_getElem _⟩
          have hq2 := hle q (List.mem_of_getElem? hq)
          have hcq := hRI.get i q hq
          have htk : (l.take (i + 1)).all (fun q => p % q != 0) = ((l.take i).all (fun q => p % q != 0) && (p % q != 0)) := by
            rw [List.take_add_one, hq]; simp
          have Htk := Lib.hid htk
          obtain ⟨m, hm⟩ : ∃ m, m = p % q := ⟨_, rfl⟩
          have hmi : (p : Int) % (q : Int) = (m : Int) := by rw [hm]; exact (Int.natCast_emod _ _).symm
          have hq0 : ¬ ((q : Int) = 0) := by omega
          rw [← hm] at htk
          have Htk := Lib.hid htk
          have hgl := hRI.lt
          clear hm htk hq
          cases hb : (l.take i).all (fun q => p % q != 0) with
          | false =>
            have h1 : (l.take (i + 1)).all (fun q => p % q != 0) = false := by rw [Htk.out, hb]; rfl
            have H1 := Lib.hid h1
            clear h1 hb
            go_wp2_with fail
            exact ⟨⟨i + 1, by omega, by rw [Int.natCast_add]; rfl, by rw [H1.out], trivial⟩, by simp only [intOf]; omega⟩
          | true =>
            by_cases hm0 : m = 0
            · have h1 : (l.take (i + 1)).all (fun q => p % q != 0) = false := by rw [Htk.out, hb, hm0]; rfl
              have H1 := Lib.hid h1
              clear h1 hb
              go_wp2_with fail
              exact ⟨⟨i + 1, by omega, by rw [Int.natCast_add]; rfl, by rw [H1.out], trivial⟩, by simp only [intOf]; omega⟩
            · have h1 : (l.take (i + 1)).all (fun q => p % q != 0) = true := by rw [Htk.out, hb]; simp [hm0]
              have H1 := Lib.hid h1
              have hmz : ((m : Int) != 0) = true := by simp; omega
              clear h1 hb
              go_wp2_with fail
              exact ⟨⟨i + 1, by omega, by rw [Int.natCast_add]; rfl, by rw [H1.out], trivial⟩, by simp only [intOf]; omega⟩
        · obtain rfl : i = n := by omega
          rw [show l.take i = l by rw [← Hn.out, List.take_length], ← Hpb.out]
          cases hpb : primeB p with
          | false =>
            have h1 : below (p + 1) = l := by rw [Hst.out, hpb]; rfl
            have hO2 : OI wr w.heap.size (.slice A i cap) (below (p + 1)) := by rw [h1]; exact hO
            clear h1 hpb
            go_wp2_with fail
            exact ⟨⟨p + 1, by omega, by omega, by rw [Int.natCast_add]; rfl, hO2, hfr⟩, by simp only [intOf]; omega⟩
          | true =>
            have h1 : below (p + 1) = l ++ [p] := by rw [Hst.out, hpb]; rfl
            obtain ⟨v', w3, hap, hO3, hf3⟩ := run_app_int wr w.heap.size p _ l hO hfr.size (by have := Hn.out; omega)
            have hfr3 : Fr noB w w3 := hO.own hfr hf3 (Nat.le_refl _)
            rw [← h1] at hO3
            clear h1 hpb
            go_wp2_with (at_builtin
                         go_must (refine wpList_append_run rfl (.tmp 29) (.tmp 31) _ _ rfl hap rfl rfl ?_))
            exact ⟨⟨p + 1, by omega, by omega, by rw [Int.natCast_add]; rfl, hO3, hfr3⟩, by simp only [intOf]; omega⟩
    · obtain rfl : p = 312 := by omega
      obtain ⟨A, cap, rfl, hA⟩ := hO.shape
      clear hA
      rw [below_all] at hO ⊢
      rw [primeTab_len] at hO ⊢
      go_wp2_with fail
      go_ret
      exact ⟨_, rfl, hO, hfr⟩
end Go.Proofs.YtcbkaiakdhiloabGreatDoor
