/- The tables of SHA-256 out of roots of primes, and numbers in base 65536: plain lists. No program in sight. -/
import Derived.Test.YtcbkaiakdhiloaaDoorSha
set_option linter.unusedSimpArgs false
set_option linter.unusedVariables false
namespace Go.Proofs.YtcbkaiakdhiloaaDoor

def primeTab : List Nat := [2, 3, 5, 7, 11, 13, 17, 19, 23, 29, 31, 37, 41, 43, 47, 53, 59, 61, 67, 71, 73, 79, 83, 89, 97, 101, 103, 107, 109, 113, 127, 131, 137, 139, 149, 151, 157, 163, 167, 173, 179, 181, 191, 193, 197, 199, 211, 223, 227, 229, 233, 239, 241, 251, 257, 263, 269, 271, 277, 281, 283, 293, 307, 311]
/-- the primes below p -/
def below (p : Nat) : List Nat := primeTab.filter fun q => decide (q < p)
def primeB (p : Nat) : Bool := (below p).all fun q => p % q != 0
theorem below_step : ∀ p, 2 ≤ p → p < 312 → below (p + 1) = (if primeB p then below p ++ [p] else below p) := by
  have h : ((List.range 312).all fun p => decide (p < 2) || (below (p + 1) == (if primeB p then below p ++ [p] else below p))) = true := by decide +kernel
  intro p h2 h3
  have h1 := List.all_eq_true.1 h p (by simpa using h3)
  simp only [Bool.or_eq_true, decide_eq_true_eq, beq_iff_eq] at h1
  rcases h1 with h1 | h1
  · omega
  · exact h1
theorem below_len : ∀ p, p < 312 → (below p).length < 64 := by
  have h : ((List.range 312).all fun p => decide ((below p).length < 64)) = true := by decide +kernel
  intro p h3
  have h1 := List.all_eq_true.1 h p (by simpa using h3)
  simpa using h1
theorem below_two : below 2 = [] := by decide +kernel
theorem below_all : below 312 = primeTab := by decide +kernel
theorem primeTab_len : primeTab.length = 64 := by decide +kernel
theorem below_le (p : Nat) : ∀ q ∈ below p, 2 ≤ q ∧ q < p := by
  have h : (primeTab.all fun q => decide (2 ≤ q)) = true := by decide +kernel
  intro q hq
  unfold below at hq
  rw [List.mem_filter] at hq
  exact ⟨by simpa using List.all_eq_true.1 h q hq.1, by simpa using hq.2⟩

/-- one step of the root's search -/
def rootStep (p pw r bit : Nat) : Nat := if (r + bit) ^ pw ≤ p * 2 ^ (32 * pw) then r + bit else r
/-- the first k steps: bits 36, 35, .. -/
def rootK (p pw : Nat) : Nat → Nat
  | 0 => 0
  | k + 1 => rootStep p pw (rootK p pw k) (2 ^ (36 - k))
def rootN (p pw : Nat) : Nat := rootK p pw 37 % 4294967296
theorem rootK_lt (p pw : Nat) : ∀ k, k ≤ 37 → rootK p pw k + 2 ^ (37 - k) ≤ 2 ^ 37
  | 0, _ => by simp [rootK]
  | k + 1, h => by
    have ih := rootK_lt p pw k (by omega)
    have e : (2 : Nat) ^ (37 - k) = 2 ^ (36 - k) + 2 ^ (36 - k) := by rw [show 37 - k = (36 - k) + 1 by omega, Nat.pow_succ]; omega
    rw [show 37 - (k + 1) = 36 - k by omega]
    simp only [rootK, rootStep]
    generalize 2 ^ (36 - k) = c at *
    split <;> omega
theorem kTab_roots : primeTab.map (fun p => rootN p 3) = kTab.map UInt32.toNat := by decide +kernel
theorem hTab_roots : (primeTab.take 8).map (fun p => rootN p 2) = h0.list.map UInt32.toNat := by decide +kernel

/-- the number of digits in base 65536, the lowest first -/
def val : List Nat → Nat
  | [] => 0
  | d :: r => d + 65536 * val r
/-- a row of digits with x times ys and a carry added -/
def addMul (x : Nat) : List Nat → List Nat → Nat → List Nat
  | o :: os, y :: ys, c => (o + x * y + c) % 65536 :: addMul x os ys ((o + x * y + c) / 65536)
  | o :: os, [], c => (o + c) :: os
  | [], _, _ => []
theorem addMul_val (x : Nat) : ∀ (os ys : List Nat) (c : Nat), ys.length < os.length → val (addMul x os ys c) = val os + x * val ys + c
  | o :: os, y :: ys, c, h => by
    simp only [addMul, val]
    rw [addMul_val x os ys _ (by simpa using h)]
    have e1 : x * (y + 65536 * val ys) = x * y + 65536 * (x * val ys) := by rw [Nat.mul_add, Nat.mul_left_comm]
    rw [e1]
    omega
  | o :: os, [], c, h => by simp [addMul, val]; omega
  | [], _, _, h => by simp at h
theorem addMul_length (x : Nat) : ∀ (os ys : List Nat) (c : Nat), (addMul x os ys c).length = os.length
  | o :: os, y :: ys, c => by simp [addMul, addMul_length x os ys]
  | o :: os, [], c => by simp [addMul]
  | [], _, _ => by simp [addMul]
def dig (l : List Nat) : Prop := ∀ d ∈ l, d < 65536
theorem val_lt : ∀ l : List Nat, dig l → val l < 65536 ^ l.length
  | [], _ => by simp [val]
  | d :: r, h => by
    have h1 := val_lt r (fun x hx => h x (by simp [hx]))
    have h2 := h d (by simp)
    rw [List.length_cons, Nat.pow_succ, val]; omega

theorem val_append : ∀ a b : List Nat, val (a ++ b) = val a + 65536 ^ a.length * val b
  | [], b => by simp [val]
  | d :: r, b => by
    rw [List.cons_append, val, val, val_append r b, List.length_cons, Nat.pow_succ, Nat.mul_add, Nat.mul_comm (65536 ^ r.length) 65536, Nat.mul_assoc]
    omega
/-- a row in the midst of its reckoning: the places from pre on, j of them done, c carried -/
def Row (x : Nat) (pre R0 ys : List Nat) (j c : Nat) (cur : List Nat) : Prop :=
  ∃ done, done.length = j ∧ cur = pre ++ (done ++ R0.drop j) ∧ addMul x R0 ys 0 = done ++ addMul x (R0.drop j) (ys.drop j) c ∧ j ≤ R0.length ∧ c < 65536 ∧ dig cur
theorem Row.start {x : Nat} {pre R0 ys : List Nat} (h : dig (pre ++ R0)) : Row x pre R0 ys 0 0 (pre ++ R0) := ⟨[], rfl, rfl, rfl, by omega, by omega, h⟩
theorem dig_set {l : List Nat} (h : dig l) (k v : Nat) (hv : v < 65536) : dig (l.set k v) := by
  intro d hd
  rcases List.mem_or_eq_of_mem_set hd with h1 | h1
  · exact h d h1
  · omega
theorem Row.get {x : Nat} {pre R0 ys cur : List Nat} {j c : Nat} (h : Row x pre R0 ys j c cur) (k : Nat) (hk : j ≤ k) : cur[pre.length + k]? = R0[k]? := by
  obtain ⟨done, hd, rfl, he, hr, hc, hdig⟩ := h
  rw [List.getElem?_append_right (by omega), List.getElem?_append_right (by omega), List.getElem?_drop]
  congr 1; omega
theorem Row.length {x : Nat} {pre R0 ys cur : List Nat} {j c : Nat} (h : Row x pre R0 ys j c cur) : cur.length = pre.length + R0.length := by
  obtain ⟨done, hd, rfl, he, hr, hc, hdig⟩ := h
  simp [hd]; omega
theorem Row.step {x : Nat} {pre R0 ys cur : List Nat} {j c y o : Nat} (h : Row x pre R0 ys j c cur) (hy : ys[j]? = some y) (ho : cur[pre.length + j]? = some o) (hx : x < 65536) (hyl : y < 65536) :
    Row x pre R0 ys (j + 1) ((o + x * y + c) / 65536) (cur.set (pre.length + j) ((o + x * y + c) % 65536)) ∧ o < 65536 ∧ x * y ≤ 4294836225 ∧ c < 65536 := by
  have hg := h.get j (Nat.le_refl _)
  rw [ho] at hg
  obtain ⟨done, hd, rfl, he, hr, hc, hdig⟩ := h
  have hj : j < ys.length := by
    rcases Nat.lt_or_ge j ys.length with h | h
    · exact h
    · rw [List.getElem?_eq_none h] at hy; cases hy
  have hjr : j < R0.length := by
    rcases Nat.lt_or_ge j R0.length with h | h
    · exact h
    · rw [List.getElem?_eq_none h] at hg; cases hg
  have e1 : R0.drop j = o :: R0.drop (j + 1) := by
    rw [List.drop_eq_getElem_cons hjr]
    rw [List.getElem?_eq_getElem hjr] at hg
    injection hg with hg
    rw [hg]
  have e2 : ys.drop j = y :: ys.drop (j + 1) := by
    rw [List.drop_eq_getElem_cons hj]
    rw [List.getElem?_eq_getElem hj] at hy
    injection hy with hy
    rw [hy]
  have hol : o < 65536 := by
    apply hdig
    rw [e1]; simp
  have hxy : x * y ≤ 65535 * 65535 := Nat.mul_le_mul (by omega) (by omega)
  refine ⟨⟨done ++ [(o + x * y + c) % 65536], by simp [hd], ?_, ?_, by omega, by omega, dig_set hdig _ _ (by omega)⟩, hol, by omega, hc⟩
  · rw [List.set_append_right _ _ (by omega), List.set_append_right _ _ (by omega), show pre.length + j - pre.length - done.length = 0 by omega, e1]
    simp
  · rw [he, e1, e2]
    simp [addMul]
theorem Row.fin {x : Nat} {pre R0 ys cur : List Nat} {c o : Nat} (h : Row x pre R0 ys ys.length c cur) (ho : cur[pre.length + ys.length]? = some o) :
    cur.set (pre.length + ys.length) (o + c) = pre ++ addMul x R0 ys 0 := by
  have hg := h.get ys.length (Nat.le_refl _)
  rw [ho] at hg
  obtain ⟨done, hd, rfl, he, hr, hc, hdig⟩ := h
  have hjr : ys.length < R0.length := by
    rcases Nat.lt_or_ge ys.length R0.length with h | h
    · exact h
    · rw [List.getElem?_eq_none h] at hg; cases hg
  have e1 : R0.drop ys.length = o :: R0.drop (ys.length + 1) := by
    rw [List.drop_eq_getElem_cons hjr]
    rw [List.getElem?_eq_getElem hjr] at hg
    injection hg with hg
    rw [hg]
  rw [he, List.drop_length, List.set_append_right _ _ (by omega), List.set_append_right _ _ (by omega), show pre.length + ys.length - pre.length - done.length = 0 by omega, e1]
  simp [addMul]
/-- i rows are done -/
structure Tim (xs ys : List Nat) (i : Nat) (out : List Nat) : Prop where
  len : out.length = xs.length + ys.length
  dg : dig out
  vl : val out = val (xs.take i) * val ys
  zr : ∀ k, i + ys.length ≤ k → k < out.length → out[k]? = some 0
theorem Tim.start (xs ys : List Nat) : Tim xs ys 0 (List.replicate (xs.length + ys.length) 0) := by
  refine ⟨by simp, ?_, ?_, ?_⟩
  · intro d hd; simp at hd; omega
  · have h : ∀ n, val (List.replicate n 0) = 0 := by intro n; induction n with | zero => rfl | succ n ih => simp [List.replicate_succ, val, ih]
    rw [h]; simp [val]
  · intro k _ hk; simp at hk; simp [hk]
theorem val_take_succ (xs : List Nat) (i x : Nat) (hx : xs[i]? = some x) : val (xs.take (i + 1)) = val (xs.take i) + 65536 ^ i * x := by
  have hi : i < xs.length := by
    rcases Nat.lt_or_ge i xs.length with h | h
    · exact h
    · rw [List.getElem?_eq_none h] at hx; cases hx
  have hxe : xs[i] = x := by rw [List.getElem?_eq_getElem hi] at hx; injection hx
  rw [List.take_succ_eq_append_getElem hi, val_append, hxe, List.length_take, Nat.min_eq_left (by omega)]
  simp [val]
theorem Tim.step {xs ys out cur : List Nat} {i x c : Nat} (h : Tim xs ys i out) (hx : xs[i]? = some x) (hr : Row x (out.take i) (out.drop i) ys ys.length c cur) :
    cur[i + ys.length]? = some 0 ∧ c < 65536 ∧ Tim xs ys (i + 1) (cur.set (i + ys.length) (0 + c)) := by
  have hi : i < xs.length := by
    rcases Nat.lt_or_ge i xs.length with h | h
    · exact h
    · rw [List.getElem?_eq_none h] at hx; cases hx
  have hlen := h.len
  have hpl : (out.take i).length = i := by rw [List.length_take]; omega
  have hcl := hr.length
  rw [hpl, List.length_drop] at hcl
  have hg := hr.get ys.length (Nat.le_refl _)
  rw [hpl, List.getElem?_drop, h.zr (i + ys.length) (Nat.le_refl _) (by omega)] at hg
  have hf := hr.fin (o := 0) (by rw [hpl]; exact hg)
  rw [hpl] at hf
  have hc : c < 65536 := by obtain ⟨_, _, _, _, _, hc, _⟩ := hr; exact hc
  have hdc : dig cur := by obtain ⟨_, _, _, _, _, _, hd⟩ := hr; exact hd
  refine ⟨hg, hc, ⟨by rw [List.length_set]; omega, dig_set hdc _ _ (by omega), ?_, ?_⟩⟩
  · rw [hf, val_append, hpl, addMul_val x _ _ _ (by rw [List.length_drop]; omega), val_take_succ xs i x hx, Nat.add_mul, ← h.vl]
    have e2 : val out = val (out.take i) + 65536 ^ i * val (out.drop i) := by
      conv => lhs; rw [← List.take_append_drop i out]
      rw [val_append, hpl]
    rw [e2, Nat.mul_add, Nat.mul_add, Nat.mul_zero, Nat.add_zero, Nat.add_assoc, Nat.mul_assoc]
  · intro k hk1 hk2
    rw [List.length_set] at hk2
    rw [List.getElem?_set_ne (by omega)]
    have h1 := hr.get (k - i) (by omega)
    rw [hpl, show i + (k - i) = k by omega, List.getElem?_drop, show i + (k - i) = k by omega] at h1
    rw [h1]
    exact h.zr k (by omega) (by omega)
theorem Tim.all {xs ys out : List Nat} (h : Tim xs ys xs.length out) : val out = val xs * val ys := by rw [h.vl, List.take_length]

/-- is a above b? from the highest digit on: those above k are equal -/
theorem val_lt_of_get {a b : List Nat} (ha : dig a) (hb : dig b) (hl : a.length = b.length) : ∀ k, k < a.length → a.drop (k + 1) = b.drop (k + 1) → ∀ x y, a[k]? = some x → b[k]? = some y → x < y → val a < val b := by
  intro k hk hd x y hx hy hxy
  have hxe : a[k] = x := by rw [List.getElem?_eq_getElem hk] at hx; injection hx
  have hye : b[k] = y := by rw [List.getElem?_eq_getElem (by omega)] at hy; injection hy
  have e1 : val a = val (a.take k) + 65536 ^ k * (x + 65536 * val (a.drop (k + 1))) := by
    conv => lhs; rw [← List.take_append_drop k a]
    rw [val_append, List.length_take, Nat.min_eq_left (by omega), List.drop_eq_getElem_cons hk, val, hxe]
  have e2 : val b = val (b.take k) + 65536 ^ k * (y + 65536 * val (a.drop (k + 1))) := by
    conv => lhs; rw [← List.take_append_drop k b]
    rw [val_append, List.length_take, Nat.min_eq_left (by omega), List.drop_eq_getElem_cons (by omega), val, hye, hd]
  have h1 := val_lt (a.take k) (fun d hd' => ha d (List.mem_of_mem_take hd'))
  rw [List.length_take, Nat.min_eq_left (by omega)] at h1
  rw [e1, e2]
  generalize val (a.drop (k + 1)) = z at *
  have h2 : 65536 ^ k * (x + 65536 * z) + 65536 ^ k ≤ 65536 ^ k * (y + 65536 * z) := by
    rw [← Nat.mul_succ]
    exact Nat.mul_le_mul_left _ (by omega)
  omega
/-- filled up with zeros to n digits -/
def ext (l : List Nat) (n : Nat) : List Nat := l ++ List.replicate (n - l.length) 0
theorem val_zeros : ∀ n, val (List.replicate n 0) = 0
  | 0 => rfl
  | n + 1 => by simp [List.replicate_succ, val, val_zeros n]
theorem val_ext (l : List Nat) (n : Nat) : val (ext l n) = val l := by simp [ext, val_append, val_zeros]
theorem dig_ext {l : List Nat} (h : dig l) (n : Nat) : dig (ext l n) := by
  intro d hd
  rw [ext, List.mem_append] at hd
  rcases hd with h1 | h1
  · exact h d h1
  · have := (List.mem_replicate.1 h1).2; omega
theorem ext_length {l : List Nat} {n : Nat} (h : l.length ≤ n) : (ext l n).length = n := by simp [ext]; omega
theorem ext_low {l : List Nat} {n k : Nat} (h : k < l.length) : (ext l n)[k]? = l[k]? := by rw [ext, List.getElem?_append_left h]
theorem ext_high {l : List Nat} {n k : Nat} (h : l.length ≤ k) (hk : k < n) : (ext l n)[k]? = some 0 := by
  rw [ext, List.getElem?_append_right h, List.getElem?_replicate]; simp; omega
theorem drop_eq_of {a b : List Nat} {k x : Nat} (ha : a[k]? = some x) (hb : b[k]? = some x) (h : a.drop (k + 1) = b.drop (k + 1)) : a.drop k = b.drop k := by
  have hka : k < a.length := by
    rcases Nat.lt_or_ge k a.length with h | h
    · exact h
    · rw [List.getElem?_eq_none h] at ha; cases ha
  have hkb : k < b.length := by
    rcases Nat.lt_or_ge k b.length with h | h
    · exact h
    · rw [List.getElem?_eq_none h] at hb; cases hb
  rw [List.drop_eq_getElem_cons hka, List.drop_eq_getElem_cons hkb, h]
  rw [List.getElem?_eq_getElem hka] at ha; rw [List.getElem?_eq_getElem hkb] at hb
  injection ha with ha; injection hb with hb
  rw [ha, hb]
end Go.Proofs.YtcbkaiakdhiloaaDoor
