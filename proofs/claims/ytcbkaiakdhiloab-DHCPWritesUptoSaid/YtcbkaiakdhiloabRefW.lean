/- The walks of the reference's small words: big, of, zero, mac, macOf, ip, ipOf. -/
import Derived.Test.YtcbkaiakdhiloabMem
import Derived.Test.YtcbkaiakdhiloabFmt
import Derived.Test.YtcbkaiakdhiloabOctW
set_option linter.unusedSimpArgs false
set_option linter.unusedVariables false
namespace Go.Proofs.Ytcbkaiakdhiloab
open Go.RowKit Go.Proofs

attribute [local go_sem] bs_size bs_append bs_extract big_length

theorem one_str (P : Program) (w : World) (b : UInt8) (t : TypeId) (src dst e : TypeId) (hs : P.underlying src = some (.slice e)) (he : P.underlying e = some (.int .u8)) (hd : P.underlying dst = some .string) :
    (convert src dst (.slice (some ⟨w.heap.size, 0, none⟩) 1 1)).run P (w.alloc (.cells #[.int .u8 (b.toNat : Int)] t)) = .ok (.string (bs [b])) (w.alloc (.cells #[.int .u8 (b.toNat : Int)] t)) :=
  run_str_of _ src dst e hs he hd noB _ 1 1 [b] (SlR.of_bk (n := 1) (size := 1) (S := noB) (Bk.new w t #[.int .u8 (b.toNat : Int)]) (fun x => x) rfl) (.inr ⟨_, _, rfl⟩)

/-- the last j bytes of a number -/
theorem big_add (n j x : Nat) : big (n + j) x = big n (x / 256 ^ j) ++ big j x := by
  induction j generalizing x with
  | zero => simp [big]
  | succ j ih =>
    rw [show n + (j + 1) = (n + j) + 1 by omega, big, ih, big, Nat.div_div_eq_div_mul, Nat.mul_comm 256, ← Nat.pow_succ, List.append_assoc]
theorem big_cons (j x : Nat) : big (j + 1) x = UInt8.ofNat (x / 256 ^ j) :: big j x := by
  rw [show j + 1 = 1 + j by omega, big_add]; rfl

theorem big_wrap (x : Nat) : Value.int .u8 (IntKind.u8.wrap (x : Int)) = .int .u8 ((UInt8.ofNat x).toNat : Int) := by
  rw [IntKind.wrap_u8', UInt8.toNat_ofNat']; congr 1
set_option maxRecDepth 20000 in
set_option maxHeartbeats 1000000 in
theorem refBig (x n : Nat) (w : World) (hx : x ≤ 4611686018427387904) (hn : n ≤ 1000) :
    Calls Try.prog 21 #[.int .i64 x, .int .i64 n] w fun e w' => e = .returned (.string (bs (big n x))) ∧ Fr noB w w' := by
  go_enter Try.func21, Try.ntmps21
  go_wp2_with fail
  go_loopw [0, 1, 5] (fun y m s wr => ∃ j : Nat, j ≤ n ∧ m = .int .i64 ((n - j : Nat) : Int) ∧ y = .int .i64 ((x / 256 ^ j : Nat) : Int) ∧ s = .string (bs (big j x)) ∧ Fr noB w wr) (fun _ m _ _ => (intOf m).toNat)
  case atStart => exact ⟨0, Nat.zero_le _, rfl, by simp, by simp [big, bs], Fr.refl _ _⟩
  case round =>
    obtain ⟨j, hj, rfl, rfl, rfl, hfr⟩ := hrel
    by_cases hlt : j < n
    · have hy : x / 256 ^ j ≤ x := Nat.div_le_self _ _
      have Hb := Lib.hid (big_cons j x)
      have Hd : Hid (x / 256 ^ (j + 1) = x / 256 ^ j / 256) := by unfold Hid; rw [Nat.pow_succ, Nat.div_div_eq_div_mul]
      generalize x / 256 ^ j = y at *
      have hy2 : (y : Int) ≤ 4611686018427387904 := by omega
      have hm : (0 : Int) < ((n - j : Nat) : Int) := by omega
      have hm2 : ((n - j : Nat) : Int) ≤ 1000 := by omega
      have Hm : Hid ((n - (j + 1) : Nat) = (n - j) - 1) := by unfold Hid; omega
      generalize n - j = m at *
      have hbw := big_wrap y
      have hcv := fun w : World => one_str Try.prog w (UInt8.ofNat y) 5 50 9 5 Try.underlying50 Try.underlying5 Try.underlying9
      generalize UInt8.ofNat y = b at *
      go_wp2_with fail
      refine ⟨⟨j + 1, by omega, by rw [Hm.out] <;> go_num, by rw [Hd.out] <;> go_num, by rw [Hb.out] <;> rfl, hfr.alloc _⟩, by simp [intOf] <;> omega⟩
    · go_wp2_with fail
      go_ret
      obtain rfl : j = n := by omega
      exact ⟨rfl, hfr⟩

theorem refIp (x : Nat) (w : World) (hx : x ≤ 4294967295) :
    Calls Try.prog 23 #[.int .u32 x] w fun e w' => e = .returned (.string (bs (big 4 x))) ∧ Fr noB w w' := by
  go_enter Try.func23, Try.ntmps23
  go_wp2_with fail
  refine (refBig x 4 _ (by omega) (by omega)).mono ?_
  rintro e w1 ⟨rfl, h1⟩
  go_wp2_with fail
  go_ret
  exact ⟨rfl, h1⟩

def macV (m : Mac) : Value := .agg #[.int .u8 (m.1.toNat : Int), .int .u8 (m.2.1.toNat : Int), .int .u8 (m.2.2.1.toNat : Int), .int .u8 (m.2.2.2.1.toNat : Int), .int .u8 (m.2.2.2.2.1.toNat : Int), .int .u8 (m.2.2.2.2.2.toNat : Int)]
set_option maxRecDepth 20000 in
set_option maxHeartbeats 1000000 in
theorem refMac (m : Mac) (w : World) :
    Calls Try.prog 24 #[macV m] w fun e w' => e = .returned (.string (bs (macB m))) ∧ Fr noB w w' := by
  obtain ⟨m0, m1, m2, m3, m4, m5⟩ := m
  unfold macV
  simp only
  have hbk := Bk.new w 25 #[.int .u8 (m0.toNat : Int), .int .u8 (m1.toNat : Int), .int .u8 (m2.toNat : Int), .int .u8 (m3.toNat : Int), .int .u8 (m4.toNat : Int), .int .u8 (m5.toNat : Int)]
  go_enter Try.func24, Try.ntmps24
  go_wp2_with fail
  go_loopw [3, 4] (fun s i wr => ∃ j : Nat, j ≤ 6 ∧ i = .int .i64 j ∧ s = .string (bs ((macB (m0, m1, m2, m3, m4, m5)).take j)) ∧ Fr noB (w.alloc (.cells #[.int .u8 (m0.toNat : Int), .int .u8 (m1.toNat : Int), .int .u8 (m2.toNat : Int), .int .u8 (m3.toNat : Int), .int .u8 (m4.toNat : Int), .int .u8 (m5.toNat : Int)] 25)) wr) (fun _ i _ => 6 - (intOf i).toNat)
  case atStart => exact ⟨0, by omega, rfl, rfl, Fr.refl _ _⟩
  case round =>
    obtain ⟨j, hj, rfl, rfl, hfr⟩ := hrel
    by_cases hlt : j < 6
    · have hc : ∃ b : UInt8, (macB (m0, m1, m2, m3, m4, m5))[j]? = some b ∧ wr.cell? ⟨w.heap.size, j, none⟩ = some (.int .u8 (b.toNat : Int)) := by
        have hb1 := (hbk.keep hfr (fun x => x)).cell j
        match j, hlt with
        | 0, _ => exact ⟨m0, rfl, hb1⟩
        | 1, _ => exact ⟨m1, rfl, hb1⟩
        | 2, _ => exact ⟨m2, rfl, hb1⟩
        | 3, _ => exact ⟨m3, rfl, hb1⟩
        | 4, _ => exact ⟨m4, rfl, hb1⟩
        | 5, _ => exact ⟨m5, rfl, hb1⟩
      obtain ⟨b, hb, hc⟩ := hc
      have Hs : Hid ((macB (m0, m1, m2, m3, m4, m5)).take (j + 1) = (macB (m0, m1, m2, m3, m4, m5)).take j ++ [b]) := by
        unfold Hid; rw [List.take_add_one, hb]; rfl
      have hl6 : ((macB (m0, m1, m2, m3, m4, m5)).take j).length ≤ 6 := by rw [List.length_take]; omega
      clear hb
      generalize (macB (m0, m1, m2, m3, m4, m5)).take j = s at *
      have hcv := one_str Try.prog wr b 5 50 9 5 Try.underlying50 Try.underlying5 Try.underlying9
      go_wp2_with fail
      refine ⟨⟨j + 1, by omega, by go_num, by rw [Hs.out], hfr.alloc _⟩, by simp [intOf]; omega⟩
    · go_wp2_with fail
      go_ret
      obtain rfl : j = 6 := by omega
      exact ⟨rfl, ((Fr.refl _ _).alloc _).trans hfr⟩

theorem refZero (l : List UInt8) (n : Nat) (w : World) (hl : l.length ≤ 1000000000) (hn : n ≤ 1000) :
    Calls Try.prog 22 #[.string (bs l), .int .i64 n] w fun e w' => e = .returned (.string (bs (l ++ List.replicate (n - l.length) 0))) ∧ Fr noB w w' := by
  by_cases h : n ≤ l.length
  · go_enter Try.func22, Try.ntmps22
    go_wp2_with fail
    go_ret
    exact ⟨by simp [show n - l.length = 0 by omega], Fr.refl _ _⟩
  · obtain ⟨i0, hi0, hz0, hz1, hz2⟩ := info_parts u8_info
    have hk : ((n : Int) - (l.length : Int)) = ((n - l.length : Nat) : Int) := by omega
    have hk1 : n - l.length ≤ 1000 := by omega
    generalize hkk : n - l.length = k at *
    have Hk := Lib.hid hkk
    clear hkk
    have hmk := run_make_bytes (P := Try.prog) 50 5 i0 Try.underlying50 hi0 hz0 hz1 hz2 k (by omega) w
    have hcv := run_str_of (P := Try.prog) (w.alloc (.cells (List.replicate k (Value.int .u8 0)).toArray 5)) 50 9 5 Try.underlying50 Try.underlying5 Try.underlying9 noB (some ⟨w.heap.size, 0, none⟩) k k (List.replicate k 0)
      (by
        have h := SlR.of_bk (n := k) (size := 1) (S := noB) (Bk.new w 5 (List.replicate k (Value.int .u8 0)).toArray) (fun x => x) (by simp)
        rw [u8s_zeros]; simpa using h) (.inr ⟨_, _, rfl⟩)
    generalize hwa : w.alloc (.cells (List.replicate k (Value.int .u8 0)).toArray 5) = wa at *
    have hfa : Fr noB w wa := by rw [← hwa]; exact (Fr.refl _ _).alloc _
    clear hwa
    have hm0 : 0 ≤ (k : Int) := by omega
    go_enter Try.func22, Try.ntmps22
    go_wp2_with fail
    go_ret
    exact ⟨rfl, hfa⟩
end Go.Proofs.Ytcbkaiakdhiloab
