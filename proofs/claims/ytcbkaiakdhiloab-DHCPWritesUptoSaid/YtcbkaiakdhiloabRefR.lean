/- The walks of the reference's small words for reading: of, macOf, ipOf. -/
import Derived.Test.YtcbkaiakdhiloabOctR
set_option linter.unusedSimpArgs false
set_option linter.unusedVariables false
namespace Go.Proofs.Ytcbkaiakdhiloab
open Go.RowKit Go.Proofs
attribute [local go_sem] bs_size bs_append bs_extract bs_toList

theorem of_val (x : Nat) (b : UInt8) (hx : x < 281474976710656) : Value.int .i64 (wrap64 (256 * (x : Int) + wrap64 (b.toNat : Int))) = .int .i64 ((256 * x + b.toNat : Nat) : Int) := by
  have hb := b.toNat_lt
  rw [wr64 (n := (b.toNat : Int)) (by omega) (by omega), wr64 (by omega) (by omega)]
  congr 1
set_option maxRecDepth 20000 in
set_option maxHeartbeats 1000000 in
theorem refOf (l : List UInt8) (w : World) (hl : l.length ≤ 6) :
    Calls Try.prog 26 #[.string (bs l)] w fun e w' => e = .returned (.int .i64 (num l)) ∧ w = w' := by
  go_enter Try.func26, Try.ntmps26
  go_wp2_with fail
  go_loop [3, 4] (fun n i => ∃ j : Nat, j ≤ l.length ∧ i = .int .i64 j ∧ n = .int .i64 (num (l.take j) : Int)) (fun _ i => l.length - (intOf i).toNat)
  case atStart => exact ⟨0, by omega, rfl, rfl⟩
  case round =>
    obtain ⟨j, hj, rfl, rfl⟩ := hrel
    by_cases hlt : j < l.length
    · have hb : num (l.take j) < 281474976710656 := by
        have h := num_le (l.take j)
        have h2 : (l.take j).length ≤ 6 := by rw [List.length_take]; omega
        have h3 : 256 ^ (l.take j).length ≤ 256 ^ 6 := Nat.pow_le_pow_right (by omega) h2
        omega
      have Hs : Hid (num (l.take (j + 1)) = 256 * num (l.take j) + l[j].toNat) := by
        unfold Hid; rw [List.take_succ_eq_append_getElem hlt, num_snoc]
      have hgi : ∀ h : j < (bs l).size, (bs l)[j]'h = l[j] := fun h => bs_get l j h
      have hb8 := l[j].toNat_lt
      generalize num (l.take j) = x at *
      have hb2 : (x : Int) ≤ 281474976710656 := by omega
      go_wp2_with fail
      go_round
      case rel =>
        exact ⟨j + 1, by omega, by go_num, by rw [Hs.out] <;> go_num⟩
      case measure => simp [intOf]; omega
    · go_wp2_with fail
      go_ret
      obtain rfl : j = l.length := by omega
      rw [List.take_length]
      exact ⟨rfl, rfl⟩

theorem refIpOf (l : List UInt8) (w : World) (hl : l.length ≤ 4) :
    Calls Try.prog 30 #[.string (bs l)] w fun e w' => e = .returned (.int .u32 (num l)) ∧ w = w' := by
  have hb : num l < 4294967296 := by
    have h := num_le l
    have h3 : 256 ^ l.length ≤ 256 ^ 4 := Nat.pow_le_pow_right (by omega) hl
    omega
  go_enter Try.func30, Try.ntmps30
  go_wp2_with fail
  refine (refOf l _ (by omega)).mono ?_
  rintro e w1 ⟨rfl, rfl⟩
  generalize hnx : num l = x at *
  have Hx := Lib.hid hnx
  clear hnx
  have hx : IntKind.u32.wrap (x : Int) = x := by rw [IntKind.wrap_u32']; omega
  go_wp2_with fail
  go_ret
  exact ⟨by rw [Hx.out]; rfl, rfl⟩

/-- the first j bytes of six are those of a list, the others 0 -/
def part6 (a : List UInt8) (j : Nat) : Array Value := ((u8s (a.take j)) ++ List.replicate (6 - j) (Value.int .u8 0)).toArray
theorem part6_size (a : List UInt8) (j : Nat) (hj : j ≤ 6) (ha : 6 ≤ a.length) : (part6 a j).size = 6 := by simp [part6, u8s, List.length_take]; omega
theorem part6_set (a : List UInt8) (j : Nat) (hj : j < 6) (ha : 6 ≤ a.length) : (part6 a j).setIfInBounds j (.int .u8 ((a[j]'(by omega)).toNat : Int)) = part6 a (j + 1) := by
  match a, ha with
  | a0 :: a1 :: a2 :: a3 :: a4 :: a5 :: r, _ =>
    match j, hj with
    | 0, _ | 1, _ | 2, _ | 3, _ | 4, _ | 5, _ => rfl
set_option maxRecDepth 20000 in
set_option maxHeartbeats 1000000 in
theorem refMacOf (l : List UInt8) (w : World) (h6 : 6 ≤ l.length) (hl : l.length ≤ 9223372036854775807) :
    Calls Try.prog 31 #[.string (bs l)] w fun e w' => e = .returned (macV (macOf l)) ∧ Fr noB w w' := by
  go_enter Try.func31, Try.ntmps31
  go_wp2_with fail
  have hb1 := (Bk.new w 25 zero6).alloc (.cells zero6 25)
  have hb2 := Bk.new (w.alloc (.cells zero6 25)) 25 zero6
  rw [show (w.alloc (.cells zero6 25)).heap.size = w.heap.size + 1 by simp] at hb2
  have hf : Fr noB w ((w.alloc (.cells zero6 25)).alloc (.cells zero6 25)) := ((Fr.refl _ _).alloc _).alloc _
  unfold zero6 at hb1 hb2 hf
  generalize (w.alloc (.cells #[.int .u8 0, .int .u8 0, .int .u8 0, .int .u8 0, .int .u8 0, .int .u8 0] 25)).alloc (.cells #[.int .u8 0, .int .u8 0, .int .u8 0, .int .u8 0, .int .u8 0, .int .u8 0] 25) = w1 at *
  go_loopw [4] (fun i wr => ∃ j : Nat, j ≤ 6 ∧ i = .int .i64 j ∧ Bk wr w.heap.size 25 zero6 ∧ Bk wr (w.heap.size + 1) 25 (part6 l j) ∧ Fr noB w wr) (fun i _ => 6 - (intOf i).toNat)
  case atStart => exact ⟨0, by omega, rfl, hb1, hb2, hf⟩
  case round =>
    obtain ⟨j, hj, rfl, c1, c2, hfr⟩ := hrel
    by_cases hlt : j < 6
    · have hjl : j < l.length := by omega
      have hgi : ∀ h : j < (bs l).size, (bs l)[j]'h = l[j] := fun h => bs_get l j h
      have hps := part6_set l j hlt h6
      have hsz := part6_size l j (by omega) h6
      have hc := c2.cell j
      have hz := c2.free j
      have hset := c2.set j (.int .u8 (l[j].toNat : Int))
      rw [hps] at hset
      have Hset := Lib.hid hset
      have hc' : wr.cell? ⟨w.heap.size + 1, j, none⟩ = some ((part6 l j)[j]'(by omega)) := by rw [hc]; exact Array.getElem?_eq_getElem _
      generalize (part6 l j)[j]'(by omega) = old at *
      clear hps hset hc hsz
      go_wp2_with fail
      refine ⟨⟨j + 1, by omega, by go_num, c1.far (by simp) _, Hset.out, hfr.setCell (p := ⟨w.heap.size + 1, j, none⟩) (fun e => absurd e (by simp)) _⟩, by simp [intOf]; omega⟩
    · obtain rfl : j = 6 := by omega
      have hp6 : part6 l 6 = #[.int .u8 ((l.getD 0 0).toNat : Int), .int .u8 ((l.getD 1 0).toNat : Int), .int .u8 ((l.getD 2 0).toNat : Int), .int .u8 ((l.getD 3 0).toNat : Int), .int .u8 ((l.getD 4 0).toNat : Int), .int .u8 ((l.getD 5 0).toNat : Int)] := by
        match l, h6 with
        | a0 :: a1 :: a2 :: a3 :: a4 :: a5 :: r, _ => rfl
      rw [hp6] at c2
      have hv : macV (macOf l) = .agg #[.int .u8 ((l.getD 0 0).toNat : Int), .int .u8 ((l.getD 1 0).toNat : Int), .int .u8 ((l.getD 2 0).toNat : Int), .int .u8 ((l.getD 3 0).toNat : Int), .int .u8 ((l.getD 4 0).toNat : Int), .int .u8 ((l.getD 5 0).toNat : Int)] := rfl
      have Hv := Lib.hid hv
      clear hp6 hv hb1 hb2 hf
      generalize l.getD 0 0 = d0 at *
      generalize l.getD 1 0 = d1 at *
      generalize l.getD 2 0 = d2 at *
      generalize l.getD 3 0 = d3 at *
      generalize l.getD 4 0 = d4 at *
      generalize l.getD 5 0 = d5 at *
      have hc := c2.cells
      go_wp2_with ((refine wpList_store_bk rfl 25 (.tmp 2) (.tmp 14) rfl w.heap.size _ _ _ rfl rfl c1 rfl (by kernel_rfl) (by kernel_rfl) ?_); intro w9 hx9 hf9)
      have hcx := hx9.cells
      refine bodyPost_ret (v := .agg #[.int .u8 (d0.toNat : Int), .int .u8 (d1.toNat : Int), .int .u8 (d2.toNat : Int), .int .u8 (d3.toNat : Int), .int .u8 (d4.toNat : Int), .int .u8 (d5.toNat : Int)]) (by simp [results, Try.results31, go_sem, hcx]) rfl ?_
      exact ⟨by rw [Hv.out], hfr.trans' hf9 (fun b hb e => by unfold oneB at e; omega)⟩
end Go.Proofs.Ytcbkaiakdhiloab
