/- Parts of the walk; written by programs, merged. -/
import Derived.Test.YtcbkaiakdhiloabGreatDoorRao
set_option linter.unusedSimpArgs false
set_option linter.unusedVariables false
set_option maxRecDepth 20000
set_option maxHeartbeats 8000000
namespace Go.Proofs.YtcbkaiakdhiloabGreatDoor
open Go.RowKit Go.Proofs
attribute [local go_sem] bs_size bs_append bs_sub bs_toList
theorem num_sub1 (l : List UInt8) (i : Nat) (h : i < l.length) : num (sub l i (i + 1)) = l[i].toNat := by
  have e : sub l i (i + 1) = [l[i]] := by
    unfold sub
    rw [List.take_succ_eq_append_getElem h, List.drop_append_of_le_length (by simp; omega)]
    simp [List.drop_eq_nil_of_le]
  rw [e]; simp [num]
theorem byteI_at (l : List UInt8) (i : Nat) (h : i < l.length) : ∃ c : UInt8, (∀ h : i < (bs l).size, (bs l)[i]'h = c) ∧ num (sub l i (i + 1)) = c.toNat ∧ c.toNat < 256 :=
  ⟨l[i], fun h => bs_get l i h, num_sub1 l i h, UInt8.toNat_lt _⟩
theorem refReadIP (l : List UInt8) (w : World) (hl : l.length ≤ 1000000) :
    Calls Tryz.prog 183 #[.string (bs l)] w (ipPost l w) := by
  have hx0 := Bk.new w 36 zcIp4
  have hf0 : Fr noB w (w.alloc (.cells zcIp4 36)) := (Fr.refl _ _).alloc _
  unfold zcIp4 at hx0 hf0
  by_cases h14 : l.length < 20
  · have hs := Lib.hid (readIP_short l h14)
    go_enter Tryz.func183, Tryz.ntmps183
    go_wp2_with ((refine wpList_store_bk rfl 36 (.tmp 2) (.tmp 11) rfl w.heap.size _ _ zcIp4 rfl rfl hx0 rfl (by kernel_rfl) (by kernel_rfl) ?_); intro w9 hx9 hf9)
    refine bodyPost_ret (results_row_tmp Tryz.results183 _ w9 w.heap.size _ zcIp4 _ _ rfl rfl hx9 Tryz.underlying36 rfl (by kernel_rfl)) rfl ?_
    exact ⟨by rw [hs.out]; rfl, hf0.trans' hf9 (fun b hb e => by unfold oneB at e; omega)⟩
  · go_enter Tryz.func183, Tryz.ntmps183
    have h14' : ¬ (l.length : Int) < 20 := by omega
    obtain ⟨c0, hg0, s0, hb0⟩ := byteI_at l 0 (by omega)
    obtain ⟨c8, hg8, s8, hb8⟩ := byteI_at l 8 (by omega)
    obtain ⟨c9, hg9, s9, hb9⟩ := byteI_at l 9 (by omega)
    have hspec : Hid (readIP l = if c0.toNat / 16 ≠ 4 ∨ c0.toNat % 16 < 5 then (ip0, 2)
      else if 5 < c0.toNat % 16 then (ip0, 4)
      else if num (sub l 2 4) < 20 then (ip0, 2)
      else if l.length < num (sub l 2 4) then (ip0, 1)
      else if check (sub l 0 20) ≠ 0 then (ip0, 6)
      else if 32768 ≤ num (sub l 6 8) ∨ c8.toNat = 0 then (ip0, 2)
      else if num (sub l 6 8) % 16384 ≠ 0 then (ip0, 5)
      else (⟨num (sub l 4 6), c8.toNat, c9.toNat, num (sub l 12 16), num (sub l 16 20), sub l 20 (num (sub l 2 4))⟩, 0)) := by
      unfold Hid readIP
      rw [if_neg h14, s0, s8, s9]
    clear s0 s8 s9
    have hw0 : wrap64 (c0.toNat : Int) = c0.toNat := wr64 (by omega) (by omega)
    have q24 := sub_le l 2 4
    have q68 := sub_le l 6 8
    have q46 := sub_le l 4 6
    have h14'' : (20 : Int) ≤ l.length := by omega
    have h0l : 0 < l.length := by omega
    clear h14 h14'
    go_upto_region 4 with fail
    generalize w.alloc (.cells #[.int .u16 0, .int .u8 0, .int .u8 0, .int .u32 0, .int .u32 0, .string ⟨#[]⟩] 36) = w1 at *
    go_wp2_with fail
    refine (refOf (sub l 2 4) _ (by omega)).mono ?_
    rintro e w2 ⟨rfl, rfl⟩
    go_wp2_with fail
    refine (refOf (sub l 6 8) _ (by omega)).mono ?_
    rintro e w2 ⟨rfl, rfl⟩
    have n2 : num (sub l 2 4) < 65536 := by have h := num_le (sub l 2 4); rw [sub_length l 2 4 (by omega)] at h; exact h
    have n6 : num (sub l 6 8) < 65536 := by have h := num_le (sub l 6 8); rw [sub_length l 6 8 (by omega)] at h; exact h
    have n4 : num (sub l 4 6) < 65536 := by have h := num_le (sub l 4 6); rw [sub_length l 4 6 (by omega)] at h; exact h
    by_cases t1 : c0.toNat / 16 = 4
    rotate_left
    · have b1 : (((c0.toNat : Int) / 16) != 4) = true := by simp; omega
      have T1 : Hid (c0.toNat / 16 ≠ 4 ∨ c0.toNat % 16 < 5) := .inl t1
      clear t1
      go_wp2_with ((refine wpList_store_bk rfl 36 (.tmp 2) (.tmp 61) rfl w.heap.size _ _ zcIp4 rfl rfl hx0 rfl (by kernel_rfl) (by kernel_rfl) ?_); intro w9 hx9 hf9)
      refine bodyPost_ret (results_row_tmp Tryz.results183 _ w9 w.heap.size _ zcIp4 _ _ rfl rfl hx9 Tryz.underlying36 rfl (by kernel_rfl)) rfl ?_
      exact ⟨by rw [hspec.out, if_pos T1.out]; rfl, hf0.trans' hf9 (fun b hb e => by unfold oneB at e; omega)⟩
    have b1 : (((c0.toNat : Int) / 16) != 4) = false := by simp; omega
    by_cases t2 : c0.toNat % 16 < 5
    · have T2 : Hid (c0.toNat / 16 ≠ 4 ∨ c0.toNat % 16 < 5) := .inr t2
      have b2 : (c0.toNat : Int) % 16 < 5 := by omega
      clear t1 t2
      go_wp2_with ((refine wpList_store_bk rfl 36 (.tmp 2) (.tmp 61) rfl w.heap.size _ _ zcIp4 rfl rfl hx0 rfl (by kernel_rfl) (by kernel_rfl) ?_); intro w9 hx9 hf9)
      refine bodyPost_ret (results_row_tmp Tryz.results183 _ w9 w.heap.size _ zcIp4 _ _ rfl rfl hx9 Tryz.underlying36 rfl (by kernel_rfl)) rfl ?_
      exact ⟨by rw [hspec.out, if_pos T2.out]; rfl, hf0.trans' hf9 (fun b hb e => by unfold oneB at e; omega)⟩
    have T2 : Hid (¬ (c0.toNat / 16 ≠ 4 ∨ c0.toNat % 16 < 5)) := by unfold Hid; omega
    have b2 : ¬ (c0.toNat : Int) % 16 < 5 := by omega
    clear t1
    by_cases t3 : 5 < c0.toNat % 16
    · have T3 := Lib.hid t3
      have b3 : 5 < (c0.toNat : Int) % 16 := by omega
      clear t2 t3
      go_wp2_with ((refine wpList_store_bk rfl 36 (.tmp 2) (.tmp 61) rfl w.heap.size _ _ zcIp4 rfl rfl hx0 rfl (by kernel_rfl) (by kernel_rfl) ?_); intro w9 hx9 hf9)
      refine bodyPost_ret (results_row_tmp Tryz.results183 _ w9 w.heap.size _ zcIp4 _ _ rfl rfl hx9 Tryz.underlying36 rfl (by kernel_rfl)) rfl ?_
      exact ⟨by rw [hspec.out, if_neg T2.out, if_pos T3.out]; rfl, hf0.trans' hf9 (fun b hb e => by unfold oneB at e; omega)⟩
    have T3 := Lib.hid t3
    have b3 : ¬ 5 < (c0.toNat : Int) % 16 := by omega
    clear t2 t3
    by_cases t4 : num (sub l 2 4) < 20
    · have T4 := Lib.hid t4
      have b4 : (num (sub l 2 4) : Int) < 20 := by omega
      clear t4
      go_wp2_with ((refine wpList_store_bk rfl 36 (.tmp 2) (.tmp 61) rfl w.heap.size _ _ zcIp4 rfl rfl hx0 rfl (by kernel_rfl) (by kernel_rfl) ?_); intro w9 hx9 hf9)
      refine bodyPost_ret (results_row_tmp Tryz.results183 _ w9 w.heap.size _ zcIp4 _ _ rfl rfl hx9 Tryz.underlying36 rfl (by kernel_rfl)) rfl ?_
      exact ⟨by rw [hspec.out, if_neg T2.out, if_neg T3.out, if_pos T4.out]; rfl, hf0.trans' hf9 (fun b hb e => by unfold oneB at e; omega)⟩
    have T4 := Lib.hid t4
    have b4 : ¬ (num (sub l 2 4) : Int) < 20 := by omega
    clear t4
    by_cases t5 : l.length < num (sub l 2 4)
    · have T5 := Lib.hid t5
      have b5 : (l.length : Int) < (num (sub l 2 4) : Int) := by omega
      clear t5
      go_wp2_with ((refine wpList_store_bk rfl 36 (.tmp 2) (.tmp 61) rfl w.heap.size _ _ zcIp4 rfl rfl hx0 rfl (by kernel_rfl) (by kernel_rfl) ?_); intro w9 hx9 hf9)
      refine bodyPost_ret (results_row_tmp Tryz.results183 _ w9 w.heap.size _ zcIp4 _ _ rfl rfl hx9 Tryz.underlying36 rfl (by kernel_rfl)) rfl ?_
      exact ⟨by rw [hspec.out, if_neg T2.out, if_neg T3.out, if_neg T4.out, if_pos T5.out]; rfl, hf0.trans' hf9 (fun b hb e => by unfold oneB at e; omega)⟩
    have T5 := Lib.hid t5
    have b5 : ¬ (l.length : Int) < (num (sub l 2 4) : Int) := by omega
    clear t5
    go_wp2_with fail
    refine (refCheck_any (sub l 0 20) _ (by have := sub_le l 0 20; omega)).mono ?_
    rintro e w2 ⟨rfl, hf2⟩
    replace hx0 := hx0.keep hf2 (fun x => x)
    replace hf0 := hf0.none hf2
    clear hf2
    have hcl := check_le (sub l 0 20)
    generalize hck : check (sub l 0 20) = ck at *
    clear hck
    by_cases t6 : ck = 0
    rotate_left
    · have b6 : ((ck : Int) != 0) = true := by simp; omega
      have T6 := Lib.hid t6
      clear t6
      go_wp2_with ((refine wpList_store_bk rfl 36 (.tmp 2) (.tmp 61) rfl w.heap.size _ _ zcIp4 rfl rfl hx0 rfl (by kernel_rfl) (by kernel_rfl) ?_); intro w9 hx9 hf9)
      refine bodyPost_ret (results_row_tmp Tryz.results183 _ w9 w.heap.size _ zcIp4 _ _ rfl rfl hx9 Tryz.underlying36 rfl (by kernel_rfl)) rfl ?_
      exact ⟨by rw [hspec.out, if_neg T2.out, if_neg T3.out, if_neg T4.out, if_neg T5.out, if_pos T6.out]; rfl, hf0.trans' hf9 (fun b hb e => by unfold oneB at e; omega)⟩
    have b6 : ((ck : Int) != 0) = false := by simp; omega
    have T6 : Hid (¬ ck ≠ 0) := not_not_intro t6
    clear t6
    by_cases t7 : 32768 ≤ num (sub l 6 8)
    · have b7 : (32768 : Int) ≤ (num (sub l 6 8) : Int) := by omega
      have T7 : Hid (32768 ≤ num (sub l 6 8) ∨ c8.toNat = 0) := .inl t7
      clear t7
      go_wp2_with ((refine wpList_store_bk rfl 36 (.tmp 2) (.tmp 61) rfl w.heap.size _ _ zcIp4 rfl rfl hx0 rfl (by kernel_rfl) (by kernel_rfl) ?_); intro w9 hx9 hf9)
      refine bodyPost_ret (results_row_tmp Tryz.results183 _ w9 w.heap.size _ zcIp4 _ _ rfl rfl hx9 Tryz.underlying36 rfl (by kernel_rfl)) rfl ?_
      exact ⟨by rw [hspec.out, if_neg T2.out, if_neg T3.out, if_neg T4.out, if_neg T5.out, if_neg T6.out, if_pos T7.out]; rfl, hf0.trans' hf9 (fun b hb e => by unfold oneB at e; omega)⟩
    have b7 : decide ((32768 : Int) ≤ (num (sub l 6 8) : Int)) = false := by simp; omega
    by_cases t8 : c8.toNat = 0
    · have b8 : ((c8.toNat : Int) == 0) = true := by simp; omega
      have T7 : Hid (32768 ≤ num (sub l 6 8) ∨ c8.toNat = 0) := .inr t8
      clear t7 t8
      go_wp2_with ((refine wpList_store_bk rfl 36 (.tmp 2) (.tmp 61) rfl w.heap.size _ _ zcIp4 rfl rfl hx0 rfl (by kernel_rfl) (by kernel_rfl) ?_); intro w9 hx9 hf9)
      refine bodyPost_ret (results_row_tmp Tryz.results183 _ w9 w.heap.size _ zcIp4 _ _ rfl rfl hx9 Tryz.underlying36 rfl (by kernel_rfl)) rfl ?_
      exact ⟨by rw [hspec.out, if_neg T2.out, if_neg T3.out, if_neg T4.out, if_neg T5.out, if_neg T6.out, if_pos T7.out]; rfl, hf0.trans' hf9 (fun b hb e => by unfold oneB at e; omega)⟩
    have b8 : ((c8.toNat : Int) == 0) = false := by simp; omega
    have T7 : Hid (¬ (32768 ≤ num (sub l 6 8) ∨ c8.toNat = 0)) := by unfold Hid; omega
    clear t7 t8
    by_cases t9 : num (sub l 6 8) % 16384 = 0
    rotate_left
    · have b9 : ((num (sub l 6 8) : Int) % 16384 != 0) = true := by simp; omega
      have T9 := Lib.hid t9
      clear t9
      go_wp2_with ((refine wpList_store_bk rfl 36 (.tmp 2) (.tmp 61) rfl w.heap.size _ _ zcIp4 rfl rfl hx0 rfl (by kernel_rfl) (by kernel_rfl) ?_); intro w9 hx9 hf9)
      refine bodyPost_ret (results_row_tmp Tryz.results183 _ w9 w.heap.size _ zcIp4 _ _ rfl rfl hx9 Tryz.underlying36 rfl (by kernel_rfl)) rfl ?_
      exact ⟨by rw [hspec.out, if_neg T2.out, if_neg T3.out, if_neg T4.out, if_neg T5.out, if_neg T6.out, if_neg T7.out, if_pos T9.out]; rfl, hf0.trans' hf9 (fun b hb e => by unfold oneB at e; omega)⟩
    have b9 : ((num (sub l 6 8) : Int) % 16384 != 0) = false := by simp; omega
    have T9 : Hid (¬ num (sub l 6 8) % 16384 ≠ 0) := not_not_intro t9
    clear t9
    have n12 := sub_le l 12 16
    have n16 := sub_le l 16 20
    have e4 : IntKind.u16.wrap (num (sub l 4 6) : Int) = num (sub l 4 6) := by rw [IntKind.wrap_u16]; omega
    go_wp2_with fail
    have z6 : (6 : Int) ≤ (l.length : Int) := by omega
    have z16 : (16 : Int) ≤ (l.length : Int) := by omega
    have z8 : (8 : Int) < (l.length : Int) := by omega
    have z9 : (9 : Int) < (l.length : Int) := by omega
    have y8 : 8 < l.length := by omega
    have y9 : 9 < l.length := by omega
    refine wp_region_still_tail 18 (by kernel_rfl) (by kernel_rfl) ?_
    simp only [List.take_succ_cons, List.take_zero, List.drop_succ_cons, List.drop_zero]
    have hx1 := hx0.drew
    have hf1 := hf0.drew
    generalize hw2 : ({ w2 with drawn := w2.drawn + 1 } : World) = w3
    rw [show w2.drew = w3 from hw2] at hx1 hf1
    clear hw2
    repeat still_step
    still_call ((refOf (sub l 4 6) _ (by omega)).mono fun e w' h => ⟨h.1, h.2.symm⟩)
    repeat still_step
    still_call ((refIpOf (sub l 12 16) _ (by omega)).mono fun e w' h => ⟨h.1, h.2.symm⟩)
    repeat still_step
    still_call ((refIpOf (sub l 16 20) _ (by omega)).mono fun e w' h => ⟨h.1, h.2.symm⟩)
    repeat still_step
    refine wpStill_nil ?_
    go_wp2_with ((refine wpList_store_bk rfl 36 (.tmp 2) (.tmp 80) rfl w.heap.size _ _ (ipC ⟨num (sub l 4 6), c8.toNat, c9.toNat, num (sub l 12 16), num (sub l 16 20), sub l 20 (num (sub l 2 4))⟩) rfl rfl hx1 rfl (by kernel_rfl) (by kernel_rfl) ?_); intro w9 hx9 hf9)
    refine bodyPost_ret (results_row_tmp Tryz.results183 _ w9 w.heap.size _ (ipC ⟨num (sub l 4 6), c8.toNat, c9.toNat, num (sub l 12 16), num (sub l 16 20), sub l 20 (num (sub l 2 4))⟩) _ _ rfl rfl hx9 Tryz.underlying36 rfl (by kernel_rfl)) rfl ?_
    exact ⟨by rw [hspec.out, if_neg T2.out, if_neg T3.out, if_neg T4.out, if_neg T5.out, if_neg T6.out, if_neg T7.out, if_neg T9.out]; rfl, hf1.trans' hf9 (fun b hb e => by unfold oneB at e; omega)⟩
end Go.Proofs.YtcbkaiakdhiloabGreatDoor
namespace Go.Proofs.YtcbkaiakdhiloabGreatDoor
open Go.RowKit Go.Proofs
attribute [local go_sem] bs_size bs_append bs_sub bs_toList
theorem refReadUDP (l : List UInt8) (fi ti : Nat) (w : World) (hfi : fi < 4294967296) (hti : ti < 4294967296) (hl : l.length ≤ 900000) :
    Calls Tryz.prog 184 #[.string (bs l), .int .u32 (fi : Int), .int .u32 (ti : Int)] w (udpPost l fi ti w) := by
  have hx0 := Bk.new w 42 zcUdp
  have hf0 : Fr noB w (w.alloc (.cells zcUdp 42)) := (Fr.refl _ _).alloc _
  unfold zcUdp at hx0 hf0
  by_cases h14 : l.length < 8
  · have hspec := Lib.hid (readUDP_short l fi ti h14)
    go_enter Tryz.func184, Tryz.ntmps184
    go_wp2_with ((refine wpList_store_bk rfl 42 (.tmp 6) (.tmp 12) rfl w.heap.size _ _ zcUdp rfl rfl hx0 rfl (by kernel_rfl) (by kernel_rfl) ?_); intro w9 hx9 hf9)
    refine bodyPost_ret (results_row_tmp Tryz.results184 _ w9 w.heap.size _ zcUdp _ _ rfl rfl hx9 Tryz.underlying42 rfl (by kernel_rfl)) rfl ?_
    exact ⟨by rw [hspec.out]; rfl, hf0.trans' hf9 (fun b hb e => by unfold oneB at e; omega)⟩
  · go_enter Tryz.func184, Tryz.ntmps184
    have h14' : ¬ (l.length : Int) < 8 := by omega
    have z6 : (6 : Int) ≤ l.length := by omega
    have z8 : (8 : Int) ≤ l.length := by omega
    have z2 : (2 : Int) ≤ l.length := by omega
    have z4 : (4 : Int) ≤ l.length := by omega
    have hspec : Hid (readUDP l fi ti = if num (sub l 4 6) < 8 then (udp0, 2)
      else if l.length < num (sub l 4 6) then (udp0, 1)
      else if num (sub l 6 8) ≠ 0 ∧ check (besideB fi ti (num (sub l 4 6)) ++ sub l 0 (num (sub l 4 6))) ≠ 0 then (udp0, 6)
      else (⟨num (sub l 0 2), num (sub l 2 4), sub l 8 (num (sub l 4 6))⟩, 0)) := by
      unfold Hid readUDP; rw [if_neg h14]
    go_upto_region 3 with fail
    generalize w.alloc (.cells #[.int .u16 0, .int .u16 0, .string ⟨#[]⟩] 42) = w1 at *
    go_wp2_with fail
    refine (refOf (sub l 4 6) _ (by have := sub_le l 4 6; omega)).mono ?_
    rintro e w2 ⟨rfl, rfl⟩
    have n2 : num (sub l 4 6) < 65536 := by have h := num_le (sub l 4 6); rw [sub_length l 4 6 (by omega)] at h; exact h
    generalize num (sub l 4 6) = n at *
    clear h14
    by_cases t4 : n < 8
    · have T4 := Lib.hid t4
      have b4 : (n : Int) < 8 := by omega
      clear t4
      go_wp2_with ((refine wpList_store_bk rfl 42 (.tmp 6) (.tmp 18) rfl w.heap.size _ _ zcUdp rfl rfl hx0 rfl (by kernel_rfl) (by kernel_rfl) ?_); intro w9 hx9 hf9)
      refine bodyPost_ret (results_row_tmp Tryz.results184 _ w9 w.heap.size _ zcUdp _ _ rfl rfl hx9 Tryz.underlying42 rfl (by kernel_rfl)) rfl ?_
      exact ⟨by rw [hspec.out, if_pos T4.out]; rfl, hf0.trans' hf9 (fun b hb e => by unfold oneB at e; omega)⟩
    have T4 := Lib.hid t4
    have b4 : ¬ (n : Int) < 8 := by omega
    clear t4
    by_cases t5 : l.length < n
    · have T5 := Lib.hid t5
      have b5 : (l.length : Int) < (n : Int) := by omega
      clear t5
      go_wp2_with ((refine wpList_store_bk rfl 42 (.tmp 6) (.tmp 23) rfl w.heap.size _ _ zcUdp rfl rfl hx0 rfl (by kernel_rfl) (by kernel_rfl) ?_); intro w9 hx9 hf9)
      refine bodyPost_ret (results_row_tmp Tryz.results184 _ w9 w.heap.size _ zcUdp _ _ rfl rfl hx9 Tryz.underlying42 rfl (by kernel_rfl)) rfl ?_
      exact ⟨by rw [hspec.out, if_neg T4.out, if_pos T5.out]; rfl, hf0.trans' hf9 (fun b hb e => by unfold oneB at e; omega)⟩
    have T5 := Lib.hid t5
    have b5 : ¬ (l.length : Int) < (n : Int) := by omega
    clear t5
    go_upto_if 22 with fail
    go_cut [6, 7] from 9 to 22 (fun a b wx => a = .pointer (some ⟨w.heap.size, 0, none⟩) ∧ b = .int .i64 0 ∧ wx = w1)
    case first =>
      go_wp2_with fail
      go_meet
      case rel => exact ⟨rfl, rfl, rfl⟩
    case rest =>
    obtain ⟨rfl, rfl, rfl⟩ := hcut
    have b50 : (n : Int) ≤ (l.length : Int) := by omega
    have b00 : (0 : Int) ≤ (n : Int) := by omega
    go_upto_region 8 with fail
    obtain ⟨w1, rfl⟩ : ∃ w1, w1 = wc := ⟨_, rfl⟩
    go_cut [39] from 9 to 38 (fun c wx => c = .bool (decide (num (sub l 6 8) ≠ 0 ∧ check (besideB fi ti n ++ sub l 0 n) ≠ 0)) ∧ Fr noB w1 wx)
    case first =>
      by_cases h0 : num (sub l 6 8) = 0
      · have B27 : ((num (sub l 6 8) : Int) != 0) = false := by simp; omega
        have H0 := Lib.hid h0
        clear h0
        obtain ⟨V, hV⟩ : ∃ V : Nat → Value, V = (fun j => match j with | 0 => .string (bs l) | 1 => .string (bs (sub l 6 8)) | 2 => .int .i64 (num (sub l 6 8) : Int) | 3 => .bool false | 4 => .bool false | 5 => undef | 6 => undef | 7 => undef | 8 => undef | 9 => undef | 10 => undef | 11 => undef | 12 => undef | 13 => undef | 14 => undef | 15 => .bool false | _ => undef) := ⟨_, rfl⟩
        have v0 : V 0 = .string (bs l) := congrFun hV 0
        have v1 : V 1 = .string (bs (sub l 6 8)) := congrFun hV 1
        have v2 : V 2 = .int .i64 (num (sub l 6 8) : Int) := congrFun hV 2
        have v3 : V 3 = .bool false := congrFun hV 3
        have v4 : V 4 = .bool false := congrFun hV 4
        have v5 : V 5 = undef := congrFun hV 5
        have v6 : V 6 = undef := congrFun hV 6
        have v7 : V 7 = undef := congrFun hV 7
        have v8 : V 8 = undef := congrFun hV 8
        have v9 : V 9 = undef := congrFun hV 9
        have v10 : V 10 = undef := congrFun hV 10
        have v11 : V 11 = undef := congrFun hV 11
        have v12 : V 12 = undef := congrFun hV 12
        have v13 : V 13 = undef := congrFun hV 13
        have v14 : V 14 = undef := congrFun hV 14
        have v15 : V 15 = .bool false := congrFun hV 15
        clear hV
        refine wp_region_ssag (by kernel_rfl) (by kernel_rfl)
          (fun u => ⟨#[.string (bs l), .int .u32 (fi : Int), .int .u32 (ti : Int), undef, undef, undef, .pointer (some ⟨w.heap.size, 0, none⟩), .int .i64 0, .int .i64 (n : Int), u9, u10, u11, u12, u13, u14, u15, u16, u17, u18, u19, u20, u21, u22, u23, u 0, u 1, u 2, u 3, u 4, u 5, u 6, u 7, u 8, u 9, u 10, u 11, u 12, u 13, u 14, u 15, undef, undef, undef, undef, undef, undef, undef, undef, undef, undef, undef, undef, undef], []⟩)
          (fun j v w3 => v = V j)
          (fun L u w3 => Fr noB w1 w3) (fun j => undef) ((Fr.refl _ _).drew) ?_ ?_
        · rintro L u w3 i o hG hΦ ho hL hd K hK
          match i, ho with
          | 0, ho =>
            simp at ho; subst ho
            clear hΦ hd
            refine .inl ⟨rfl, ?_⟩
            go_simp
            exact hK _ _ v0.symm hG (fun _ _ _ h => h)
          | 1, ho =>
            simp at ho; subst ho
            have hu0 : u 0 = V 0 := hΦ 0 (hd ⟨0, .data⟩ (by simp) (by rfl))
            rw [v0] at hu0
            clear hΦ hd
            have hx : ∃ x, u = (upd x 0 (.string (bs l))) := ⟨u, by rw [← upd_self hu0]⟩
            clear hu0
            obtain ⟨x, rfl⟩ := hx
            simp only [upd, reduceIte, Nat.reduceEqDiff]
            refine .inl ⟨rfl, ?_⟩
            go_simp
            exact hK _ _ v1.symm hG (fun _ _ _ h => h)
          | 2, ho =>
            simp at ho; subst ho
            have hu1 : u 1 = V 1 := hΦ 1 (hd ⟨1, .data⟩ (by simp) (by rfl))
            rw [v1] at hu1
            clear hΦ hd
            have hG0 := hG
            have hx : ∃ x, u = (upd x 1 (.string (bs (sub l 6 8)))) := ⟨u, by rw [← upd_self hu1]⟩
            clear hu1
            obtain ⟨x, rfl⟩ := hx
            simp only [upd, reduceIte, Nat.reduceEqDiff]
            refine .inl ⟨rfl, ?_⟩
            go_simp
            refine (refOf (sub l 6 8) w3 (by have := sub_le l 6 8; omega)).mono ?_
            rintro e w4 ⟨rfl, rfl⟩
            exact hK _ _ v2.symm hG0 (fun _ _ _ h => h)
          | 3, ho =>
            simp at ho; subst ho
            have hu2 : u 2 = V 2 := hΦ 2 (hd ⟨2, .data⟩ (by simp) (by rfl))
            rw [v2] at hu2
            clear hΦ hd
            have hx : ∃ x, u = (upd x 2 (.int .i64 (num (sub l 6 8) : Int))) := ⟨u, by rw [← upd_self hu2]⟩
            clear hu2
            obtain ⟨x, rfl⟩ := hx
            simp only [upd, reduceIte, Nat.reduceEqDiff]
            refine .inl ⟨rfl, ?_⟩
            go_simp
            exact hK _ _ v3.symm hG (fun _ _ _ h => h)
          | 4, ho =>
            simp at ho; subst ho
            have hu3 : u 3 = V 3 := hΦ 3 (hd ⟨3, .data⟩ (by simp) (by rfl))
            rw [v3] at hu3
            clear hΦ hd
            have hx : ∃ x, u = (upd x 3 (.bool false)) := ⟨u, by rw [← upd_self hu3]⟩
            clear hu3
            obtain ⟨x, rfl⟩ := hx
            simp only [upd, reduceIte, Nat.reduceEqDiff]
            refine .inl ⟨rfl, ?_⟩
            go_simp
            exact hK _ _ v4.symm hG (fun _ _ _ h => h)
          | 5, ho =>
            simp at ho; subst ho
            have hu4 : u 4 = V 4 := hΦ 4 (hd ⟨4, .guard⟩ (by simp) (by rfl))
            rw [v4] at hu4
            clear hΦ hd
            have hx : ∃ x, u = (upd x 4 (.bool false)) := ⟨u, by rw [← upd_self hu4]⟩
            clear hu4
            obtain ⟨x, rfl⟩ := hx
            simp only [upd, reduceIte, Nat.reduceEqDiff]
            exact .inr ⟨rfl, hK undef _ v5.symm hG (fun _ _ _ h => h)⟩
          | 6, ho =>
            simp at ho; subst ho
            have hu4 : u 4 = V 4 := hΦ 4 (hd ⟨4, .guard⟩ (by simp) (by rfl))
            rw [v4] at hu4
            clear hΦ hd
            have hx : ∃ x, u = (upd x 4 (.bool false)) := ⟨u, by rw [← upd_self hu4]⟩
            clear hu4
            obtain ⟨x, rfl⟩ := hx
            simp only [upd, reduceIte, Nat.reduceEqDiff]
            exact .inr ⟨rfl, hK undef _ v6.symm hG (fun _ _ _ h => h)⟩
          | 7, ho =>
            simp at ho; subst ho
            have hu4 : u 4 = V 4 := hΦ 4 (hd ⟨4, .guard⟩ (by simp) (by rfl))
            rw [v4] at hu4
            clear hΦ hd
            have hx : ∃ x, u = (upd x 4 (.bool false)) := ⟨u, by rw [← upd_self hu4]⟩
            clear hu4
            obtain ⟨x, rfl⟩ := hx
            simp only [upd, reduceIte, Nat.reduceEqDiff]
            exact .inr ⟨rfl, hK undef _ v7.symm hG (fun _ _ _ h => h)⟩
          | 8, ho =>
            simp at ho; subst ho
            have hu5 : u 5 = V 5 := hΦ 5 (hd ⟨5, .data⟩ (by simp) (by rfl))
            rw [v5] at hu5
            have hu6 : u 6 = V 6 := hΦ 6 (hd ⟨6, .data⟩ (by simp) (by rfl))
            rw [v6] at hu6
            have hu7 : u 7 = V 7 := hΦ 7 (hd ⟨7, .data⟩ (by simp) (by rfl))
            rw [v7] at hu7
            have hu4 : u 4 = V 4 := hΦ 4 (hd ⟨4, .guard⟩ (by simp) (by rfl))
            rw [v4] at hu4
            clear hΦ hd
            have hx : ∃ x, u = (upd (upd (upd (upd x 5 (undef)) 6 (undef)) 7 (undef)) 4 (.bool false)) := ⟨u, by rw [← upd_self hu5, ← upd_self hu6, ← upd_self hu7, ← upd_self hu4]⟩
            clear hu5 hu6 hu7 hu4
            obtain ⟨x, rfl⟩ := hx
            simp only [upd, reduceIte, Nat.reduceEqDiff]
            exact .inr ⟨rfl, hK undef _ v8.symm hG (fun _ _ _ h => h)⟩
          | 9, ho =>
            simp at ho; subst ho
            have hu4 : u 4 = V 4 := hΦ 4 (hd ⟨4, .guard⟩ (by simp) (by rfl))
            rw [v4] at hu4
            clear hΦ hd
            have hx : ∃ x, u = (upd x 4 (.bool false)) := ⟨u, by rw [← upd_self hu4]⟩
            clear hu4
            obtain ⟨x, rfl⟩ := hx
            simp only [upd, reduceIte, Nat.reduceEqDiff]
            exact .inr ⟨rfl, hK undef _ v9.symm hG (fun _ _ _ h => h)⟩
          | 10, ho =>
            simp at ho; subst ho
            have hu4 : u 4 = V 4 := hΦ 4 (hd ⟨4, .guard⟩ (by simp) (by rfl))
            rw [v4] at hu4
            clear hΦ hd
            have hx : ∃ x, u = (upd x 4 (.bool false)) := ⟨u, by rw [← upd_self hu4]⟩
            clear hu4
            obtain ⟨x, rfl⟩ := hx
            simp only [upd, reduceIte, Nat.reduceEqDiff]
            exact .inr ⟨rfl, hK undef _ v10.symm hG (fun _ _ _ h => h)⟩
          | 11, ho =>
            simp at ho; subst ho
            have hu9 : u 9 = V 9 := hΦ 9 (hd ⟨9, .data⟩ (by simp) (by rfl))
            rw [v9] at hu9
            have hu10 : u 10 = V 10 := hΦ 10 (hd ⟨10, .data⟩ (by simp) (by rfl))
            rw [v10] at hu10
            have hu4 : u 4 = V 4 := hΦ 4 (hd ⟨4, .guard⟩ (by simp) (by rfl))
            rw [v4] at hu4
            clear hΦ hd
            have hx : ∃ x, u = (upd (upd (upd x 9 (undef)) 10 (undef)) 4 (.bool false)) := ⟨u, by rw [← upd_self hu9, ← upd_self hu10, ← upd_self hu4]⟩
            clear hu9 hu10 hu4
            obtain ⟨x, rfl⟩ := hx
            simp only [upd, reduceIte, Nat.reduceEqDiff]
            exact .inr ⟨rfl, hK undef _ v11.symm hG (fun _ _ _ h => h)⟩
          | 12, ho =>
            simp at ho; subst ho
            have hu8 : u 8 = V 8 := hΦ 8 (hd ⟨8, .data⟩ (by simp) (by rfl))
            rw [v8] at hu8
            have hu11 : u 11 = V 11 := hΦ 11 (hd ⟨11, .data⟩ (by simp) (by rfl))
            rw [v11] at hu11
            have hu4 : u 4 = V 4 := hΦ 4 (hd ⟨4, .guard⟩ (by simp) (by rfl))
            rw [v4] at hu4
            clear hΦ hd
            have hx : ∃ x, u = (upd (upd (upd x 8 (undef)) 11 (undef)) 4 (.bool false)) := ⟨u, by rw [← upd_self hu8, ← upd_self hu11, ← upd_self hu4]⟩
            clear hu8 hu11 hu4
            obtain ⟨x, rfl⟩ := hx
            simp only [upd, reduceIte, Nat.reduceEqDiff]
            exact .inr ⟨rfl, hK undef _ v12.symm hG (fun _ _ _ h => h)⟩
          | 13, ho =>
            simp at ho; subst ho
            have hu12 : u 12 = V 12 := hΦ 12 (hd ⟨12, .data⟩ (by simp) (by rfl))
            rw [v12] at hu12
            have hu4 : u 4 = V 4 := hΦ 4 (hd ⟨4, .guard⟩ (by simp) (by rfl))
            rw [v4] at hu4
            clear hΦ hd
            have hx : ∃ x, u = (upd (upd x 12 (undef)) 4 (.bool false)) := ⟨u, by rw [← upd_self hu12, ← upd_self hu4]⟩
            clear hu12 hu4
            obtain ⟨x, rfl⟩ := hx
            simp only [upd, reduceIte, Nat.reduceEqDiff]
            exact .inr ⟨rfl, hK undef _ v13.symm hG (fun _ _ _ h => h)⟩
          | 14, ho =>
            simp at ho; subst ho
            have hu13 : u 13 = V 13 := hΦ 13 (hd ⟨13, .data⟩ (by simp) (by rfl))
            rw [v13] at hu13
            have hu4 : u 4 = V 4 := hΦ 4 (hd ⟨4, .guard⟩ (by simp) (by rfl))
            rw [v4] at hu4
            clear hΦ hd
            have hx : ∃ x, u = (upd (upd x 13 (undef)) 4 (.bool false)) := ⟨u, by rw [← upd_self hu13, ← upd_self hu4]⟩
            clear hu13 hu4
            obtain ⟨x, rfl⟩ := hx
            simp only [upd, reduceIte, Nat.reduceEqDiff]
            exact .inr ⟨rfl, hK undef _ v14.symm hG (fun _ _ _ h => h)⟩
          | 15, ho =>
            simp at ho; subst ho
            have hu4 : u 4 = V 4 := hΦ 4 (hd ⟨4, .data⟩ (by simp) (by rfl))
            rw [v4] at hu4
            have hu14 : u 14 = V 14 := hΦ 14 (hd ⟨14, .data⟩ (by simp) (by rfl))
            rw [v14] at hu14
            clear hΦ hd
            have hx : ∃ x, u = (upd (upd x 4 (.bool false)) 14 (undef)) := ⟨u, by rw [← upd_self hu4, ← upd_self hu14]⟩
            clear hu4 hu14
            obtain ⟨x, rfl⟩ := hx
            simp only [upd, reduceIte, Nat.reduceEqDiff]
            refine .inl ⟨rfl, ?_⟩
            go_simp
            exact hK _ _ v15.symm hG (fun _ _ _ h => h)
        · rintro u w3 hu L hall hG
          have hG0 := hG
          have h15 : u 15 = V 15 := hu 15 (by simp)
          rw [v15] at h15
          clear hu hall
          rw [h15]
          go_wp2_with fail
          go_meet
          case rel => exact ⟨by simp [H0.out], hG0⟩
      · have B27 : ((num (sub l 6 8) : Int) != 0) = true := by simp; omega
        have H0 := Lib.hid h0
        clear h0
        by_cases hc : check (besideB fi ti n ++ sub l 0 n) = 0
        · have HC := Lib.hid hc
          clear hc
          obtain ⟨x1, Hx1⟩ : ∃ s : List UInt8, Hid (s = besideB fi ti n) := ⟨besideB fi ti n, Lib.hid rfl⟩
          obtain ⟨x2, Hx2⟩ : ∃ s : List UInt8, Hid (s = sub l 0 n) := ⟨sub l 0 n, Lib.hid rfl⟩
          obtain ⟨x3, Hx3⟩ : ∃ s : List UInt8, Hid (s = x1 ++ x2) := ⟨x1 ++ x2, Lib.hid rfl⟩
          have Lx1 : Hid (x1.length ≤ 12) := by unfold Hid; rw [Hx1.out]; first | (rw [beside_length]; omega) | (have hsl := sub_le l 0 n; omega) | (simp <;> omega)
          have Lx2 : Hid (x2.length ≤ 65536) := by have l_x1 := Lx1.out; unfold Hid; rw [Hx2.out]; first | (rw [beside_length]; omega) | (have hsl := sub_le l 0 n; omega) | (simp <;> omega)
          have Lx3 : Hid (x3.length ≤ 65548) := by have l_x1 := Lx1.out; have l_x2 := Lx2.out; unfold Hid; rw [Hx3.out]; first | (rw [beside_length]; omega) | (have hsl := sub_le l 0 n; omega) | (simp <;> omega)
          obtain ⟨V, hV⟩ : ∃ V : Nat → Value, V = (fun j => match j with | 0 => .string (bs l) | 1 => .string (bs (sub l 6 8)) | 2 => .int .i64 (num (sub l 6 8) : Int) | 3 => .bool true | 4 => .bool true | 5 => .int .u32 (fi : Int) | 6 => .int .u32 (ti : Int) | 7 => .int .i64 (n : Int) | 8 => .string (bs x1) | 9 => .string (bs l) | 10 => .int .i64 (n : Int) | 11 => .string (bs x2) | 12 => .string (bs x3) | 13 => .int .i64 (check x3 : Int) | 14 => .bool false | 15 => .bool false | _ => undef) := ⟨_, rfl⟩
          have v0 : V 0 = .string (bs l) := congrFun hV 0
          have v1 : V 1 = .string (bs (sub l 6 8)) := congrFun hV 1
          have v2 : V 2 = .int .i64 (num (sub l 6 8) : Int) := congrFun hV 2
          have v3 : V 3 = .bool true := congrFun hV 3
          have v4 : V 4 = .bool true := congrFun hV 4
          have v5 : V 5 = .int .u32 (fi : Int) := congrFun hV 5
          have v6 : V 6 = .int .u32 (ti : Int) := congrFun hV 6
          have v7 : V 7 = .int .i64 (n : Int) := congrFun hV 7
          have v8 : V 8 = .string (bs x1) := congrFun hV 8
          have v9 : V 9 = .string (bs l) := congrFun hV 9
          have v10 : V 10 = .int .i64 (n : Int) := congrFun hV 10
          have v11 : V 11 = .string (bs x2) := congrFun hV 11
          have v12 : V 12 = .string (bs x3) := congrFun hV 12
          have v13 : V 13 = .int .i64 (check x3 : Int) := congrFun hV 13
          have v14 : V 14 = .bool false := congrFun hV 14
          have v15 : V 15 = .bool false := congrFun hV 15
          clear hV
          refine wp_region_ssag (by kernel_rfl) (by kernel_rfl)
            (fun u => ⟨#[.string (bs l), .int .u32 (fi : Int), .int .u32 (ti : Int), undef, undef, undef, .pointer (some ⟨w.heap.size, 0, none⟩), .int .i64 0, .int .i64 (n : Int), u9, u10, u11, u12, u13, u14, u15, u16, u17, u18, u19, u20, u21, u22, u23, u 0, u 1, u 2, u 3, u 4, u 5, u 6, u 7, u 8, u 9, u 10, u 11, u 12, u 13, u 14, u 15, undef, undef, undef, undef, undef, undef, undef, undef, undef, undef, undef, undef, undef], []⟩)
            (fun j v w3 => v = V j)
            (fun L u w3 => Fr noB w1 w3) (fun j => undef) ((Fr.refl _ _).drew) ?_ ?_
          · rintro L u w3 i o hG hΦ ho hL hd K hK
            match i, ho with
            | 0, ho =>
              simp at ho; subst ho
              clear hΦ hd
              refine .inl ⟨rfl, ?_⟩
              go_simp
              exact hK _ _ v0.symm hG (fun _ _ _ h => h)
            | 1, ho =>
              simp at ho; subst ho
              have hu0 : u 0 = V 0 := hΦ 0 (hd ⟨0, .data⟩ (by simp) (by rfl))
              rw [v0] at hu0
              clear hΦ hd
              have hx : ∃ x, u = (upd x 0 (.string (bs l))) := ⟨u, by rw [← upd_self hu0]⟩
              clear hu0
              obtain ⟨x, rfl⟩ := hx
              simp only [upd, reduceIte, Nat.reduceEqDiff]
              refine .inl ⟨rfl, ?_⟩
              go_simp
              exact hK _ _ v1.symm hG (fun _ _ _ h => h)
            | 2, ho =>
              simp at ho; subst ho
              have hu1 : u 1 = V 1 := hΦ 1 (hd ⟨1, .data⟩ (by simp) (by rfl))
              rw [v1] at hu1
              clear hΦ hd
              have hG0 := hG
              have hx : ∃ x, u = (upd x 1 (.string (bs (sub l 6 8)))) := ⟨u, by rw [← upd_self hu1]⟩
              clear hu1
              obtain ⟨x, rfl⟩ := hx
              simp only [upd, reduceIte, Nat.reduceEqDiff]
              refine .inl ⟨rfl, ?_⟩
              go_simp
              refine (refOf (sub l 6 8) w3 (by have := sub_le l 6 8; omega)).mono ?_
              rintro e w4 ⟨rfl, rfl⟩
              exact hK _ _ v2.symm hG0 (fun _ _ _ h => h)
            | 3, ho =>
              simp at ho; subst ho
              have hu2 : u 2 = V 2 := hΦ 2 (hd ⟨2, .data⟩ (by simp) (by rfl))
              rw [v2] at hu2
              clear hΦ hd
              have hx : ∃ x, u = (upd x 2 (.int .i64 (num (sub l 6 8) : Int))) := ⟨u, by rw [← upd_self hu2]⟩
              clear hu2
              obtain ⟨x, rfl⟩ := hx
              simp only [upd, reduceIte, Nat.reduceEqDiff]
              refine .inl ⟨rfl, ?_⟩
              go_simp
              exact hK _ _ v3.symm hG (fun _ _ _ h => h)
            | 4, ho =>
              simp at ho; subst ho
              have hu3 : u 3 = V 3 := hΦ 3 (hd ⟨3, .data⟩ (by simp) (by rfl))
              rw [v3] at hu3
              clear hΦ hd
              have hx : ∃ x, u = (upd x 3 (.bool true)) := ⟨u, by rw [← upd_self hu3]⟩
              clear hu3
              obtain ⟨x, rfl⟩ := hx
              simp only [upd, reduceIte, Nat.reduceEqDiff]
              refine .inl ⟨rfl, ?_⟩
              go_simp
              exact hK _ _ v4.symm hG (fun _ _ _ h => h)
            | 5, ho =>
              simp at ho; subst ho
              have hu4 : u 4 = V 4 := hΦ 4 (hd ⟨4, .guard⟩ (by simp) (by rfl))
              rw [v4] at hu4
              clear hΦ hd
              have hx : ∃ x, u = (upd x 4 (.bool true)) := ⟨u, by rw [← upd_self hu4]⟩
              clear hu4
              obtain ⟨x, rfl⟩ := hx
              simp only [upd, reduceIte, Nat.reduceEqDiff]
              refine .inl ⟨rfl, ?_⟩
              go_simp
              exact hK _ _ v5.symm hG (fun _ _ _ h => h)
            | 6, ho =>
              simp at ho; subst ho
              have hu4 : u 4 = V 4 := hΦ 4 (hd ⟨4, .guard⟩ (by simp) (by rfl))
              rw [v4] at hu4
              clear hΦ hd
              have hx : ∃ x, u = (upd x 4 (.bool true)) := ⟨u, by rw [← upd_self hu4]⟩
              clear hu4
              obtain ⟨x, rfl⟩ := hx
              simp only [upd, reduceIte, Nat.reduceEqDiff]
              refine .inl ⟨rfl, ?_⟩
              go_simp
              exact hK _ _ v6.symm hG (fun _ _ _ h => h)
            | 7, ho =>
              simp at ho; subst ho
              have hu4 : u 4 = V 4 := hΦ 4 (hd ⟨4, .guard⟩ (by simp) (by rfl))
              rw [v4] at hu4
              clear hΦ hd
              have hx : ∃ x, u = (upd x 4 (.bool true)) := ⟨u, by rw [← upd_self hu4]⟩
              clear hu4
              obtain ⟨x, rfl⟩ := hx
              simp only [upd, reduceIte, Nat.reduceEqDiff]
              refine .inl ⟨rfl, ?_⟩
              go_simp
              exact hK _ _ v7.symm hG (fun _ _ _ h => h)
            | 8, ho =>
              simp at ho; subst ho
              have hu5 : u 5 = V 5 := hΦ 5 (hd ⟨5, .data⟩ (by simp) (by rfl))
              rw [v5] at hu5
              have hu6 : u 6 = V 6 := hΦ 6 (hd ⟨6, .data⟩ (by simp) (by rfl))
              rw [v6] at hu6
              have hu7 : u 7 = V 7 := hΦ 7 (hd ⟨7, .data⟩ (by simp) (by rfl))
              rw [v7] at hu7
              have hu4 : u 4 = V 4 := hΦ 4 (hd ⟨4, .guard⟩ (by simp) (by rfl))
              rw [v4] at hu4
              clear hΦ hd
              have hG0 := hG
              have hx : ∃ x, u = (upd (upd (upd (upd x 5 (.int .u32 (fi : Int))) 6 (.int .u32 (ti : Int))) 7 (.int .i64 (n : Int))) 4 (.bool true)) := ⟨u, by rw [← upd_self hu5, ← upd_self hu6, ← upd_self hu7, ← upd_self hu4]⟩
              clear hu5 hu6 hu7 hu4
              obtain ⟨x, rfl⟩ := hx
              simp only [upd, reduceIte, Nat.reduceEqDiff]
              refine .inl ⟨rfl, ?_⟩
              go_simp
              refine (refBeside fi ti (n : Int) w3 hfi hti (by omega) (by omega)).mono ?_
              rintro e w4 ⟨rfl, hf4⟩
              rw [Int.toNat_natCast, ← Hx1.out]
              exact hK _ _ v8.symm (hG0.none hf4) (fun _ _ _ h => h)
            | 9, ho =>
              simp at ho; subst ho
              have hu4 : u 4 = V 4 := hΦ 4 (hd ⟨4, .guard⟩ (by simp) (by rfl))
              rw [v4] at hu4
              clear hΦ hd
              have hx : ∃ x, u = (upd x 4 (.bool true)) := ⟨u, by rw [← upd_self hu4]⟩
              clear hu4
              obtain ⟨x, rfl⟩ := hx
              simp only [upd, reduceIte, Nat.reduceEqDiff]
              refine .inl ⟨rfl, ?_⟩
              go_simp
              exact hK _ _ v9.symm hG (fun _ _ _ h => h)
            | 10, ho =>
              simp at ho; subst ho
              have hu4 : u 4 = V 4 := hΦ 4 (hd ⟨4, .guard⟩ (by simp) (by rfl))
              rw [v4] at hu4
              clear hΦ hd
              have hx : ∃ x, u = (upd x 4 (.bool true)) := ⟨u, by rw [← upd_self hu4]⟩
              clear hu4
              obtain ⟨x, rfl⟩ := hx
              simp only [upd, reduceIte, Nat.reduceEqDiff]
              refine .inl ⟨rfl, ?_⟩
              go_simp
              exact hK _ _ v10.symm hG (fun _ _ _ h => h)
            | 11, ho =>
              simp at ho; subst ho
              have hu9 : u 9 = V 9 := hΦ 9 (hd ⟨9, .data⟩ (by simp) (by rfl))
              rw [v9] at hu9
              have hu10 : u 10 = V 10 := hΦ 10 (hd ⟨10, .data⟩ (by simp) (by rfl))
              rw [v10] at hu10
              have hu4 : u 4 = V 4 := hΦ 4 (hd ⟨4, .guard⟩ (by simp) (by rfl))
              rw [v4] at hu4
              clear hΦ hd
              have hx : ∃ x, u = (upd (upd (upd x 9 (.string (bs l))) 10 (.int .i64 (n : Int))) 4 (.bool true)) := ⟨u, by rw [← upd_self hu9, ← upd_self hu10, ← upd_self hu4]⟩
              clear hu9 hu10 hu4
              obtain ⟨x, rfl⟩ := hx
              simp only [upd, reduceIte, Nat.reduceEqDiff]
              refine .inl ⟨rfl, ?_⟩
              go_simp
              rw [← Hx2.out]
              exact hK _ _ v11.symm hG (fun _ _ _ h => h)
            | 12, ho =>
              simp at ho; subst ho
              have hu8 : u 8 = V 8 := hΦ 8 (hd ⟨8, .data⟩ (by simp) (by rfl))
              rw [v8] at hu8
              have hu11 : u 11 = V 11 := hΦ 11 (hd ⟨11, .data⟩ (by simp) (by rfl))
              rw [v11] at hu11
              have hu4 : u 4 = V 4 := hΦ 4 (hd ⟨4, .guard⟩ (by simp) (by rfl))
              rw [v4] at hu4
              clear hΦ hd
              have hx : ∃ x, u = (upd (upd (upd x 8 (.string (bs x1))) 11 (.string (bs x2))) 4 (.bool true)) := ⟨u, by rw [← upd_self hu8, ← upd_self hu11, ← upd_self hu4]⟩
              clear hu8 hu11 hu4
              obtain ⟨x, rfl⟩ := hx
              simp only [upd, reduceIte, Nat.reduceEqDiff]
              refine .inl ⟨rfl, ?_⟩
              have hln : ¬ 9223372036854775807 < x1.length + x2.length := by have l1 := Lx1.out; have l2 := Lx2.out; omega
              go_simp
              rw [← Hx3.out]
              exact hK _ _ v12.symm hG (fun _ _ _ h => h)
            | 13, ho =>
              simp at ho; subst ho
              have hu12 : u 12 = V 12 := hΦ 12 (hd ⟨12, .data⟩ (by simp) (by rfl))
              rw [v12] at hu12
              have hu4 : u 4 = V 4 := hΦ 4 (hd ⟨4, .guard⟩ (by simp) (by rfl))
              rw [v4] at hu4
              clear hΦ hd
              have hG0 := hG
              have hx : ∃ x, u = (upd (upd x 12 (.string (bs x3))) 4 (.bool true)) := ⟨u, by rw [← upd_self hu12, ← upd_self hu4]⟩
              clear hu12 hu4
              obtain ⟨x, rfl⟩ := hx
              simp only [upd, reduceIte, Nat.reduceEqDiff]
              refine .inl ⟨rfl, ?_⟩
              go_simp
              refine (refCheck_any x3 w3 (by have := Lx3.out; omega)).mono ?_
              rintro e w4 ⟨rfl, hf4⟩
              exact hK _ _ v13.symm (hG0.none hf4) (fun _ _ _ h => h)
            | 14, ho =>
              simp at ho; subst ho
              have hu13 : u 13 = V 13 := hΦ 13 (hd ⟨13, .data⟩ (by simp) (by rfl))
              rw [v13] at hu13
              have hu4 : u 4 = V 4 := hΦ 4 (hd ⟨4, .guard⟩ (by simp) (by rfl))
              rw [v4] at hu4
              clear hΦ hd
              have hx : ∃ x, u = (upd (upd x 13 (.int .i64 (check x3 : Int))) 4 (.bool true)) := ⟨u, by rw [← upd_self hu13, ← upd_self hu4]⟩
              clear hu13 hu4
              obtain ⟨x, rfl⟩ := hx
              simp only [upd, reduceIte, Nat.reduceEqDiff]
              refine .inl ⟨rfl, ?_⟩
              have hck : ((check x3 : Int) != 0) = false := by rw [Hx3.out, Hx1.out, Hx2.out, HC.out]; rfl
              go_simp
              exact hK _ _ v14.symm hG (fun _ _ _ h => h)
            | 15, ho =>
              simp at ho; subst ho
              have hu4 : u 4 = V 4 := hΦ 4 (hd ⟨4, .data⟩ (by simp) (by rfl))
              rw [v4] at hu4
              have hu14 : u 14 = V 14 := hΦ 14 (hd ⟨14, .data⟩ (by simp) (by rfl))
              rw [v14] at hu14
              clear hΦ hd
              have hx : ∃ x, u = (upd (upd x 4 (.bool true)) 14 (.bool false)) := ⟨u, by rw [← upd_self hu4, ← upd_self hu14]⟩
              clear hu4 hu14
              obtain ⟨x, rfl⟩ := hx
              simp only [upd, reduceIte, Nat.reduceEqDiff]
              refine .inl ⟨rfl, ?_⟩
              go_simp
              exact hK _ _ v15.symm hG (fun _ _ _ h => h)
          · rintro u w3 hu L hall hG
            have hG0 := hG
            have h15 : u 15 = V 15 := hu 15 (by simp)
            rw [v15] at h15
            clear hu hall
            rw [h15]
            go_wp2_with fail
            go_meet
            case rel => exact ⟨by simp [HC.out], hG0⟩
        · have HC := Lib.hid hc
          clear hc
          obtain ⟨x1, Hx1⟩ : ∃ s : List UInt8, Hid (s = besideB fi ti n) := ⟨besideB fi ti n, Lib.hid rfl⟩
          obtain ⟨x2, Hx2⟩ : ∃ s : List UInt8, Hid (s = sub l 0 n) := ⟨sub l 0 n, Lib.hid rfl⟩
          obtain ⟨x3, Hx3⟩ : ∃ s : List UInt8, Hid (s = x1 ++ x2) := ⟨x1 ++ x2, Lib.hid rfl⟩
          have Lx1 : Hid (x1.length ≤ 12) := by unfold Hid; rw [Hx1.out]; first | (rw [beside_length]; omega) | (have hsl := sub_le l 0 n; omega) | (simp <;> omega)
          have Lx2 : Hid (x2.length ≤ 65536) := by have l_x1 := Lx1.out; unfold Hid; rw [Hx2.out]; first | (rw [beside_length]; omega) | (have hsl := sub_le l 0 n; omega) | (simp <;> omega)
          have Lx3 : Hid (x3.length ≤ 65548) := by have l_x1 := Lx1.out; have l_x2 := Lx2.out; unfold Hid; rw [Hx3.out]; first | (rw [beside_length]; omega) | (have hsl := sub_le l 0 n; omega) | (simp <;> omega)
          obtain ⟨V, hV⟩ : ∃ V : Nat → Value, V = (fun j => match j with | 0 => .string (bs l) | 1 => .string (bs (sub l 6 8)) | 2 => .int .i64 (num (sub l 6 8) : Int) | 3 => .bool true | 4 => .bool true | 5 => .int .u32 (fi : Int) | 6 => .int .u32 (ti : Int) | 7 => .int .i64 (n : Int) | 8 => .string (bs x1) | 9 => .string (bs l) | 10 => .int .i64 (n : Int) | 11 => .string (bs x2) | 12 => .string (bs x3) | 13 => .int .i64 (check x3 : Int) | 14 => .bool true | 15 => .bool true | _ => undef) := ⟨_, rfl⟩
          have v0 : V 0 = .string (bs l) := congrFun hV 0
          have v1 : V 1 = .string (bs (sub l 6 8)) := congrFun hV 1
          have v2 : V 2 = .int .i64 (num (sub l 6 8) : Int) := congrFun hV 2
          have v3 : V 3 = .bool true := congrFun hV 3
          have v4 : V 4 = .bool true := congrFun hV 4
          have v5 : V 5 = .int .u32 (fi : Int) := congrFun hV 5
          have v6 : V 6 = .int .u32 (ti : Int) := congrFun hV 6
          have v7 : V 7 = .int .i64 (n : Int) := congrFun hV 7
          have v8 : V 8 = .string (bs x1) := congrFun hV 8
          have v9 : V 9 = .string (bs l) := congrFun hV 9
          have v10 : V 10 = .int .i64 (n : Int) := congrFun hV 10
          have v11 : V 11 = .string (bs x2) := congrFun hV 11
          have v12 : V 12 = .string (bs x3) := congrFun hV 12
          have v13 : V 13 = .int .i64 (check x3 : Int) := congrFun hV 13
          have v14 : V 14 = .bool true := congrFun hV 14
          have v15 : V 15 = .bool true := congrFun hV 15
          clear hV
          refine wp_region_ssag (by kernel_rfl) (by kernel_rfl)
            (fun u => ⟨#[.string (bs l), .int .u32 (fi : Int), .int .u32 (ti : Int), undef, undef, undef, .pointer (some ⟨w.heap.size, 0, none⟩), .int .i64 0, .int .i64 (n : Int), u9, u10, u11, u12, u13, u14, u15, u16, u17, u18, u19, u20, u21, u22, u23, u 0, u 1, u 2, u 3, u 4, u 5, u 6, u 7, u 8, u 9, u 10, u 11, u 12, u 13, u 14, u 15, undef, undef, undef, undef, undef, undef, undef, undef, undef, undef, undef, undef, undef], []⟩)
            (fun j v w3 => v = V j)
            (fun L u w3 => Fr noB w1 w3) (fun j => undef) ((Fr.refl _ _).drew) ?_ ?_
          · rintro L u w3 i o hG hΦ ho hL hd K hK
            match i, ho with
            | 0, ho =>
              simp at ho; subst ho
              clear hΦ hd
              refine .inl ⟨rfl, ?_⟩
              go_simp
              exact hK _ _ v0.symm hG (fun _ _ _ h => h)
            | 1, ho =>
              simp at ho; subst ho
              have hu0 : u 0 = V 0 := hΦ 0 (hd ⟨0, .data⟩ (by simp) (by rfl))
              rw [v0] at hu0
              clear hΦ hd
              have hx : ∃ x, u = (upd x 0 (.string (bs l))) := ⟨u, by rw [← upd_self hu0]⟩
              clear hu0
              obtain ⟨x, rfl⟩ := hx
              simp only [upd, reduceIte, Nat.reduceEqDiff]
              refine .inl ⟨rfl, ?_⟩
              go_simp
              exact hK _ _ v1.symm hG (fun _ _ _ h => h)
            | 2, ho =>
              simp at ho; subst ho
              have hu1 : u 1 = V 1 := hΦ 1 (hd ⟨1, .data⟩ (by simp) (by rfl))
              rw [v1] at hu1
              clear hΦ hd
              have hG0 := hG
              have hx : ∃ x, u = (upd x 1 (.string (bs (sub l 6 8)))) := ⟨u, by rw [← upd_self hu1]⟩
              clear hu1
              obtain ⟨x, rfl⟩ := hx
              simp only [upd, reduceIte, Nat.reduceEqDiff]
              refine .inl ⟨rfl, ?_⟩
              go_simp
              refine (refOf (sub l 6 8) w3 (by have := sub_le l 6 8; omega)).mono ?_
              rintro e w4 ⟨rfl, rfl⟩
              exact hK _ _ v2.symm hG0 (fun _ _ _ h => h)
            | 3, ho =>
              simp at ho; subst ho
              have hu2 : u 2 = V 2 := hΦ 2 (hd ⟨2, .data⟩ (by simp) (by rfl))
              rw [v2] at hu2
              clear hΦ hd
              have hx : ∃ x, u = (upd x 2 (.int .i64 (num (sub l 6 8) : Int))) := ⟨u, by rw [← upd_self hu2]⟩
              clear hu2
              obtain ⟨x, rfl⟩ := hx
              simp only [upd, reduceIte, Nat.reduceEqDiff]
              refine .inl ⟨rfl, ?_⟩
              go_simp
              exact hK _ _ v3.symm hG (fun _ _ _ h => h)
            | 4, ho =>
              simp at ho; subst ho
              have hu3 : u 3 = V 3 := hΦ 3 (hd ⟨3, .data⟩ (by simp) (by rfl))
              rw [v3] at hu3
              clear hΦ hd
              have hx : ∃ x, u = (upd x 3 (.bool true)) := ⟨u, by rw [← upd_self hu3]⟩
              clear hu3
              obtain ⟨x, rfl⟩ := hx
              simp only [upd, reduceIte, Nat.reduceEqDiff]
              refine .inl ⟨rfl, ?_⟩
              go_simp
              exact hK _ _ v4.symm hG (fun _ _ _ h => h)
            | 5, ho =>
              simp at ho; subst ho
              have hu4 : u 4 = V 4 := hΦ 4 (hd ⟨4, .guard⟩ (by simp) (by rfl))
              rw [v4] at hu4
              clear hΦ hd
              have hx : ∃ x, u = (upd x 4 (.bool true)) := ⟨u, by rw [← upd_self hu4]⟩
              clear hu4
              obtain ⟨x, rfl⟩ := hx
              simp only [upd, reduceIte, Nat.reduceEqDiff]
              refine .inl ⟨rfl, ?_⟩
              go_simp
              exact hK _ _ v5.symm hG (fun _ _ _ h => h)
            | 6, ho =>
              simp at ho; subst ho
              have hu4 : u 4 = V 4 := hΦ 4 (hd ⟨4, .guard⟩ (by simp) (by rfl))
              rw [v4] at hu4
              clear hΦ hd
              have hx : ∃ x, u = (upd x 4 (.bool true)) := ⟨u, by rw [← upd_self hu4]⟩
              clear hu4
              obtain ⟨x, rfl⟩ := hx
              simp only [upd, reduceIte, Nat.reduceEqDiff]
              refine .inl ⟨rfl, ?_⟩
              go_simp
              exact hK _ _ v6.symm hG (fun _ _ _ h => h)
            | 7, ho =>
              simp at ho; subst ho
              have hu4 : u 4 = V 4 := hΦ 4 (hd ⟨4, .guard⟩ (by simp) (by rfl))
              rw [v4] at hu4
              clear hΦ hd
              have hx : ∃ x, u = (upd x 4 (.bool true)) := ⟨u, by rw [← upd_self hu4]⟩
              clear hu4
              obtain ⟨x, rfl⟩ := hx
              simp only [upd, reduceIte, Nat.reduceEqDiff]
              refine .inl ⟨rfl, ?_⟩
              go_simp
              exact hK _ _ v7.symm hG (fun _ _ _ h => h)
            | 8, ho =>
              simp at ho; subst ho
              have hu5 : u 5 = V 5 := hΦ 5 (hd ⟨5, .data⟩ (by simp) (by rfl))
              rw [v5] at hu5
              have hu6 : u 6 = V 6 := hΦ 6 (hd ⟨6, .data⟩ (by simp) (by rfl))
              rw [v6] at hu6
              have hu7 : u 7 = V 7 := hΦ 7 (hd ⟨7, .data⟩ (by simp) (by rfl))
              rw [v7] at hu7
              have hu4 : u 4 = V 4 := hΦ 4 (hd ⟨4, .guard⟩ (by simp) (by rfl))
              rw [v4] at hu4
              clear hΦ hd
              have hG0 := hG
              have hx : ∃ x, u = (upd (upd (upd (upd x 5 (.int .u32 (fi : Int))) 6 (.int .u32 (ti : Int))) 7 (.int .i64 (n : Int))) 4 (.bool true)) := ⟨u, by rw [← upd_self hu5, ← upd_self hu6, ← upd_self hu7, ← upd_self hu4]⟩
              clear hu5 hu6 hu7 hu4
              obtain ⟨x, rfl⟩ := hx
              simp only [upd, reduceIte, Nat.reduceEqDiff]
              refine .inl ⟨rfl, ?_⟩
              go_simp
              refine (refBeside fi ti (n : Int) w3 hfi hti (by omega) (by omega)).mono ?_
              rintro e w4 ⟨rfl, hf4⟩
              rw [Int.toNat_natCast, ← Hx1.out]
              exact hK _ _ v8.symm (hG0.none hf4) (fun _ _ _ h => h)
            | 9, ho =>
              simp at ho; subst ho
              have hu4 : u 4 = V 4 := hΦ 4 (hd ⟨4, .guard⟩ (by simp) (by rfl))
              rw [v4] at hu4
              clear hΦ hd
              have hx : ∃ x, u = (upd x 4 (.bool true)) := ⟨u, by rw [← upd_self hu4]⟩
              clear hu4
              obtain ⟨x, rfl⟩ := hx
              simp only [upd, reduceIte, Nat.reduceEqDiff]
              refine .inl ⟨rfl, ?_⟩
              go_simp
              exact hK _ _ v9.symm hG (fun _ _ _ h => h)
            | 10, ho =>
              simp at ho; subst ho
              have hu4 : u 4 = V 4 := hΦ 4 (hd ⟨4, .guard⟩ (by simp) (by rfl))
              rw [v4] at hu4
              clear hΦ hd
              have hx : ∃ x, u = (upd x 4 (.bool true)) := ⟨u, by rw [← upd_self hu4]⟩
              clear hu4
              obtain ⟨x, rfl⟩ := hx
              simp only [upd, reduceIte, Nat.reduceEqDiff]
              refine .inl ⟨rfl, ?_⟩
              go_simp
              exact hK _ _ v10.symm hG (fun _ _ _ h => h)
            | 11, ho =>
              simp at ho; subst ho
              have hu9 : u 9 = V 9 := hΦ 9 (hd ⟨9, .data⟩ (by simp) (by rfl))
              rw [v9] at hu9
              have hu10 : u 10 = V 10 := hΦ 10 (hd ⟨10, .data⟩ (by simp) (by rfl))
              rw [v10] at hu10
              have hu4 : u 4 = V 4 := hΦ 4 (hd ⟨4, .guard⟩ (by simp) (by rfl))
              rw [v4] at hu4
              clear hΦ hd
              have hx : ∃ x, u = (upd (upd (upd x 9 (.string (bs l))) 10 (.int .i64 (n : Int))) 4 (.bool true)) := ⟨u, by rw [← upd_self hu9, ← upd_self hu10, ← upd_self hu4]⟩
              clear hu9 hu10 hu4
              obtain ⟨x, rfl⟩ := hx
              simp only [upd, reduceIte, Nat.reduceEqDiff]
              refine .inl ⟨rfl, ?_⟩
              go_simp
              rw [← Hx2.out]
              exact hK _ _ v11.symm hG (fun _ _ _ h => h)
            | 12, ho =>
              simp at ho; subst ho
              have hu8 : u 8 = V 8 := hΦ 8 (hd ⟨8, .data⟩ (by simp) (by rfl))
              rw [v8] at hu8
              have hu11 : u 11 = V 11 := hΦ 11 (hd ⟨11, .data⟩ (by simp) (by rfl))
              rw [v11] at hu11
              have hu4 : u 4 = V 4 := hΦ 4 (hd ⟨4, .guard⟩ (by simp) (by rfl))
              rw [v4] at hu4
              clear hΦ hd
              have hx : ∃ x, u = (upd (upd (upd x 8 (.string (bs x1))) 11 (.string (bs x2))) 4 (.bool true)) := ⟨u, by rw [← upd_self hu8, ← upd_self hu11, ← upd_self hu4]⟩
              clear hu8 hu11 hu4
              obtain ⟨x, rfl⟩ := hx
              simp only [upd, reduceIte, Nat.reduceEqDiff]
              refine .inl ⟨rfl, ?_⟩
              have hln : ¬ 9223372036854775807 < x1.length + x2.length := by have l1 := Lx1.out; have l2 := Lx2.out; omega
              go_simp
              rw [← Hx3.out]
              exact hK _ _ v12.symm hG (fun _ _ _ h => h)
            | 13, ho =>
              simp at ho; subst ho
              have hu12 : u 12 = V 12 := hΦ 12 (hd ⟨12, .data⟩ (by simp) (by rfl))
              rw [v12] at hu12
              have hu4 : u 4 = V 4 := hΦ 4 (hd ⟨4, .guard⟩ (by simp) (by rfl))
              rw [v4] at hu4
              clear hΦ hd
              have hG0 := hG
              have hx : ∃ x, u = (upd (upd x 12 (.string (bs x3))) 4 (.bool true)) := ⟨u, by rw [← upd_self hu12, ← upd_self hu4]⟩
              clear hu12 hu4
              obtain ⟨x, rfl⟩ := hx
              simp only [upd, reduceIte, Nat.reduceEqDiff]
              refine .inl ⟨rfl, ?_⟩
              go_simp
              refine (refCheck_any x3 w3 (by have := Lx3.out; omega)).mono ?_
              rintro e w4 ⟨rfl, hf4⟩
              exact hK _ _ v13.symm (hG0.none hf4) (fun _ _ _ h => h)
            | 14, ho =>
              simp at ho; subst ho
              have hu13 : u 13 = V 13 := hΦ 13 (hd ⟨13, .data⟩ (by simp) (by rfl))
              rw [v13] at hu13
              have hu4 : u 4 = V 4 := hΦ 4 (hd ⟨4, .guard⟩ (by simp) (by rfl))
              rw [v4] at hu4
              clear hΦ hd
              have hx : ∃ x, u = (upd (upd x 13 (.int .i64 (check x3 : Int))) 4 (.bool true)) := ⟨u, by rw [← upd_self hu13, ← upd_self hu4]⟩
              clear hu13 hu4
              obtain ⟨x, rfl⟩ := hx
              simp only [upd, reduceIte, Nat.reduceEqDiff]
              refine .inl ⟨rfl, ?_⟩
              have hck : ((check x3 : Int) != 0) = true := by rw [Hx3.out, Hx1.out, Hx2.out]; simp; exact HC.out
              go_simp
              exact hK _ _ v14.symm hG (fun _ _ _ h => h)
            | 15, ho =>
              simp at ho; subst ho
              have hu4 : u 4 = V 4 := hΦ 4 (hd ⟨4, .data⟩ (by simp) (by rfl))
              rw [v4] at hu4
              have hu14 : u 14 = V 14 := hΦ 14 (hd ⟨14, .data⟩ (by simp) (by rfl))
              rw [v14] at hu14
              clear hΦ hd
              have hx : ∃ x, u = (upd (upd x 4 (.bool true)) 14 (.bool true)) := ⟨u, by rw [← upd_self hu4, ← upd_self hu14]⟩
              clear hu4 hu14
              obtain ⟨x, rfl⟩ := hx
              simp only [upd, reduceIte, Nat.reduceEqDiff]
              refine .inl ⟨rfl, ?_⟩
              go_simp
              exact hK _ _ v15.symm hG (fun _ _ _ h => h)
          · rintro u w3 hu L hall hG
            have hG0 := hG
            have h15 : u 15 = V 15 := hu 15 (by simp)
            rw [v15] at h15
            clear hu hall
            rw [h15]
            go_wp2_with fail
            go_meet
            case rel => exact ⟨by simp [H0.out, HC.out], hG0⟩
    case rest =>
    obtain ⟨rfl, hfc⟩ := hcut
    replace hx0 := hx0.keep hfc (fun x => x)
    replace hf0 := hf0.none hfc
    clear hfc
    by_cases t6 : num (sub l 6 8) ≠ 0 ∧ check (besideB fi ti n ++ sub l 0 n) ≠ 0
    · have T6 := Lib.hid t6
      rw [show decide (num (sub l 6 8) ≠ 0 ∧ check (besideB fi ti n ++ sub l 0 n) ≠ 0) = true by exact decide_eq_true t6]
      clear t6
      go_wp2_with ((refine wpList_store_bk rfl 42 (.tmp 6) (.tmp 40) rfl w.heap.size _ _ zcUdp rfl rfl hx0 rfl (by kernel_rfl) (by kernel_rfl) ?_); intro w9 hx9 hf9)
      refine bodyPost_ret (results_row_tmp Tryz.results184 _ w9 w.heap.size _ zcUdp _ _ rfl rfl hx9 Tryz.underlying42 rfl (by kernel_rfl)) rfl ?_
      exact ⟨by rw [hspec.out, if_neg T4.out, if_neg T5.out, if_pos T6.out]; rfl, hf0.trans' hf9 (fun b hb e => by unfold oneB at e; omega)⟩
    have T6 := Lib.hid t6
    rw [show decide (num (sub l 6 8) ≠ 0 ∧ check (besideB fi ti n ++ sub l 0 n) ≠ 0) = false by exact decide_eq_false t6]
    clear t6
    have n02 : num (sub l 0 2) < 65536 := by have h := num_le (sub l 0 2); rw [sub_length l 0 2 (by omega)] at h; exact h
    have n24 : num (sub l 2 4) < 65536 := by have h := num_le (sub l 2 4); rw [sub_length l 2 4 (by omega)] at h; exact h
    have e02 : IntKind.u16.wrap (num (sub l 0 2) : Int) = num (sub l 0 2) := by rw [IntKind.wrap_u16]; omega
    have e24 : IntKind.u16.wrap (num (sub l 2 4) : Int) = num (sub l 2 4) := by rw [IntKind.wrap_u16]; omega
    have q02 := sub_le l 0 2
    have q24 := sub_le l 2 4
    have b4' : (8 : Int) ≤ (n : Int) := by omega
    go_wp2_with fail
    refine wp_region_still_tail 12 (by kernel_rfl) (by kernel_rfl) ?_
    simp only [List.take_succ_cons, List.take_zero, List.drop_succ_cons, List.drop_zero]
    have hx1 := hx0.drew
    have hf1 := hf0.drew
    generalize hw2 : ({ wc with drawn := wc.drawn + 1 } : World) = w3
    rw [show wc.drew = w3 from hw2] at hx1 hf1
    clear hw2
    repeat still_step
    still_call ((refOf (sub l 0 2) _ (by omega)).mono fun e w' h => ⟨h.1, h.2.symm⟩)
    repeat still_step
    still_call ((refOf (sub l 2 4) _ (by omega)).mono fun e w' h => ⟨h.1, h.2.symm⟩)
    repeat still_step
    refine wpStill_nil ?_
    go_wp2_with ((refine wpList_store_bk rfl 42 (.tmp 6) (.tmp 52) rfl w.heap.size _ _ (udpC ⟨num (sub l 0 2), num (sub l 2 4), sub l 8 n⟩) rfl rfl hx1 rfl (by kernel_rfl) (by kernel_rfl) ?_); intro w9 hx9 hf9)
    refine bodyPost_ret (results_row_tmp Tryz.results184 _ w9 w.heap.size _ (udpC ⟨num (sub l 0 2), num (sub l 2 4), sub l 8 n⟩) _ _ rfl rfl hx9 Tryz.underlying42 rfl (by kernel_rfl)) rfl ?_
    exact ⟨by rw [hspec.out, if_neg T4.out, if_neg T5.out, if_neg T6.out]; rfl, hf1.trans' hf9 (fun b hb e => by unfold oneB at e; omega)⟩
end Go.Proofs.YtcbkaiakdhiloabGreatDoor
namespace Go.Proofs.YtcbkaiakdhiloabGreatDoor
open Go.RowKit Go.Proofs
attribute [local go_sem] bs_size bs_append bs_extract
def OptsP (B : Nat) (os : List OptD) (l : List UInt8) (w : World) (e : Ending) (w' : World) : Prop :=
  (∃ os' A cap, optRd os l = some os' ∧ e = .returned (.tuple #[.slice A os'.length cap, .bool true]) ∧ SlR w' (fun k => k < B) 2 A os'.length (optC os') ∧ wtO os' ≤ wtO os + l.length ∧ Fr noB w w') ∨
  (optRd os l = none ∧ e = .returned (.tuple #[.slice none 0 0, .bool false]) ∧ Fr noB w w')
theorem refOptions (B : Nat) (A0 : Option Addr) (cap0 : Nat) (os : List OptD) (l : List UInt8) (w : World) (hA : SlR w (fun k => k < B) 2 A0 os.length (optC os)) (hB : B ≤ w.heap.size) (hwt : wtO os + l.length ≤ 1099511627000) :
    Calls Tryz.prog 230 #[.slice A0 os.length cap0, .string (bs l)] w (OptsP B os l w) := by
  go_enter Tryz.func230, Tryz.ntmps230
  go_wp2_with fail
  go_loopw [0, 6] (fun lv iv wr => ∃ (os1 : List OptD) (A : Option Addr) (cap i : Nat), lv = .slice A os1.length cap ∧ iv = .int .i64 (i : Int) ∧ i ≤ l.length ∧ optRd os l = optRd os1 (l.drop i) ∧ SlR wr (fun k => k < B) 2 A os1.length (optC os1) ∧
      wtO os1 + (l.length - i) ≤ wtO os + l.length ∧ Fr noB w wr) (fun _ iv _ => l.length - (intOf iv).toNat)
  case atStart => exact ⟨os, A0, cap0, 0, rfl, rfl, by omega, rfl, hA, by omega, Fr.refl _ _⟩
  case round =>
    obtain ⟨os1, A, cap, i, rfl, rfl, hi, e1, hA1, hw1, hf1⟩ := hrel
    have E1 := Lib.hid e1
    clear e1
    by_cases hlt : i < l.length
    · obtain ⟨c, hc⟩ : ∃ c, l[i]? = some c := ⟨_, List.getElem?_eq_getElem hlt⟩
      have hgi : ∀ h : i < (bs l).size, (bs l)[i]'h = c := fun h => by rw [bs_get l i h]; rw [List.getElem?_eq_getElem hlt] at hc; injection hc
      have hd : Hid (l.drop i = c :: l.drop (i + 1)) := Lib.hid (by rw [List.drop_eq_getElem_cons hlt]; rw [List.getElem?_eq_getElem hlt] at hc; cases hc; rfl)
      have hcl := c.toNat_lt
      clear hc
      by_cases h5 : c = 255
      · subst h5
        have H1 : Hid (optRd os l = some os1) := Lib.hid (by rw [E1.out, hd.out, optRd_end])
        go_wp2_with fail
        go_ret2
        exact .inl ⟨os1, A, cap, H1.out, rfl, hA1, by omega, hf1⟩
      · have h5i : ¬ (c.toNat : Int) = 255 := fun e => h5 (UInt8.toNat.inj (show c.toNat = 255 by omega))
        by_cases h0 : c = 0
        · subst h0
          have H1 : Hid (optRd os l = optRd os1 (l.drop (i + 1))) := Lib.hid (by rw [E1.out, hd.out, optRd_pad])
          go_wp2_with fail
          exact ⟨⟨os1, A, cap, i + 1, rfl, by rw [Int.natCast_add]; rfl, by omega, H1.out, hA1, by omega, hf1⟩, by simp only [intOf]; omega⟩
        · have h0i : ¬ (c.toNat : Int) = 0 := fun e => h0 (UInt8.toNat.inj (by simpa using e))
          have H0 := Lib.hid h0
          have H5 := Lib.hid h5
          clear h0 h5
          by_cases h1 : i + 1 < l.length
          · obtain ⟨k, hk⟩ : ∃ k, l[i + 1]? = some k := ⟨_, List.getElem?_eq_getElem h1⟩
            have hgk : ∀ h : i + 1 < (bs l).size, (bs l)[i + 1]'h = k := fun h => by rw [bs_get l (i + 1) h]; rw [List.getElem?_eq_getElem h1] at hk; injection hk
            have hd2 : Hid (l.drop (i + 1) = k :: l.drop (i + 2)) := Lib.hid (by rw [List.drop_eq_getElem_cons h1]; rw [List.getElem?_eq_getElem h1] at hk; cases hk; rfl)
            have hkl := k.toNat_lt
            clear hk
            by_cases h2 : l.length < i + 2 + k.toNat
            · have H1 : Hid (optRd os l = none) := Lib.hid (by rw [E1.out, hd.out, hd2.out]; exact optRd_short _ _ _ _ H5.out H0.out (by rw [List.length_drop]; omega))
              have h2i : (l.length : Int) < (i : Int) + 2 + (k.toNat : Int) := by omega
              go_wp2_with fail
              go_ret2
              exact .inr ⟨H1.out, rfl, hf1⟩
            · have h2i : ¬ (l.length : Int) < (i : Int) + 2 + (k.toNat : Int) := by omega
              go_wp2_with fail
              have hA2 := hA1.keep ((Fr.refl (fun k => k < B) wr).drew)
              have hf2 := hf1.drew
              have hto3 : IntKind.i64.wrap ((i : Int) + 2) = (i : Int) + 2 := IntWalk.i64_in _ (by omega)
              have hto4 : (0 : Int) ≤ (i : Int) + 2 + (k.toNat : Int) := by omega
              have hto0 : (0 : Int) ≤ (i : Int) + 2 := by omega
              have hto1 : (i : Int) + 2 ≤ (i : Int) + 2 + (k.toNat : Int) := by omega
              have hto2 : (i : Int) + 2 + (k.toNat : Int) ≤ (l.length : Int) := by omega
              refine wp_region_still_tail 9 (by kernel_rfl) (by kernel_rfl) ?_
              simp only [List.take_succ_cons, List.take_zero, List.drop_succ_cons, List.drop_zero]
              generalize hw2 : ({ wr with drawn := wr.drawn + 1 } : World) = w3
              rw [show wr.drew = w3 from hw2] at hA2 hf2
              clear hw2
              repeat still_step
              refine wpStill_nil ?_
              go_wp2_with fail
              have hdl : Hid ((l.take (i + 2 + k.toNat)).drop (i + 2) = (l.drop (i + 2)).take k.toNat) := Lib.hid (by rw [List.drop_take]; congr 1; omega)
              have hll : ((l.drop (i + 2)).take k.toNat).length = k.toNat := by rw [List.length_take, List.length_drop]; omega
              rw [hdl.out]
              refine (refMore A cap os1 c ((l.drop (i + 2)).take k.toNat) w3 (hA2.sub (fun _ _ x => x.elim)) (by omega)).mono ?_
              rintro e w4 ⟨A2, cap2, rfl, hA3', hf3⟩
              have hA3 := hA3'.sub (T := fun k => k < B) (fun b _ h => by have := hf2.size; omega)
              clear hA3'
              have hwa := wtO_add os1 c ((l.drop (i + 2)).take k.toNat)
              have hf4 := hf2.none hf3
              have H1 : Hid (optRd os l = optRd (optAdd os1 c ((l.drop (i + 2)).take k.toNat)) (l.drop (i + 2 + k.toNat))) := Lib.hid (by
                rw [E1.out, hd.out, hd2.out, optRd_opt _ _ _ _ H5.out H0.out (by rw [List.length_drop]; omega), List.drop_drop])
              go_wp2_with fail
              exact ⟨⟨_, A2, cap2, i + 2 + k.toNat, rfl, by rw [Int.natCast_add, Int.natCast_add]; rfl, by omega, H1.out, hA3, by omega, hf4⟩, by simp only [intOf]; omega⟩
          · have H1 : Hid (optRd os l = none) := Lib.hid (by
              rw [E1.out, hd.out, List.drop_of_length_le (by omega : l.length ≤ i + 1)]; exact optRd_one _ _ H5.out H0.out)
            have h1i : (l.length : Int) ≤ (i : Int) + 1 := by omega
            go_wp2_with fail
            go_ret2
            exact .inr ⟨H1.out, rfl, hf1⟩
    · obtain rfl : i = l.length := by omega
      have H1 : Hid (optRd os l = none) := Lib.hid (by rw [E1.out, List.drop_length]; rfl)
      go_wp2_with fail
      go_ret2
      exact .inr ⟨H1.out, rfl, hf1⟩
end Go.Proofs.YtcbkaiakdhiloabGreatDoor
