/- The walks of ReadIP on both sides, and of the law netbootlaw.IPReads. -/
import Derived.Test.YtcbkaiakdhiloaaReadIP
import Derived.Test.YtcbkaiakdhiloaaEq
import Derived.Deep.Cut
set_option linter.unusedSimpArgs false
set_option linter.unusedVariables false
namespace Go.Proofs.Ytcbkaiakdhiloaa
open Go.RowKit Go.Proofs
attribute [local go_sem] bs_size bs_append bs_sub bs_toList

theorem ipC_size (x : IpD) : (ipC x).size = zcIp4.size := rfl
theorem ipC_one (x : IpD) : (ipC x).all (·.oneCell') = true := by kernel_rfl
theorem ip_info (x : IpD) : (Try.prog.info? 52).map (·.size) = some (ipC x).size := by rw [ipC_size]; kernel_rfl

theorem num_sub1 (l : List UInt8) (i : Nat) (h : i < l.length) : num (sub l i (i + 1)) = l[i].toNat := by
  have e : sub l i (i + 1) = [l[i]] := by
    unfold sub
    rw [List.take_succ_eq_append_getElem h, List.drop_append_of_le_length (by simp; omega)]
    simp [List.drop_eq_nil_of_le]
  rw [e]; simp [num]

theorem byte_at (l : List UInt8) (i : Nat) (h : i < l.length) : ∃ c : UInt8, (∀ h : i < (bs l).size, (bs l)[i]'h = c) ∧ num (sub l i (i + 1)) = c.toNat ∧ c.toNat < 256 :=
  ⟨l[i], fun h => bs_get l i h, num_sub1 l i h, UInt8.toNat_lt _⟩

theorem packetReadIP (l : List UInt8) (w : World) (hl : l.length ≤ 9223372036854775807) :
    Calls Try.prog 44 #[.string (bs l)] w (ipPost l w) := by
  go_enter Try.func44, Try.ntmps44
  have hmf : ∀ (fn : Fn) (first cap : Array Value) (w : World), (Instr.makeFunc fn first cap).run Try.prog w = .ok (.func fn first cap) w := fun _ _ _ _ => rfl
  go_wp2_with fail
  have hs0 := (Bk.new w 9 #[.string (bs l)]).alloc (.cells zcIp4 52)
  have hx0 := Bk.new (w.alloc (.cells #[.string (bs l)] 9)) 52 zcIp4
  rw [show (w.alloc (.cells #[.string (bs l)] 9)).heap.size = w.heap.size + 1 by simp] at hx0
  have hf0 : Fr noB w ((w.alloc (.cells #[.string (bs l)] 9)).alloc (.cells zcIp4 52)) := ((Fr.refl _ _).alloc _).alloc _
  unfold zcIp4 at hs0 hx0 hf0
  generalize (w.alloc (.cells #[.string (bs l)] 9)).alloc (.cells #[.int .u16 0, .int .u8 0, .int .u8 0, .int .u32 0, .int .u32 0, .string ⟨#[]⟩] 52) = w1 at *
  refine (ipRead l w.heap.size _ hs0 hl).mono ?_
  rintro e w2 ⟨rfl, hf1⟩
  have hx1 := hx0.keep hf1 (fun x => x)
  have hsz := Lib.hid (ipC_size (readIP l).1)
  have hin := Lib.hid (ip_info (readIP l).1)
  have hon := Lib.hid (ipC_one (readIP l).1)
  generalize hr : readIP l = r at *
  have Hr := Lib.hid hr
  clear hr
  generalize hc : ipC r.1 = c at *
  have Hc := Lib.hid hc
  clear hc
  go_wp2_with ((refine wpList_store_bk rfl 52 (.tmp 2) (.tmp 7) rfl (w.heap.size + 1) _ _ c rfl rfl hx1 hsz.out hin.out hon.out ?_); intro w9 hx9 hf9)
  refine bodyPost_ret (results_row_tmp Try.results44 _ w9 (w.heap.size + 1) _ c _ _ rfl rfl hx9 Try.underlying52 rfl hin.out) rfl ?_
  exact ⟨by rw [Hr.out, Hc.out]; rfl, (hf0.none hf1).trans' hf9 (fun b hb e => by unfold oneB at e; omega)⟩

theorem bootReadIP (l : List UInt8) (w : World) (hl : l.length ≤ 9223372036854775807) :
    Calls Try.prog 27 #[.string (bs l)] w (ipPost l w) := by
  go_enter Try.func27, Try.ntmps27
  go_wp2_with fail
  have hx0 := Bk.new w 52 zcIp4
  have hf0 : Fr noB w (w.alloc (.cells zcIp4 52)) := (Fr.refl _ _).alloc _
  unfold zcIp4 at hx0 hf0
  generalize w.alloc (.cells #[.int .u16 0, .int .u8 0, .int .u8 0, .int .u32 0, .int .u32 0, .string ⟨#[]⟩] 52) = w1 at *
  refine (packetReadIP l _ hl).mono ?_
  rintro e w2 ⟨rfl, hf1⟩
  have hx1 := hx0.keep hf1 (fun x => x)
  have hsz := Lib.hid (ipC_size (readIP l).1)
  have hin := Lib.hid (ip_info (readIP l).1)
  have hon := Lib.hid (ipC_one (readIP l).1)
  generalize hr : readIP l = r at *
  have Hr := Lib.hid hr
  clear hr
  generalize hc : ipC r.1 = c at *
  have Hc := Lib.hid hc
  clear hc
  go_wp2_with ((refine wpList_store_bk rfl 52 (.tmp 2) (.tmp 6) rfl w.heap.size _ _ c rfl rfl hx1 hsz.out hin.out hon.out ?_); intro w9 hx9 hf9)
  refine bodyPost_ret (results_row_tmp Try.results27 _ w9 w.heap.size _ c _ _ rfl rfl hx9 Try.underlying52 rfl hin.out) rfl ?_
  exact ⟨by rw [Hr.out, Hc.out]; rfl, (hf0.none hf1).trans' hf9 (fun b hb e => by unfold oneB at e; omega)⟩

set_option maxRecDepth 20000 in
set_option maxHeartbeats 1000000 in
theorem refReadIP (l : List UInt8) (w : World) (hl : l.length ≤ 1000000) :
    Calls Try.prog 28 #[.string (bs l)] w (ipPost l w) := by
  have hx0 := Bk.new w 52 zcIp4
  have hf0 : Fr noB w (w.alloc (.cells zcIp4 52)) := (Fr.refl _ _).alloc _
  unfold zcIp4 at hx0 hf0
  by_cases h14 : l.length < 20
  · have hs := Lib.hid (readIP_short l h14)
    go_enter Try.func28, Try.ntmps28
    go_wp2_with ((refine wpList_store_bk rfl 52 (.tmp 2) (.tmp 11) rfl w.heap.size _ _ zcIp4 rfl rfl hx0 rfl (by kernel_rfl) (by kernel_rfl) ?_); intro w9 hx9 hf9)
    refine bodyPost_ret (results_row_tmp Try.results28 _ w9 w.heap.size _ zcIp4 _ _ rfl rfl hx9 Try.underlying52 rfl (by kernel_rfl)) rfl ?_
    exact ⟨by rw [hs.out]; rfl, hf0.trans' hf9 (fun b hb e => by unfold oneB at e; omega)⟩
  · go_enter Try.func28, Try.ntmps28
    have h14' : ¬ (l.length : Int) < 20 := by omega
    obtain ⟨c0, hg0, s0, hb0⟩ := byte_at l 0 (by omega)
    obtain ⟨c8, hg8, s8, hb8⟩ := byte_at l 8 (by omega)
    obtain ⟨c9, hg9, s9, hb9⟩ := byte_at l 9 (by omega)
    have hspec : Hid (readIP l = if c0.toNat / 16 ≠ 4 ∨ c0.toNat % 16 < 5 then (ip0, 2)
      else if 5 < c0.toNat % 16 then (ip0, 4)
      else if num (sub l 2 4) < 20 then (ip0, 2)
      else if l.length < num (sub l 2 4) then (ip0, 1)
      else if check (sub l 0 20) ≠ 0 then (ip0, 6)
      else if 32768 ≤ num (sub l 6 8) ∨ c8.toNat = 0 then (ip0, 2)
      else if num (sub l 6 8) % 16384 ≠ 0 then (ip0, 5)
      else (⟨num (sub l 4 6), c8.toNat, c9.toNat, num (sub l 12 16), num (sub l 16 20), sub l 20 (num (sub l 2 4))⟩, 0)) := by
      unfold Hid readIP
      rw [if_neg h14, s0, s8, s9]
    clear s0 s8 s9
    have hw0 : wrap64 (c0.toNat : Int) = c0.toNat := wr64 (by omega) (by omega)
    have q24 := sub_le l 2 4
    have q68 := sub_le l 6 8
    have q46 := sub_le l 4 6
    have h14'' : (20 : Int) ≤ l.length := by omega
    have h0l : 0 < l.length := by omega
    clear h14 h14'
    go_upto_region 4 with fail
    generalize w.alloc (.cells #[.int .u16 0, .int .u8 0, .int .u8 0, .int .u32 0, .int .u32 0, .string ⟨#[]⟩] 52) = w1 at *
    go_wp2_with fail
    refine (refOf (sub l 2 4) _ (by omega)).mono ?_
    rintro e w2 ⟨rfl, rfl⟩
    go_wp2_with fail
    refine (refOf (sub l 6 8) _ (by omega)).mono ?_
    rintro e w2 ⟨rfl, rfl⟩
    have n2 : num (sub l 2 4) < 65536 := by have h := num_le (sub l 2 4); rw [sub_length l 2 4 (by omega)] at h; exact h
    have n6 : num (sub l 6 8) < 65536 := by have h := num_le (sub l 6 8); rw [sub_length l 6 8 (by omega)] at h; exact h
    have n4 : num (sub l 4 6) < 65536 := by have h := num_le (sub l 4 6); rw [sub_length l 4 6 (by omega)] at h; exact h
    by_cases t1 : c0.toNat / 16 = 4
    rotate_left
    · have b1 : (((c0.toNat : Int) / 16) != 4) = true := by simp; omega
      have T1 : Hid (c0.toNat / 16 ≠ 4 ∨ c0.toNat % 16 < 5) := .inl t1
      clear t1
      go_wp2_with ((refine wpList_store_bk rfl 52 (.tmp 2) (.tmp 61) rfl w.heap.size _ _ zcIp4 rfl rfl hx0 rfl (by kernel_rfl) (by kernel_rfl) ?_); intro w9 hx9 hf9)
      refine bodyPost_ret (results_row_tmp Try.results28 _ w9 w.heap.size _ zcIp4 _ _ rfl rfl hx9 Try.underlying52 rfl (by kernel_rfl)) rfl ?_
      exact ⟨by rw [hspec.out, if_pos T1.out]; rfl, hf0.trans' hf9 (fun b hb e => by unfold oneB at e; omega)⟩
    have b1 : (((c0.toNat : Int) / 16) != 4) = false := by simp; omega
    by_cases t2 : c0.toNat % 16 < 5
    · have T2 : Hid (c0.toNat / 16 ≠ 4 ∨ c0.toNat % 16 < 5) := .inr t2
      have b2 : (c0.toNat : Int) % 16 < 5 := by omega
      clear t1 t2
      go_wp2_with ((refine wpList_store_bk rfl 52 (.tmp 2) (.tmp 61) rfl w.heap.size _ _ zcIp4 rfl rfl hx0 rfl (by kernel_rfl) (by kernel_rfl) ?_); intro w9 hx9 hf9)
      refine bodyPost_ret (results_row_tmp Try.results28 _ w9 w.heap.size _ zcIp4 _ _ rfl rfl hx9 Try.underlying52 rfl (by kernel_rfl)) rfl ?_
      exact ⟨by rw [hspec.out, if_pos T2.out]; rfl, hf0.trans' hf9 (fun b hb e => by unfold oneB at e; omega)⟩
    have T2 : Hid (¬ (c0.toNat / 16 ≠ 4 ∨ c0.toNat % 16 < 5)) := by unfold Hid; omega
    have b2 : ¬ (c0.toNat : Int) % 16 < 5 := by omega
    clear t1
    by_cases t3 : 5 < c0.toNat % 16
    · have T3 := Lib.hid t3
      have b3 : 5 < (c0.toNat : Int) % 16 := by omega
      clear t2 t3
      go_wp2_with ((refine wpList_store_bk rfl 52 (.tmp 2) (.tmp 61) rfl w.heap.size _ _ zcIp4 rfl rfl hx0 rfl (by kernel_rfl) (by kernel_rfl) ?_); intro w9 hx9 hf9)
      refine bodyPost_ret (results_row_tmp Try.results28 _ w9 w.heap.size _ zcIp4 _ _ rfl rfl hx9 Try.underlying52 rfl (by kernel_rfl)) rfl ?_
      exact ⟨by rw [hspec.out, if_neg T2.out, if_pos T3.out]; rfl, hf0.trans' hf9 (fun b hb e => by unfold oneB at e; omega)⟩
    have T3 := Lib.hid t3
    have b3 : ¬ 5 < (c0.toNat : Int) % 16 := by omega
    clear t2 t3
    by_cases t4 : num (sub l 2 4) < 20
    · have T4 := Lib.hid t4
      have b4 : (num (sub l 2 4) : Int) < 20 := by omega
      clear t4
      go_wp2_with ((refine wpList_store_bk rfl 52 (.tmp 2) (.tmp 61) rfl w.heap.size _ _ zcIp4 rfl rfl hx0 rfl (by kernel_rfl) (by kernel_rfl) ?_); intro w9 hx9 hf9)
      refine bodyPost_ret (results_row_tmp Try.results28 _ w9 w.heap.size _ zcIp4 _ _ rfl rfl hx9 Try.underlying52 rfl (by kernel_rfl)) rfl ?_
      exact ⟨by rw [hspec.out, if_neg T2.out, if_neg T3.out, if_pos T4.out]; rfl, hf0.trans' hf9 (fun b hb e => by unfold oneB at e; omega)⟩
    have T4 := Lib.hid t4
    have b4 : ¬ (num (sub l 2 4) : Int) < 20 := by omega
    clear t4
    by_cases t5 : l.length < num (sub l 2 4)
    · have T5 := Lib.hid t5
      have b5 : (l.length : Int) < (num (sub l 2 4) : Int) := by omega
      clear t5
      go_wp2_with ((refine wpList_store_bk rfl 52 (.tmp 2) (.tmp 61) rfl w.heap.size _ _ zcIp4 rfl rfl hx0 rfl (by kernel_rfl) (by kernel_rfl) ?_); intro w9 hx9 hf9)
      refine bodyPost_ret (results_row_tmp Try.results28 _ w9 w.heap.size _ zcIp4 _ _ rfl rfl hx9 Try.underlying52 rfl (by kernel_rfl)) rfl ?_
      exact ⟨by rw [hspec.out, if_neg T2.out, if_neg T3.out, if_neg T4.out, if_pos T5.out]; rfl, hf0.trans' hf9 (fun b hb e => by unfold oneB at e; omega)⟩
    have T5 := Lib.hid t5
    have b5 : ¬ (l.length : Int) < (num (sub l 2 4) : Int) := by omega
    clear t5
    go_wp2_with fail
    refine (refCheck_any (sub l 0 20) _ (by have := sub_le l 0 20; omega)).mono ?_
    rintro e w2 ⟨rfl, hf2⟩
    replace hx0 := hx0.keep hf2 (fun x => x)
    replace hf0 := hf0.none hf2
    clear hf2
    have hcl := check_le (sub l 0 20)
    generalize hck : check (sub l 0 20) = ck at *
    clear hck
    by_cases t6 : ck = 0
    rotate_left
    · have b6 : ((ck : Int) != 0) = true := by simp; omega
      have T6 := Lib.hid t6
      clear t6
      go_wp2_with ((refine wpList_store_bk rfl 52 (.tmp 2) (.tmp 61) rfl w.heap.size _ _ zcIp4 rfl rfl hx0 rfl (by kernel_rfl) (by kernel_rfl) ?_); intro w9 hx9 hf9)
      refine bodyPost_ret (results_row_tmp Try.results28 _ w9 w.heap.size _ zcIp4 _ _ rfl rfl hx9 Try.underlying52 rfl (by kernel_rfl)) rfl ?_
      exact ⟨by rw [hspec.out, if_neg T2.out, if_neg T3.out, if_neg T4.out, if_neg T5.out, if_pos T6.out]; rfl, hf0.trans' hf9 (fun b hb e => by unfold oneB at e; omega)⟩
    have b6 : ((ck : Int) != 0) = false := by simp; omega
    have T6 : Hid (¬ ck ≠ 0) := not_not_intro t6
    clear t6
    by_cases t7 : 32768 ≤ num (sub l 6 8)
    · have b7 : (32768 : Int) ≤ (num (sub l 6 8) : Int) := by omega
      have T7 : Hid (32768 ≤ num (sub l 6 8) ∨ c8.toNat = 0) := .inl t7
      clear t7
      go_wp2_with ((refine wpList_store_bk rfl 52 (.tmp 2) (.tmp 61) rfl w.heap.size _ _ zcIp4 rfl rfl hx0 rfl (by kernel_rfl) (by kernel_rfl) ?_); intro w9 hx9 hf9)
      refine bodyPost_ret (results_row_tmp Try.results28 _ w9 w.heap.size _ zcIp4 _ _ rfl rfl hx9 Try.underlying52 rfl (by kernel_rfl)) rfl ?_
      exact ⟨by rw [hspec.out, if_neg T2.out, if_neg T3.out, if_neg T4.out, if_neg T5.out, if_neg T6.out, if_pos T7.out]; rfl, hf0.trans' hf9 (fun b hb e => by unfold oneB at e; omega)⟩
    have b7 : decide ((32768 : Int) ≤ (num (sub l 6 8) : Int)) = false := by simp; omega
    by_cases t8 : c8.toNat = 0
    · have b8 : ((c8.toNat : Int) == 0) = true := by simp; omega
      have T7 : Hid (32768 ≤ num (sub l 6 8) ∨ c8.toNat = 0) := .inr t8
      clear t7 t8
      go_wp2_with ((refine wpList_store_bk rfl 52 (.tmp 2) (.tmp 61) rfl w.heap.size _ _ zcIp4 rfl rfl hx0 rfl (by kernel_rfl) (by kernel_rfl) ?_); intro w9 hx9 hf9)
      refine bodyPost_ret (results_row_tmp Try.results28 _ w9 w.heap.size _ zcIp4 _ _ rfl rfl hx9 Try.underlying52 rfl (by kernel_rfl)) rfl ?_
      exact ⟨by rw [hspec.out, if_neg T2.out, if_neg T3.out, if_neg T4.out, if_neg T5.out, if_neg T6.out, if_pos T7.out]; rfl, hf0.trans' hf9 (fun b hb e => by unfold oneB at e; omega)⟩
    have b8 : ((c8.toNat : Int) == 0) = false := by simp; omega
    have T7 : Hid (¬ (32768 ≤ num (sub l 6 8) ∨ c8.toNat = 0)) := by unfold Hid; omega
    clear t7 t8
    by_cases t9 : num (sub l 6 8) % 16384 = 0
    rotate_left
    · have b9 : ((num (sub l 6 8) : Int) % 16384 != 0) = true := by simp; omega
      have T9 := Lib.hid t9
      clear t9
      go_wp2_with ((refine wpList_store_bk rfl 52 (.tmp 2) (.tmp 61) rfl w.heap.size _ _ zcIp4 rfl rfl hx0 rfl (by kernel_rfl) (by kernel_rfl) ?_); intro w9 hx9 hf9)
      refine bodyPost_ret (results_row_tmp Try.results28 _ w9 w.heap.size _ zcIp4 _ _ rfl rfl hx9 Try.underlying52 rfl (by kernel_rfl)) rfl ?_
      exact ⟨by rw [hspec.out, if_neg T2.out, if_neg T3.out, if_neg T4.out, if_neg T5.out, if_neg T6.out, if_neg T7.out, if_pos T9.out]; rfl, hf0.trans' hf9 (fun b hb e => by unfold oneB at e; omega)⟩
    have b9 : ((num (sub l 6 8) : Int) % 16384 != 0) = false := by simp; omega
    have T9 : Hid (¬ num (sub l 6 8) % 16384 ≠ 0) := not_not_intro t9
    clear t9
    have n12 := sub_le l 12 16
    have n16 := sub_le l 16 20
    have e4 : IntKind.u16.wrap (num (sub l 4 6) : Int) = num (sub l 4 6) := by rw [IntKind.wrap_u16]; omega
    go_wp2_with fail
    have z6 : (6 : Int) ≤ (l.length : Int) := by omega
    have z16 : (16 : Int) ≤ (l.length : Int) := by omega
    have z8 : (8 : Int) < (l.length : Int) := by omega
    have z9 : (9 : Int) < (l.length : Int) := by omega
    have y8 : 8 < l.length := by omega
    have y9 : 9 < l.length := by omega
    refine wp_region_still_tail 18 (by kernel_rfl) (by kernel_rfl) ?_
    simp only [List.take_succ_cons, List.take_zero, List.drop_succ_cons, List.drop_zero]
    have hx1 := hx0.drew
    have hf1 := hf0.drew
    generalize hw2 : ({ w2 with drawn := w2.drawn + 1 } : World) = w3
    rw [show w2.drew = w3 from hw2] at hx1 hf1
    clear hw2
    repeat still_step
    still_call ((refOf (sub l 4 6) _ (by omega)).mono fun e w' h => ⟨h.1, h.2.symm⟩)
    repeat still_step
    still_call ((refIpOf (sub l 12 16) _ (by omega)).mono fun e w' h => ⟨h.1, h.2.symm⟩)
    repeat still_step
    still_call ((refIpOf (sub l 16 20) _ (by omega)).mono fun e w' h => ⟨h.1, h.2.symm⟩)
    repeat still_step
    refine wpStill_nil ?_
    go_wp2_with ((refine wpList_store_bk rfl 52 (.tmp 2) (.tmp 80) rfl w.heap.size _ _ (ipC ⟨num (sub l 4 6), c8.toNat, c9.toNat, num (sub l 12 16), num (sub l 16 20), sub l 20 (num (sub l 2 4))⟩) rfl rfl hx1 rfl (by kernel_rfl) (by kernel_rfl) ?_); intro w9 hx9 hf9)
    refine bodyPost_ret (results_row_tmp Try.results28 _ w9 w.heap.size _ (ipC ⟨num (sub l 4 6), c8.toNat, c9.toNat, num (sub l 12 16), num (sub l 16 20), sub l 20 (num (sub l 2 4))⟩) _ _ rfl rfl hx9 Try.underlying52 rfl (by kernel_rfl)) rfl ?_
    exact ⟨by rw [hspec.out, if_neg T2.out, if_neg T3.out, if_neg T4.out, if_neg T5.out, if_neg T6.out, if_neg T7.out, if_neg T9.out]; rfl, hf1.trans' hf9 (fun b hb e => by unfold oneB at e; omega)⟩

attribute [-go_sem] run_eql_struct run_equalIn_agg in
set_option maxRecDepth 20000 in
set_option maxHeartbeats 1000000 in
theorem lawIPReads (l : List UInt8) (w : World) (hl : l.length ≤ 9223372036854775807) :
    Calls Try.prog 11 #[.string (bs l)] w (fun e w' => e = .returned (.bool true) ∧ Fr noB w w') := by
  by_cases hb : 262144 < l.length
  · have hb' : (262144 : Int) < l.length := by omega
    go_enter Try.func11, Try.ntmps11
    go_wp2_with fail
    go_ret
    exact ⟨rfl, Fr.refl _ _⟩
  have hb' : ¬ (262144 : Int) < l.length := by omega
  go_enter Try.func11, Try.ntmps11
  go_wp2_with fail
  refine (bootReadIP l _ hl).mono ?_
  rintro e w1 ⟨rfl, hf1⟩
  have href : ∀ w, Calls Try.prog 28 #[.string (bs l)] w (ipPost l w) := fun w => refReadIP l w (by omega)
  unfold ipPost at href
  rcases hr : readIP l with ⟨⟨id, ttl, pr, fm, to, cr⟩, k⟩
  rw [hr] at href
  have Hr := Lib.hid hr
  clear hr hb
  simp only [ipC] at href ⊢
  go_wp2_with fail
  have hx1 := Bk.new w1 52 #[.int .u16 (id : Int), .int .u8 (ttl : Int), .int .u8 (pr : Int), .int .u32 (fm : Int), .int .u32 (to : Int), .string (bs cr)]
  have hf2 := hf1.alloc (.cells #[.int .u16 (id : Int), .int .u8 (ttl : Int), .int .u8 (pr : Int), .int .u32 (fm : Int), .int .u32 (to : Int), .string (bs cr)] 52)
  generalize w1.alloc (.cells #[.int .u16 (id : Int), .int .u8 (ttl : Int), .int .u8 (pr : Int), .int .u32 (fm : Int), .int .u32 (to : Int), .string (bs cr)] 52) = w2 at *
  generalize w1.heap.size = g at *
  refine (href w2).mono ?_
  clear href
  rintro e w3 ⟨rfl, hf3⟩
  replace hx1 := hx1.keep hf3 (fun x => x)
  replace hf3 := hf2.none hf3
  have hlt := hx1.lt
  have hc := (hx1.alloc (.cells #[.int .u16 (id : Int), .int .u8 (ttl : Int), .int .u8 (pr : Int), .int .u32 (fm : Int), .int .u32 (to : Int), .string (bs cr)] 52)).cells
  have hE : ∀ w, (binOp .eql 52 (.agg #[.int .u16 (id : Int), .int .u8 (ttl : Int), .int .u8 (pr : Int), .int .u32 (fm : Int), .int .u32 (to : Int), .string (bs cr)]) (.agg #[.int .u16 (id : Int), .int .u8 (ttl : Int), .int .u8 (pr : Int), .int .u32 (fm : Int), .int .u32 (to : Int), .string (bs cr)])).run Try.prog w = .ok (.bool true) w := fun w => eql_self w (by kernel_rfl)
  have hG : Try.prog.eqGuardType Try.prog.depth 52 = false := by kernel_rfl
  go_wp2_with fail
  go_ret
  exact ⟨rfl, hf3.alloc _⟩
end Go.Proofs.Ytcbkaiakdhiloaa
