/- netbootkeep.message walked: messages of ARP, DHCP and TFTP. Written by mkrounds3.py. -/
import Derived.Test.YtcbkaiakdhiloabGreatDoorRounds2Z
import Derived.Deep.QuietTactic
import Derived.Deep.CutBlock
import Derived.BigQuiet
set_option linter.unusedSimpArgs false
set_option linter.unusedVariables false
namespace Go.Proofs.YtcbkaiakdhiloabGreatDoor
open Go.RowKit Go.Proofs
attribute [local go_sem] bs_size bs_append bs_sub bs_toList more_bs

theorem code_of (n k : Nat) (h : n + k < 256) : ∃ c : UInt8, n + k = c.toNat ∧ IntKind.i64.wrap ((n : Int) + (k : Int)) = (c.toNat : Int) ∧ IntKind.u8.wrap (c.toNat : Int) = (c.toNat : Int) := by
  refine ⟨UInt8.ofNat (n + k), by rw [UInt8.toNat_ofNat']; omega, by rw [IntWalk.i64_in _ (by omega), UInt8.toNat_ofNat']; omega, ?_⟩
  have := (UInt8.ofNat (n + k)).toNat_lt
  rw [IntKind.wrap_u8']; omega
def osB (c1 c2 : UInt8) (l : List UInt8) : List OptD := [⟨53, [1]⟩, ⟨c1, l⟩, ⟨c2, []⟩]
theorem rd_osB (c1 c2 : UInt8) (l : List UInt8) (ka kb : Nat) (h1 : 60 + ka = c1.toNat) (h2 : ka < 100) (h3 : 161 + kb = c2.toNat) (h4 : kb < 90) (hl : l.length ≤ 1000) : RdOs (osB c1 c2 l) := by
  have nv : ∀ (c d : UInt8), c.toNat ≠ d.toNat → c ≠ d := fun c d h e => h (by rw [e])
  have v0 : (0 : UInt8).toNat = 0 := rfl
  have v255 : (255 : UInt8).toNat = 255 := rfl
  have v52 : (52 : UInt8).toNat = 52 := rfl
  have v53 : (53 : UInt8).toNat = 53 := rfl
  refine ⟨?_, ?_, ?_, ?_⟩
  · intro o ho
    simp only [osB, List.mem_cons, List.not_mem_nil, or_false] at ho
    rcases ho with rfl | rfl | rfl
    · exact ⟨by decide, by decide, by decide⟩
    · exact ⟨nv _ _ (by show c1.toNat ≠ _; omega), nv _ _ (by show c1.toNat ≠ _; omega), nv _ _ (by show c1.toNat ≠ _; omega)⟩
    · exact ⟨nv _ _ (by show c2.toNat ≠ _; omega), nv _ _ (by show c2.toNat ≠ _; omega), nv _ _ (by show c2.toNat ≠ _; omega)⟩
  · have a1 : (53 : UInt8) ≠ c1 := nv _ _ (by omega)
    have a2 : (53 : UInt8) ≠ c2 := nv _ _ (by omega)
    have a3 : c1 ≠ c2 := nv _ _ (by omega)
    simp [osB, a1, a2, a3]
  · simp [osB, wtO]; omega
  · have e1 := chunk_len2 1 53 [1] (by simp)
    have e2 := chunk_len2 l.length c1 l (Nat.le_refl _)
    have e3 := chunk_len2 0 c2 [] (by simp)
    simp only [osB, List.flatMap_cons, List.flatMap_nil, List.length_append, List.length_cons, List.length_nil] at e1 e2 e3 ⊢
    omega
set_option maxRecDepth 20000 in
attribute [-go_sem] run_eql_struct run_neq_struct run_equalIn_agg in
set_option maxHeartbeats 60000000 in
theorem lawMessage (l : List UInt8) (a b kd : Int) (m0 m1 m2 m3 m4 m5 n0 n1 n2 n3 n4 n5 : UInt8) (w : World) (hl2 : l.length ≤ 1000) (a0 : -9223372036854775808 ≤ a) (a1 : a ≤ 9223372036854775807) (b0 : -9223372036854775808 ≤ b) (b1 : b ≤ 9223372036854775807) (k0 : -9223372036854775808 ≤ kd) (k1 : kd ≤ 9223372036854775807)
    (hV : Cards w m0 m1 m2 m3 m4 m5 n0 n1 n2 n3 n4 n5) (hT : Tabs w) :
    Calls Tryz.prog 16 #[.string (bs l), .int .i64 a, .int .i64 b, .int .i64 kd] w (fun e w' => e = .returned (.bool true) ∧ Fr noB w w') := by
  obtain ⟨kp, Hkp⟩ : ∃ k, Hid (k = pickI kd 2) := ⟨_, Lib.hid rfl⟩
  have hkp : kp < 2 := by rw [Hkp.out]; exact pickI_lt _ _ (by omega)
  obtain ⟨op, hop⟩ : ∃ op, 1 + kp = op := ⟨_, rfl⟩
  have ho : op = 1 ∨ op = 2 := by omega
  have e1 : IntKind.i64.wrap (1 + (kp : Int)) = (op : Int) := by rw [IntWalk.i64_in _ (by omega)]; omega
  have e2 : IntKind.u16.wrap (op : Int) = (op : Int) := by rw [IntKind.wrap_u16]; omega
  obtain ⟨xa, xa1, e3⟩ := wrap16 a
  obtain ⟨ia, ia1, e4⟩ := wrap32 a
  obtain ⟨ib, ib1, e5⟩ := wrap32 b
  obtain ⟨nx, nx1, e6⟩ := wrap32 (IntKind.i64.wrap (a * b))
  have Ho := Lib.hid ho
  clear hop ho hkp
  go_enter Tryz.func16, Tryz.ntmps16
  go_upto_region 1 with fail
  go_cut [9] from 22 to 32 (fun v9 wx => ∃ g, v9 = .pointer (some ⟨g, 0, none⟩) ∧ Bk wx g 67 #[.int .u16 (op : Int), .int .u8 (m0.toNat : Int), .int .u8 (m1.toNat : Int), .int .u8 (m2.toNat : Int), .int .u8 (m3.toNat : Int), .int .u8 (m4.toNat : Int), .int .u8 (m5.toNat : Int), .int .u32 (ia : Int), .int .u8 (n0.toNat : Int), .int .u8 (n1.toNat : Int), .int .u8 (n2.toNat : Int), .int .u8 (n3.toNat : Int), .int .u8 (n4.toNat : Int), .int .u8 (n5.toNat : Int), .int .u32 (ib : Int)] ∧ Fr noB w wx)
  case first =>
    refine wp_region_pls (by kernel_rfl) (fun w' => Cards w' m0 m1 m2 m3 m4 m5 n0 n1 n2 n3 n4 n5 ∧ Fr noB w w') [12] (.p 0 (.p 5 (.p 6 (.p 8 (.p 9 (.q 4 (.q 7 (.e2 1 (.p 2 (.p 3 (.p 10 (.e 11 (.e 12 (.nil)))))) 11 (.e 1 (.p 2 (.p 3 (.p 10 (.e 12 (.nil)))))))))))))) (by kernel_rfl) (⟨hV.drew, (Fr.refl _ _).drew⟩) ?_
    intro ops Q' hO hQ' wr1 hR1
    iterate 5 (refine pl_p0 hO rfl rfl ?_ (fun w' => ?_) ?_; rotate_left 1; (focus (go_simp; ((try with_reducible rfl); done))); simp only [Act.put, List.setIfInBounds_toArray, List.set_cons_zero, List.set_cons_succ])
    iterate 2 (refine pl_q0 hO rfl rfl ?_ (fun w' hS => ?_) ?_; rotate_left 1; (focus (obtain ⟨hB, hF⟩ := hS; have o0 := hB.o.2 0 _ rfl; have x0 := hB.c.2 0 _ rfl; have o1 := hB.o.2 1 _ rfl; have x1 := hB.c.2 1 _ rfl; have o2 := hB.o.2 2 _ rfl; have x2 := hB.c.2 2 _ rfl; have o3 := hB.o.2 3 _ rfl; have x3 := hB.c.2 3 _ rfl; have o4 := hB.o.2 4 _ rfl; have x4 := hB.c.2 4 _ rfl; have o5 := hB.o.2 5 _ rfl; have x5 := hB.c.2 5 _ rfl; go_simp; ((try with_reducible rfl); done))); simp only [Act.put, List.setIfInBounds_toArray, List.set_cons_zero, List.set_cons_succ])
    refine pl_e2 ?_ ?_
    · skip
      refine pl_e0 hO rfl rfl rfl (fun K hK => ?_)
      go_simp
      refine (pickK kd 2 kp _ Hkp.out (by decide) (by decide) k0 k1).mono ?_
      rintro e w2 ⟨rfl, h2⟩
      replace h2 := h2.symm
      subst h2
      refine hK _ _ (hR1) (fun hR_1 => ?_)
      clear hK K
      iterate 3 (refine pl_p0 hO rfl rfl ?_ (fun w' => ?_) ?_; rotate_left 1; (focus (go_simp; ((try with_reducible rfl); done))); simp only [Act.put, List.setIfInBounds_toArray, List.set_cons_zero, List.set_cons_succ])
      refine pl_e0 hO rfl rfl rfl (fun K hK => ?_)
      go_simp
      refine hK _ _ (⟨hR_1.1.none ((Fr.refl _ _).alloc _), hR_1.2.none ((Fr.refl _ _).alloc _)⟩) (fun hR_11 => ?_)
      clear hK K
      refine pl_b0 hO rfl rfl rfl (fun K hK => ?_)
      refine wp_store_bk 67 (.tmp 9) (.tmp 32) rfl wr1.heap.size _ _ #[.int .u16 (op : Int), .int .u8 (m0.toNat : Int), .int .u8 (m1.toNat : Int), .int .u8 (m2.toNat : Int), .int .u8 (m3.toNat : Int), .int .u8 (m4.toNat : Int), .int .u8 (m5.toNat : Int), .int .u32 (ia : Int), .int .u8 (n0.toNat : Int), .int .u8 (n1.toNat : Int), .int .u8 (n2.toNat : Int), .int .u8 (n3.toNat : Int), .int .u8 (n4.toNat : Int), .int .u8 (n5.toNat : Int), .int .u32 (ib : Int)] rfl rfl (Bk.new wr1 67 #[.int .u16 0, .int .u8 0, .int .u8 0, .int .u8 0, .int .u8 0, .int .u8 0, .int .u8 0, .int .u32 0, .int .u8 0, .int .u8 0, .int .u8 0, .int .u8 0, .int .u8 0, .int .u8 0, .int .u32 0]) rfl (by kernel_rfl) (by kernel_rfl) ?_
      intro w9 hx9 hf9
      refine hK _ _ ?_
      clear hK K
      refine pl_nil (hQ' _ _ ?_)
      go_wp2_with fail
      go_meet
      case rel => exact ⟨_, rfl, hx9, (hR1.2.alloc (.cells #[.int .u16 0, .int .u8 0, .int .u8 0, .int .u8 0, .int .u8 0, .int .u8 0, .int .u8 0, .int .u32 0, .int .u8 0, .int .u8 0, .int .u8 0, .int .u8 0, .int .u8 0, .int .u8 0, .int .u32 0] 67)).trans' hf9 (fun b hb e => by have e' : b = wr1.heap.size := e; have := hR1.2.size; omega)⟩
    · skip
      refine pl_e0 hO rfl rfl rfl (fun K hK => ?_)
      go_simp
      refine hK _ _ (⟨hR1.1.none ((Fr.refl _ _).alloc _), hR1.2.none ((Fr.refl _ _).alloc _)⟩) (fun hR_11 => ?_)
      clear hK K
      refine pl_e0 hO rfl rfl rfl (fun K hK => ?_)
      go_simp
      refine (pickK kd 2 kp _ Hkp.out (by decide) (by decide) k0 k1).mono ?_
      rintro e w2 ⟨rfl, h2⟩
      replace h2 := h2.symm
      subst h2
      refine hK _ _ (hR_11) (fun hR_1 => ?_)
      clear hK K
      iterate 3 (refine pl_p0 hO rfl rfl ?_ (fun w' => ?_) ?_; rotate_left 1; (focus (go_simp; ((try with_reducible rfl); done))); simp only [Act.put, List.setIfInBounds_toArray, List.set_cons_zero, List.set_cons_succ])
      refine pl_b0 hO rfl rfl rfl (fun K hK => ?_)
      refine wp_store_bk 67 (.tmp 9) (.tmp 32) rfl wr1.heap.size _ _ #[.int .u16 (op : Int), .int .u8 (m0.toNat : Int), .int .u8 (m1.toNat : Int), .int .u8 (m2.toNat : Int), .int .u8 (m3.toNat : Int), .int .u8 (m4.toNat : Int), .int .u8 (m5.toNat : Int), .int .u32 (ia : Int), .int .u8 (n0.toNat : Int), .int .u8 (n1.toNat : Int), .int .u8 (n2.toNat : Int), .int .u8 (n3.toNat : Int), .int .u8 (n4.toNat : Int), .int .u8 (n5.toNat : Int), .int .u32 (ib : Int)] rfl rfl (Bk.new wr1 67 #[.int .u16 0, .int .u8 0, .int .u8 0, .int .u8 0, .int .u8 0, .int .u8 0, .int .u8 0, .int .u32 0, .int .u8 0, .int .u8 0, .int .u8 0, .int .u8 0, .int .u8 0, .int .u8 0, .int .u32 0]) rfl (by kernel_rfl) (by kernel_rfl) ?_
      intro w9 hx9 hf9
      refine hK _ _ ?_
      clear hK K
      refine pl_nil (hQ' _ _ ?_)
      go_wp2_with fail
      go_meet
      case rel => exact ⟨_, rfl, hx9, (hR1.2.alloc (.cells #[.int .u16 0, .int .u8 0, .int .u8 0, .int .u8 0, .int .u8 0, .int .u8 0, .int .u8 0, .int .u32 0, .int .u8 0, .int .u8 0, .int .u8 0, .int .u8 0, .int .u8 0, .int .u8 0, .int .u32 0] 67)).trans' hf9 (fun b hb e => by have e' : b = wr1.heap.size := e; have := hR1.2.size; omega)⟩
  case rest =>
  obtain ⟨g, rfl, hB, hF⟩ := hcut
  have hBc := hB.cells
  go_wp2_with fail
  refine (rdWA op ia ib m0 m1 m2 m3 m4 m5 n0 n1 n2 n3 n4 n5 _ Ho.out ia1 ib1).mono ?_
  rintro e w2 ⟨rfl, f2⟩
  have hRA := fun w => rdRA op ia ib m0 m1 m2 m3 m4 m5 n0 n1 n2 n3 n4 n5 w Ho.out ia1 ib1
  have q1 := arpOfB_len op (m0, m1, m2, m3, m4, m5) ia (n0, n1, n2, n3, n4, n5) ib
  generalize arpOfB op (m0, m1, m2, m3, m4, m5) ia (n0, n1, n2, n3, n4, n5) ib = ab at *
  have qm : moreB.length = 4 := rfl
  have HRA := Lib.hid hRA
  have hB2 := hB.keep f2 (fun x => x)
  have hF2 := hF.none f2
  clear hRA hBc hB hF f2
  go_wp2_with fail
  refine (HRA.out _).mono ?_
  rintro e w3 ⟨rfl, f3⟩
  have hB3 := hB2.keep f3 (fun x => x)
  have hF3 := hF2.none f3
  clear HRA hB2 hF2 f3
  go_upto_region 4 with ((refine wpList_store_bk rfl 67 (.tmp 12) (.tmp 42) rfl _ _ _ #[.int .u16 (op : Int), .int .u8 (m0.toNat : Int), .int .u8 (m1.toNat : Int), .int .u8 (m2.toNat : Int), .int .u8 (m3.toNat : Int), .int .u8 (m4.toNat : Int), .int .u8 (m5.toNat : Int), .int .u32 (ia : Int), .int .u8 (n0.toNat : Int), .int .u8 (n1.toNat : Int), .int .u8 (n2.toNat : Int), .int .u8 (n3.toNat : Int), .int .u8 (n4.toNat : Int), .int .u8 (n5.toNat : Int), .int .u32 (ib : Int)] rfl rfl (Bk.new _ 67 #[.int .u16 0, .int .u8 0, .int .u8 0, .int .u8 0, .int .u8 0, .int .u8 0, .int .u8 0, .int .u32 0, .int .u8 0, .int .u8 0, .int .u8 0, .int .u8 0, .int .u8 0, .int .u8 0, .int .u32 0]) rfl (by kernel_rfl) (by kernel_rfl) ?_); intro w4 hx4 hf4)
  have f4 : Fr noB w3 w4 := ((Fr.refl noB w3).alloc (.cells #[.int .u16 0, .int .u8 0, .int .u8 0, .int .u8 0, .int .u8 0, .int .u8 0, .int .u8 0, .int .u32 0, .int .u8 0, .int .u8 0, .int .u8 0, .int .u8 0, .int .u8 0, .int .u8 0, .int .u32 0] 67)).trans' hf4 (fun b hb e => by have e' : b = w3.heap.size := e; omega)
  have hxc4 := hx4.cells
  have hBc := (hB3.keep f4 (fun x => x)).cells
  have hF4 := hF3.none f4
  have hE : ∀ w, (binOp .neq 67 (.agg #[.int .u16 (op : Int), .int .u8 (m0.toNat : Int), .int .u8 (m1.toNat : Int), .int .u8 (m2.toNat : Int), .int .u8 (m3.toNat : Int), .int .u8 (m4.toNat : Int), .int .u8 (m5.toNat : Int), .int .u32 (ia : Int), .int .u8 (n0.toNat : Int), .int .u8 (n1.toNat : Int), .int .u8 (n2.toNat : Int), .int .u8 (n3.toNat : Int), .int .u8 (n4.toNat : Int), .int .u8 (n5.toNat : Int), .int .u32 (ib : Int)]) (.agg #[.int .u16 (op : Int), .int .u8 (m0.toNat : Int), .int .u8 (m1.toNat : Int), .int .u8 (m2.toNat : Int), .int .u8 (m3.toNat : Int), .int .u8 (m4.toNat : Int), .int .u8 (m5.toNat : Int), .int .u32 (ia : Int), .int .u8 (n0.toNat : Int), .int .u8 (n1.toNat : Int), .int .u8 (n2.toNat : Int), .int .u8 (n3.toNat : Int), .int .u8 (n4.toNat : Int), .int .u8 (n5.toNat : Int), .int .u32 (ib : Int)])).run Tryz.prog w = .ok (.bool false) w := fun w => neqSelf w (by kernel_rfl)
  go_cut [54] from 9 to 54 (fun v wx => v = .bool false ∧ Fr noB w wx)
  case first =>
    go_wp2_with fail
    go_meet
    case rel => exact ⟨rfl, hF4⟩
  case rest =>
  obtain ⟨rfl, w6F⟩ := hcut
  clear hE hBc hxc4 hx4 hf4 f4 hB3 hF3 hF4 q1 qm
  have hV6 := hV.none w6F
  obtain ⟨rp, hrp⟩ : ∃ rp : Bool, (Int.tmod kd 2 == 0) = rp := ⟨_, rfl⟩
  obtain ⟨ka, Hka⟩ : ∃ k, Hid (k = pickI a 100) := ⟨_, Lib.hid rfl⟩
  obtain ⟨kb, Hkb⟩ : ∃ k, Hid (k = pickI b 90) := ⟨_, Lib.hid rfl⟩
  have hka : ka < 100 := by rw [Hka.out]; exact pickI_lt _ _ (by omega)
  have hkb : kb < 90 := by rw [Hkb.out]; exact pickI_lt _ _ (by omega)
  obtain ⟨c1, hc1, r1, r2⟩ : ∃ c : UInt8, 60 + ka = c.toNat ∧ IntKind.i64.wrap (60 + (ka : Int)) = (c.toNat : Int) ∧ IntKind.u8.wrap (c.toNat : Int) = (c.toNat : Int) := code_of 60 ka (by omega)
  obtain ⟨c2, hc2, r3, r4⟩ : ∃ c : UInt8, 161 + kb = c.toNat ∧ IntKind.i64.wrap (161 + (kb : Int)) = (c.toNat : Int) ∧ IntKind.u8.wrap (c.toNat : Int) = (c.toNat : Int) := code_of 161 kb (by omega)
  have Hc1 := Lib.hid (And.intro hc1 hka)
  have Hc2 := Lib.hid (And.intro hc2 hkb)
  clear hc1 hc2 hka hkb
  go_upto_region 6 with fail
  go_cut [14] from 55 to 82 (fun v wx => ∃ g g2, v = .pointer (some ⟨g, 0, none⟩) ∧ Bk wx g 75 #[.bool rp, .int .u32 (ia : Int), .int .u32 (ib : Int), .int .u32 (ia : Int), .int .u32 (nx : Int), .int .u8 (n0.toNat : Int), .int .u8 (n1.toNat : Int), .int .u8 (n2.toNat : Int), .int .u8 (n3.toNat : Int), .int .u8 (n4.toNat : Int), .int .u8 (n5.toNat : Int), .slice (some ⟨g2, 0, none⟩) 3 3] ∧ Bk wx g2 72 #[.int .u8 53, .string ⟨#[1]⟩, .int .u8 (c1.toNat : Int), .string (bs l), .int .u8 (c2.toNat : Int), .string ⟨#[]⟩] ∧ Fr noB w wx)
  case first =>
    refine wp_region_pls (by kernel_rfl) (fun w' => Cards w' m0 m1 m2 m3 m4 m5 n0 n1 n2 n3 n4 n5 ∧ Fr noB wc w') [29] (.p 0 (.p 1 (.p 2 (.p 3 (.p 4 (.p 5 (.p 6 (.p 7 (.p 8 (.p 9 (.p 10 (.p 11 (.p 12 (.p 14 (.p 15 (.p 19 (.p 21 (.q 13 (.e2 16 (.p 17 (.p 18 (.p 20 (.e2 22 (.p 23 (.p 24 (.p 25 (.e2 26 (.p 27 (.e 28 (.e 29 (.nil)))) 28 (.e 26 (.p 27 (.e 29 (.nil)))))))) 28 (.e 22 (.p 23 (.p 24 (.p 25 (.e 26 (.p 27 (.e 29 (.nil)))))))))))) 28 (.e 16 (.p 17 (.p 18 (.p 20 (.e 22 (.p 23 (.p 24 (.p 25 (.e 26 (.p 27 (.e 29 (.nil))))))))))))))))))))))))))))))) (by kernel_rfl) (⟨hV6.drew, (Fr.refl _ _).drew⟩) ?_
    intro ops Q' hO hQ' wr1 hR1
    iterate 17 (refine pl_p0 hO rfl rfl ?_ (fun w' => ?_) ?_; rotate_left 1; (focus (go_simp; ((try with_reducible rfl); done))); simp only [Act.put, List.setIfInBounds_toArray, List.set_cons_zero, List.set_cons_succ])
    refine pl_q0 hO rfl rfl ?_ (fun w' hS => ?_) ?_; rotate_left 1; (focus (obtain ⟨hB, hF⟩ := hS; have o0 := hB.o.2 0 _ rfl; have x0 := hB.c.2 0 _ rfl; have o1 := hB.o.2 1 _ rfl; have x1 := hB.c.2 1 _ rfl; have o2 := hB.o.2 2 _ rfl; have x2 := hB.c.2 2 _ rfl; have o3 := hB.o.2 3 _ rfl; have x3 := hB.c.2 3 _ rfl; have o4 := hB.o.2 4 _ rfl; have x4 := hB.c.2 4 _ rfl; have o5 := hB.o.2 5 _ rfl; have x5 := hB.c.2 5 _ rfl; go_simp; ((try with_reducible rfl); done))); simp only [Act.put, List.setIfInBounds_toArray, List.set_cons_zero, List.set_cons_succ]
    refine pl_e2 ?_ ?_
    · skip
      refine pl_e0 hO rfl rfl rfl (fun K hK => ?_)
      go_simp
      refine (pickK a 100 ka _ Hka.out (by decide) (by decide) a0 a1).mono ?_
      rintro e w2 ⟨rfl, h2⟩
      replace h2 := h2.symm
      subst h2
      refine hK _ _ (hR1) (fun hR_16 => ?_)
      clear hK K
      iterate 3 (refine pl_p0 hO rfl rfl ?_ (fun w' => ?_) ?_; rotate_left 1; (focus (go_simp; ((try with_reducible rfl); done))); simp only [Act.put, List.setIfInBounds_toArray, List.set_cons_zero, List.set_cons_succ])
      refine pl_e2 ?_ ?_
      · skip
        refine pl_e0 hO rfl rfl rfl (fun K hK => ?_)
        go_simp
        refine (pickK b 90 kb _ Hkb.out (by decide) (by decide) b0 b1).mono ?_
        rintro e w2 ⟨rfl, h2⟩
        replace h2 := h2.symm
        subst h2
        refine hK _ _ (hR_16) (fun hR_22 => ?_)
        clear hK K
        iterate 3 (refine pl_p0 hO rfl rfl ?_ (fun w' => ?_) ?_; rotate_left 1; (focus (go_simp; ((try with_reducible rfl); done))); simp only [Act.put, List.setIfInBounds_toArray, List.set_cons_zero, List.set_cons_succ])
        refine pl_e2 ?_ ?_
        · skip
          refine pl_e0 hO rfl rfl rfl (fun K hK => ?_)
          go_simp
          refine hK _ _ (⟨hR_22.1.none ((Fr.refl _ _).alloc _), hR_22.2.none ((Fr.refl _ _).alloc _)⟩) (fun hR_26 => ?_)
          clear hK K
          refine pl_p0 hO rfl rfl ?_ (fun w' => ?_) ?_; rotate_left 1; (focus (go_simp; ((try with_reducible rfl); done))); simp only [Act.put, List.setIfInBounds_toArray, List.set_cons_zero, List.set_cons_succ]
          refine pl_e0 hO rfl rfl rfl (fun K hK => ?_)
          go_simp
          refine hK _ _ (⟨hR_26.1.none ((Fr.refl _ _).alloc _), hR_26.2.none ((Fr.refl _ _).alloc _)⟩) (fun hR_28 => ?_)
          clear hK K
          refine pl_b0 hO rfl rfl rfl (fun K hK => ?_)
          have hbn := Bk.new (wr1.alloc (.cells #[.int .u8 53, .string ⟨#[1]⟩, .int .u8 (c1.toNat : Int), .string (bs l), .int .u8 (c2.toNat : Int), .string ⟨#[]⟩] 72)) 75 #[.bool false, .int .u32 0, .int .u32 0, .int .u32 0, .int .u32 0, .int .u8 0, .int .u8 0, .int .u8 0, .int .u8 0, .int .u8 0, .int .u8 0, .slice none 0 0]
          rw [show (wr1.alloc (.cells #[.int .u8 53, .string ⟨#[1]⟩, .int .u8 (c1.toNat : Int), .string (bs l), .int .u8 (c2.toNat : Int), .string ⟨#[]⟩] 72)).heap.size = wr1.heap.size + 1 by simp] at hbn
          refine wp_store_bk 75 (.tmp 14) (.tmp 82) rfl _ _ _ #[.bool rp, .int .u32 (ia : Int), .int .u32 (ib : Int), .int .u32 (ia : Int), .int .u32 (nx : Int), .int .u8 (n0.toNat : Int), .int .u8 (n1.toNat : Int), .int .u8 (n2.toNat : Int), .int .u8 (n3.toNat : Int), .int .u8 (n4.toNat : Int), .int .u8 (n5.toNat : Int), .slice (some ⟨wr1.heap.size, 0, none⟩) 3 3] rfl rfl hbn rfl (by kernel_rfl) (by kernel_rfl) ?_
          intro w9 hx9 hf9
          refine hK _ _ ?_
          clear hK K
          refine pl_nil (hQ' _ _ ?_)
          go_wp2_with fail
          go_meet
          case rel =>
            have hs : w.heap.size ≤ wr1.heap.size := (w6F.none hR1.2).size
            have hz : (wr1.alloc (.cells #[.int .u8 53, .string ⟨#[1]⟩, .int .u8 (c1.toNat : Int), .string (bs l), .int .u8 (c2.toNat : Int), .string ⟨#[]⟩] 72)).heap.size = wr1.heap.size + 1 := by simp
            exact ⟨_, _, rfl, hx9, ((Bk.new wr1 72 #[.int .u8 53, .string ⟨#[1]⟩, .int .u8 (c1.toNat : Int), .string (bs l), .int .u8 (c2.toNat : Int), .string ⟨#[]⟩]).alloc (.cells #[.bool false, .int .u32 0, .int .u32 0, .int .u32 0, .int .u32 0, .int .u8 0, .int .u8 0, .int .u8 0, .int .u8 0, .int .u8 0, .int .u8 0, .slice none 0 0] 75)).keep hf9 (fun x => by have e' := x; unfold oneB at e'; omega), (((w6F.none hR1.2).alloc (.cells #[.int .u8 53, .string ⟨#[1]⟩, .int .u8 (c1.toNat : Int), .string (bs l), .int .u8 (c2.toNat : Int), .string ⟨#[]⟩] 72)).alloc (.cells #[.bool false, .int .u32 0, .int .u32 0, .int .u32 0, .int .u32 0, .int .u8 0, .int .u8 0, .int .u8 0, .int .u8 0, .int .u8 0, .int .u8 0, .slice none 0 0] 75)).trans' hf9 (fun b hb e => by have e' := e; unfold oneB at e'; omega)⟩
        · skip
          refine pl_e0 hO rfl rfl rfl (fun K hK => ?_)
          go_simp
          refine hK _ _ (⟨hR_22.1.none ((Fr.refl _ _).alloc _), hR_22.2.none ((Fr.refl _ _).alloc _)⟩) (fun hR_28 => ?_)
          clear hK K
          refine pl_e0 hO rfl rfl rfl (fun K hK => ?_)
          go_simp
          refine hK _ _ (⟨hR_28.1.none ((Fr.refl _ _).alloc _), hR_28.2.none ((Fr.refl _ _).alloc _)⟩) (fun hR_26 => ?_)
          clear hK K
          refine pl_p0 hO rfl rfl ?_ (fun w' => ?_) ?_; rotate_left 1; (focus (go_simp; ((try with_reducible rfl); done))); simp only [Act.put, List.setIfInBounds_toArray, List.set_cons_zero, List.set_cons_succ]
          refine pl_b0 hO rfl rfl rfl (fun K hK => ?_)
          refine wp_store_bk 75 (.tmp 14) (.tmp 82) rfl _ _ _ #[.bool rp, .int .u32 (ia : Int), .int .u32 (ib : Int), .int .u32 (ia : Int), .int .u32 (nx : Int), .int .u8 (n0.toNat : Int), .int .u8 (n1.toNat : Int), .int .u8 (n2.toNat : Int), .int .u8 (n3.toNat : Int), .int .u8 (n4.toNat : Int), .int .u8 (n5.toNat : Int), .slice (some ⟨wr1.heap.size + 1, 0, none⟩) 3 3] rfl rfl ((Bk.new wr1 75 #[.bool false, .int .u32 0, .int .u32 0, .int .u32 0, .int .u32 0, .int .u8 0, .int .u8 0, .int .u8 0, .int .u8 0, .int .u8 0, .int .u8 0, .slice none 0 0]).alloc (.cells #[.int .u8 53, .string ⟨#[1]⟩, .int .u8 (c1.toNat : Int), .string (bs l), .int .u8 (c2.toNat : Int), .string ⟨#[]⟩] 72)) rfl (by kernel_rfl) (by kernel_rfl) ?_
          intro w9 hx9 hf9
          refine hK _ _ ?_
          clear hK K
          refine pl_nil (hQ' _ _ ?_)
          go_wp2_with fail
          go_meet
          case rel =>
            have hon := Bk.new (wr1.alloc (.cells #[.bool false, .int .u32 0, .int .u32 0, .int .u32 0, .int .u32 0, .int .u8 0, .int .u8 0, .int .u8 0, .int .u8 0, .int .u8 0, .int .u8 0, .slice none 0 0] 75)) 72 #[.int .u8 53, .string ⟨#[1]⟩, .int .u8 (c1.toNat : Int), .string (bs l), .int .u8 (c2.toNat : Int), .string ⟨#[]⟩]
            rw [show (wr1.alloc (.cells #[.bool false, .int .u32 0, .int .u32 0, .int .u32 0, .int .u32 0, .int .u8 0, .int .u8 0, .int .u8 0, .int .u8 0, .int .u8 0, .int .u8 0, .slice none 0 0] 75)).heap.size = wr1.heap.size + 1 by simp] at hon
            have hs : w.heap.size ≤ wr1.heap.size := (w6F.none hR1.2).size
            have hz : (wr1.alloc (.cells #[.bool false, .int .u32 0, .int .u32 0, .int .u32 0, .int .u32 0, .int .u8 0, .int .u8 0, .int .u8 0, .int .u8 0, .int .u8 0, .int .u8 0, .slice none 0 0] 75)).heap.size = wr1.heap.size + 1 := by simp
            exact ⟨_, _, rfl, hx9, hon.keep hf9 (fun x => by have e' := x; unfold oneB at e'; omega), (((w6F.none hR1.2).alloc (.cells #[.bool false, .int .u32 0, .int .u32 0, .int .u32 0, .int .u32 0, .int .u8 0, .int .u8 0, .int .u8 0, .int .u8 0, .int .u8 0, .int .u8 0, .slice none 0 0] 75)).alloc (.cells #[.int .u8 53, .string ⟨#[1]⟩, .int .u8 (c1.toNat : Int), .string (bs l), .int .u8 (c2.toNat : Int), .string ⟨#[]⟩] 72)).trans' hf9 (fun b hb e => by have e' := e; unfold oneB at e'; omega)⟩
      · skip
        refine pl_e0 hO rfl rfl rfl (fun K hK => ?_)
        go_simp
        refine hK _ _ (⟨hR_16.1.none ((Fr.refl _ _).alloc _), hR_16.2.none ((Fr.refl _ _).alloc _)⟩) (fun hR_28 => ?_)
        clear hK K
        refine pl_e0 hO rfl rfl rfl (fun K hK => ?_)
        go_simp
        refine (pickK b 90 kb _ Hkb.out (by decide) (by decide) b0 b1).mono ?_
        rintro e w2 ⟨rfl, h2⟩
        replace h2 := h2.symm
        subst h2
        refine hK _ _ (hR_28) (fun hR_22 => ?_)
        clear hK K
        iterate 3 (refine pl_p0 hO rfl rfl ?_ (fun w' => ?_) ?_; rotate_left 1; (focus (go_simp; ((try with_reducible rfl); done))); simp only [Act.put, List.setIfInBounds_toArray, List.set_cons_zero, List.set_cons_succ])
        refine pl_e0 hO rfl rfl rfl (fun K hK => ?_)
        go_simp
        refine hK _ _ (⟨hR_22.1.none ((Fr.refl _ _).alloc _), hR_22.2.none ((Fr.refl _ _).alloc _)⟩) (fun hR_26 => ?_)
        clear hK K
        refine pl_p0 hO rfl rfl ?_ (fun w' => ?_) ?_; rotate_left 1; (focus (go_simp; ((try with_reducible rfl); done))); simp only [Act.put, List.setIfInBounds_toArray, List.set_cons_zero, List.set_cons_succ]
        refine pl_b0 hO rfl rfl rfl (fun K hK => ?_)
        refine wp_store_bk 75 (.tmp 14) (.tmp 82) rfl _ _ _ #[.bool rp, .int .u32 (ia : Int), .int .u32 (ib : Int), .int .u32 (ia : Int), .int .u32 (nx : Int), .int .u8 (n0.toNat : Int), .int .u8 (n1.toNat : Int), .int .u8 (n2.toNat : Int), .int .u8 (n3.toNat : Int), .int .u8 (n4.toNat : Int), .int .u8 (n5.toNat : Int), .slice (some ⟨wr1.heap.size + 1, 0, none⟩) 3 3] rfl rfl ((Bk.new wr1 75 #[.bool false, .int .u32 0, .int .u32 0, .int .u32 0, .int .u32 0, .int .u8 0, .int .u8 0, .int .u8 0, .int .u8 0, .int .u8 0, .int .u8 0, .slice none 0 0]).alloc (.cells #[.int .u8 53, .string ⟨#[1]⟩, .int .u8 (c1.toNat : Int), .string (bs l), .int .u8 (c2.toNat : Int), .string ⟨#[]⟩] 72)) rfl (by kernel_rfl) (by kernel_rfl) ?_
        intro w9 hx9 hf9
        refine hK _ _ ?_
        clear hK K
        refine pl_nil (hQ' _ _ ?_)
        go_wp2_with fail
        go_meet
        case rel =>
          have hon := Bk.new (wr1.alloc (.cells #[.bool false, .int .u32 0, .int .u32 0, .int .u32 0, .int .u32 0, .int .u8 0, .int .u8 0, .int .u8 0, .int .u8 0, .int .u8 0, .int .u8 0, .slice none 0 0] 75)) 72 #[.int .u8 53, .string ⟨#[1]⟩, .int .u8 (c1.toNat : Int), .string (bs l), .int .u8 (c2.toNat : Int), .string ⟨#[]⟩]
          rw [show (wr1.alloc (.cells #[.bool false, .int .u32 0, .int .u32 0, .int .u32 0, .int .u32 0, .int .u8 0, .int .u8 0, .int .u8 0, .int .u8 0, .int .u8 0, .int .u8 0, .slice none 0 0] 75)).heap.size = wr1.heap.size + 1 by simp] at hon
          have hs : w.heap.size ≤ wr1.heap.size := (w6F.none hR1.2).size
          have hz : (wr1.alloc (.cells #[.bool false, .int .u32 0, .int .u32 0, .int .u32 0, .int .u32 0, .int .u8 0, .int .u8 0, .int .u8 0, .int .u8 0, .int .u8 0, .int .u8 0, .slice none 0 0] 75)).heap.size = wr1.heap.size + 1 := by simp
          exact ⟨_, _, rfl, hx9, hon.keep hf9 (fun x => by have e' := x; unfold oneB at e'; omega), (((w6F.none hR1.2).alloc (.cells #[.bool false, .int .u32 0, .int .u32 0, .int .u32 0, .int .u32 0, .int .u8 0, .int .u8 0, .int .u8 0, .int .u8 0, .int .u8 0, .int .u8 0, .slice none 0 0] 75)).alloc (.cells #[.int .u8 53, .string ⟨#[1]⟩, .int .u8 (c1.toNat : Int), .string (bs l), .int .u8 (c2.toNat : Int), .string ⟨#[]⟩] 72)).trans' hf9 (fun b hb e => by have e' := e; unfold oneB at e'; omega)⟩
    · skip
      refine pl_e0 hO rfl rfl rfl (fun K hK => ?_)
      go_simp
      refine hK _ _ (⟨hR1.1.none ((Fr.refl _ _).alloc _), hR1.2.none ((Fr.refl _ _).alloc _)⟩) (fun hR_28 => ?_)
      clear hK K
      refine pl_e0 hO rfl rfl rfl (fun K hK => ?_)
      go_simp
      refine (pickK a 100 ka _ Hka.out (by decide) (by decide) a0 a1).mono ?_
      rintro e w2 ⟨rfl, h2⟩
      replace h2 := h2.symm
      subst h2
      refine hK _ _ (hR_28) (fun hR_16 => ?_)
      clear hK K
      iterate 3 (refine pl_p0 hO rfl rfl ?_ (fun w' => ?_) ?_; rotate_left 1; (focus (go_simp; ((try with_reducible rfl); done))); simp only [Act.put, List.setIfInBounds_toArray, List.set_cons_zero, List.set_cons_succ])
      refine pl_e0 hO rfl rfl rfl (fun K hK => ?_)
      go_simp
      refine (pickK b 90 kb _ Hkb.out (by decide) (by decide) b0 b1).mono ?_
      rintro e w2 ⟨rfl, h2⟩
      replace h2 := h2.symm
      subst h2
      refine hK _ _ (hR_16) (fun hR_22 => ?_)
      clear hK K
      iterate 3 (refine pl_p0 hO rfl rfl ?_ (fun w' => ?_) ?_; rotate_left 1; (focus (go_simp; ((try with_reducible rfl); done))); simp only [Act.put, List.setIfInBounds_toArray, List.set_cons_zero, List.set_cons_succ])
      refine pl_e0 hO rfl rfl rfl (fun K hK => ?_)
      go_simp
      refine hK _ _ (⟨hR_22.1.none ((Fr.refl _ _).alloc _), hR_22.2.none ((Fr.refl _ _).alloc _)⟩) (fun hR_26 => ?_)
      clear hK K
      refine pl_p0 hO rfl rfl ?_ (fun w' => ?_) ?_; rotate_left 1; (focus (go_simp; ((try with_reducible rfl); done))); simp only [Act.put, List.setIfInBounds_toArray, List.set_cons_zero, List.set_cons_succ]
      refine pl_b0 hO rfl rfl rfl (fun K hK => ?_)
      refine wp_store_bk 75 (.tmp 14) (.tmp 82) rfl _ _ _ #[.bool rp, .int .u32 (ia : Int), .int .u32 (ib : Int), .int .u32 (ia : Int), .int .u32 (nx : Int), .int .u8 (n0.toNat : Int), .int .u8 (n1.toNat : Int), .int .u8 (n2.toNat : Int), .int .u8 (n3.toNat : Int), .int .u8 (n4.toNat : Int), .int .u8 (n5.toNat : Int), .slice (some ⟨wr1.heap.size + 1, 0, none⟩) 3 3] rfl rfl ((Bk.new wr1 75 #[.bool false, .int .u32 0, .int .u32 0, .int .u32 0, .int .u32 0, .int .u8 0, .int .u8 0, .int .u8 0, .int .u8 0, .int .u8 0, .int .u8 0, .slice none 0 0]).alloc (.cells #[.int .u8 53, .string ⟨#[1]⟩, .int .u8 (c1.toNat : Int), .string (bs l), .int .u8 (c2.toNat : Int), .string ⟨#[]⟩] 72)) rfl (by kernel_rfl) (by kernel_rfl) ?_
      intro w9 hx9 hf9
      refine hK _ _ ?_
      clear hK K
      refine pl_nil (hQ' _ _ ?_)
      go_wp2_with fail
      go_meet
      case rel =>
        have hon := Bk.new (wr1.alloc (.cells #[.bool false, .int .u32 0, .int .u32 0, .int .u32 0, .int .u32 0, .int .u8 0, .int .u8 0, .int .u8 0, .int .u8 0, .int .u8 0, .int .u8 0, .slice none 0 0] 75)) 72 #[.int .u8 53, .string ⟨#[1]⟩, .int .u8 (c1.toNat : Int), .string (bs l), .int .u8 (c2.toNat : Int), .string ⟨#[]⟩]
        rw [show (wr1.alloc (.cells #[.bool false, .int .u32 0, .int .u32 0, .int .u32 0, .int .u32 0, .int .u8 0, .int .u8 0, .int .u8 0, .int .u8 0, .int .u8 0, .int .u8 0, .slice none 0 0] 75)).heap.size = wr1.heap.size + 1 by simp] at hon
        have hs : w.heap.size ≤ wr1.heap.size := (w6F.none hR1.2).size
        have hz : (wr1.alloc (.cells #[.bool false, .int .u32 0, .int .u32 0, .int .u32 0, .int .u32 0, .int .u8 0, .int .u8 0, .int .u8 0, .int .u8 0, .int .u8 0, .int .u8 0, .slice none 0 0] 75)).heap.size = wr1.heap.size + 1 := by simp
        exact ⟨_, _, rfl, hx9, hon.keep hf9 (fun x => by have e' := x; unfold oneB at e'; omega), (((w6F.none hR1.2).alloc (.cells #[.bool false, .int .u32 0, .int .u32 0, .int .u32 0, .int .u32 0, .int .u8 0, .int .u8 0, .int .u8 0, .int .u8 0, .int .u8 0, .int .u8 0, .slice none 0 0] 75)).alloc (.cells #[.int .u8 53, .string ⟨#[1]⟩, .int .u8 (c1.toNat : Int), .string (bs l), .int .u8 (c2.toNat : Int), .string ⟨#[]⟩] 72)).trans' hf9 (fun b hb e => by have e' := e; unfold oneB at e'; omega)⟩
  case rest =>
  as_aux_lemma =>
  obtain ⟨gd, go, rfl, hB, hO, hF⟩ := hcut
  have hos : RdOs (osB c1 c2 l) := rd_osB c1 c2 l ka kb Hc1.out.1 Hc1.out.2 Hc2.out.1 Hc2.out.2 hl2
  have hBc := hB.cells
  go_wp2_with fail
  refine (rdWD rp ia ib ia nx n0 n1 n2 n3 n4 n5 (osB c1 c2 l) (some ⟨go, 0, none⟩) 3 _ ia1 ib1 ia1 nx1 (SlR.of_bk hO (fun x => x) rfl) hos).mono ?_
  rintro e w2 ⟨rfl, f2⟩
  have hRD := fun w => rdRD rp ia ib ia nx n0 n1 n2 n3 n4 n5 (osB c1 c2 l) w ia1 ib1 ia1 nx1 hos
  have q1 := dhcOfB_len rp ia ib ia nx (n0, n1, n2, n3, n4, n5) (osB c1 c2 l) hos
  generalize dhcOfB rp ia ib ia nx (n0, n1, n2, n3, n4, n5) (osB c1 c2 l) = db at *
  obtain ⟨q1, q2⟩ := q1
  have HRD := Lib.hid hRD
  have hB2 := hB.keep f2 (fun x => x)
  have hO2 := hO.keep f2 (fun x => x)
  have hF2 := hF.none f2
  clear hRD hBc hB hO hF f2
  go_wp2_with fail
  refine (HRD.out _).mono ?_
  rintro e w3 ⟨⟨A, cap, rfl, hS3⟩, f3⟩
  have hB3 := hB2.keep f3 (fun x => x)
  have hO3 := hO2.keep f3 (fun x => x)
  have hF3 := hF2.none f3
  clear HRD hB2 hO2 hF2 f3
  go_upto_region 9 with ((refine wpList_store_bk rfl 75 (.tmp 15) (.tmp 91) rfl _ _ _ #[.bool rp, .int .u32 (ia : Int), .int .u32 (ib : Int), .int .u32 (ia : Int), .int .u32 (nx : Int), .int .u8 (n0.toNat : Int), .int .u8 (n1.toNat : Int), .int .u8 (n2.toNat : Int), .int .u8 (n3.toNat : Int), .int .u8 (n4.toNat : Int), .int .u8 (n5.toNat : Int), .slice A 3 cap] rfl rfl (Bk.new _ 75 #[.bool false, .int .u32 0, .int .u32 0, .int .u32 0, .int .u32 0, .int .u8 0, .int .u8 0, .int .u8 0, .int .u8 0, .int .u8 0, .int .u8 0, .slice none 0 0]) rfl (by kernel_rfl) (by kernel_rfl) ?_); intro w5 hx5 hf5)
  have f5 : Fr noB w3 w5 := ((Fr.refl noB w3).alloc (.cells #[.bool false, .int .u32 0, .int .u32 0, .int .u32 0, .int .u32 0, .int .u8 0, .int .u8 0, .int .u8 0, .int .u8 0, .int .u8 0, .int .u8 0, .slice none 0 0] 75)).trans' hf5 (fun b hb e => by have e' : b = w3.heap.size := e; omega)
  have hxc5 := hx5.cells
  have hB5 := hB3.keep f5 (fun x => x)
  have hBc := hB5.cells
  have hO5 := hO3.keep f5 (fun x => x)
  have hS5 := hS3.keep f5
  have hF5 := hF3.none f5
  have hE : ∀ w, (binOp .neq 23 (.agg #[.int .u8 (n0.toNat : Int), .int .u8 (n1.toNat : Int), .int .u8 (n2.toNat : Int), .int .u8 (n3.toNat : Int), .int .u8 (n4.toNat : Int), .int .u8 (n5.toNat : Int)]) (.agg #[.int .u8 (n0.toNat : Int), .int .u8 (n1.toNat : Int), .int .u8 (n2.toNat : Int), .int .u8 (n3.toNat : Int), .int .u8 (n4.toNat : Int), .int .u8 (n5.toNat : Int)])).run Tryz.prog w = .ok (.bool false) w := fun w => neqSelf w (by kernel_rfl)
  go_cut [151] from 85 to 151 (fun v wx => v = .bool false ∧ wx = w5)
  case first =>
    go_wp2_with fail
    go_meet
    case rel => exact ⟨congrArg Value.bool (decide_eq_false (by omega)), rfl⟩
  case rest =>
  obtain ⟨rfl, hwc⟩ := hcut
  replace hwc := hwc.symm
  subst hwc
  clear hE q1 q2
  go_upto_region 11 with fail
  have hO6 : SlR w5 noB 2 (some ⟨go, 0, none⟩) 3 (optC (osB c1 c2 l)) := SlR.of_bk (n := 3) hO5 (fun x => x) rfl
  go_wp2_with fail
  go_loopw [155] (fun iv wr => ∃ (i : Nat), i ≤ 3 ∧ iv = .int .i64 (i : Int) ∧ Fr noB w5 wr) (fun iv _ => 3 - (intOf iv).toNat)
  case atStart => exact ⟨0, by omega, rfl, Fr.refl _ _⟩
  case round =>
    obtain ⟨i, hi, rfl, hw⟩ := hrel
    by_cases hlt : i < 3
    · obtain ⟨o, ho⟩ : ∃ o, (osB c1 c2 l)[i]? = some o := ⟨_, List.getElem?_eq_getElem hlt⟩
      obtain ⟨ad, had, a1, a2⟩ := (hO6.keep hw).optAt ho
      obtain rfl := Option.some.inj had; simp only [addr_add, Nat.zero_add] at a1 a2
      have hcA := (hB5.keep hw (fun x => x)).cells
      have Ho := Lib.hid ho
      clear ho
      go_upto_region 14 with ((refine wpList_store_bk rfl 72 (.tmp 17) (.tmp 159) rfl _ _ _ #[.int .u8 (o.code.toNat : Int), .string (bs o.data)] rfl rfl (Bk.new _ 72 #[.int .u8 0, .string ⟨#[]⟩]) rfl (by kernel_rfl) (by kernel_rfl) ?_); intro w7 hx7 hf7)
      have f7 : Fr noB wr w7 := ((Fr.refl noB wr).alloc (.cells #[.int .u8 0, .string ⟨#[]⟩] 72)).trans' hf7 (fun b hb e => by have e' : b = wr.heap.size := e; omega)
      have hxc7 := hx7.cells
      clear a1 a2 hcA
      have hw7 := hw.none f7
      have hcB := (hx5.keep hw7 (fun x => x)).cells
      obtain ⟨bd, hbd, b1, b2⟩ := (hS5.keep hw7).optAt Ho.out
      subst hbd
      have hE2 : ∀ w, (binOp .neq 72 (.agg #[.int .u8 (o.code.toNat : Int), .string (bs o.data)]) (.agg #[.int .u8 (o.code.toNat : Int), .string (bs o.data)])).run Tryz.prog w = .ok (.bool false) w := fun w => neqSelf w (by kernel_rfl)
      go_quiet (fail)
      go_wp2_with fail
      exact ⟨⟨i + 1, by omega, by (first | (rw [Int.natCast_add]; rfl) | (rw [show wrap64 ((i : Int) + 1) = ((i + 1 : Nat) : Int) from by rw [show wrap64 ((i : Int) + 1) = IntKind.i64.wrap ((i : Int) + 1) from rfl, IntWalk.i64_in _ (by omega)]; omega])), by first | exact hw7.drewN _ | exact hw7.drew | exact hw7⟩, by simp only [intOf]; omega⟩
    · obtain rfl : i = 3 := by omega
      go_upto_region 17 with fail
      as_aux_lemma =>
      have hFc := hF5.none hw
      have hVc := hV.none hFc
      have hTc := hT.none hFc
      clear hBc hxc5 hx5 hf5 hB3 hF3 hO3 hS3 hB5 hO5 hS5 hF5 hO6 hos hw Hka Hkb r1 r2 r3 r4 Hc1 Hc2
      go_upto_region 18 with ((refine wpList_store_bk rfl 81 (.tmp 18) (.tmp 171) rfl _ _ _ #[.int .u16 3, .int .u16 (xa : Int), .string ⟨#[]⟩, .string (bs l), .slice none 0 0] rfl rfl (Bk.new _ 81 #[.int .u16 0, .int .u16 0, .string ⟨#[]⟩, .string ⟨#[]⟩, .slice none 0 0]) rfl (by kernel_rfl) (by kernel_rfl) ?_); intro w8 hx8 hf8)
      have f8 : Fr noB wr w8 := ((Fr.refl noB wr).alloc (.cells #[.int .u16 0, .int .u16 0, .string ⟨#[]⟩, .string ⟨#[]⟩, .slice none 0 0] 81)).trans' hf8 (fun b hb e => by have e' : b = wr.heap.size := e; omega)
      have hxc8 := hx8.cells
      obtain ⟨k4, Hk4⟩ : ∃ k, Hid (k = pickI kd 4) := ⟨_, Lib.hid rfl⟩
      have hk4 : k4 < 4 := by rw [Hk4.out]; exact pickI_lt _ _ (by omega)
      go_upto_block 2 with fail
      refine (pickK kd 4 k4 _ Hk4.out (by decide) (by decide) k0 k1).mono ?_
      rintro e w9 ⟨rfl, h2⟩
      subst h2
      go_upto_block 2 with fail
      go_cut [] from 172 to 201 (fun wx => ∃ d A cap, RdT d ∧ d.fs.length ≤ cap ∧ Bk wx wr.heap.size 81 (tftC d A cap) ∧ SlR wx noB 2 A d.fs.length (fldC d.fs) ∧ Fr noB wr wx)
      case first =>
        rcases (by omega : k4 = 0 ∨ k4 = 1 ∨ k4 = 2 ∨ k4 = 3) with rfl | rfl | rfl | rfl
        · go_wp2_with ((refine wpList_store_bk rfl 81 (.tmp 18) (.tmp 178) rfl _ _ _ #[.int .u16 4, .int .u16 (xa : Int), .string ⟨#[]⟩, .string ⟨#[]⟩, .slice none 0 0] rfl rfl hx8 rfl (by kernel_rfl) (by kernel_rfl) ?_); intro w9 hx9 hf9)
          go_meet
          case rel => exact ⟨⟨4, xa, [], [], []⟩, none, 0, rt_ack xa xa1, Nat.le_refl _, hx9, SlR.nil, (f8.trans' hf9 (fun b hb e => by have e' : b = wr.heap.size := e; omega))⟩
        · go_wp2_with ((refine wpList_store_bk rfl 81 (.tmp 18) (.tmp 183) rfl _ _ _ #[.int .u16 5, .int .u16 (xa : Int), .string ⟨#[110, 111, 32, 115, 117, 99, 104, 32, 116, 104, 105, 110, 103]⟩, .string ⟨#[]⟩, .slice none 0 0] rfl rfl hx8 rfl (by kernel_rfl) (by kernel_rfl) ?_); intro w9 hx9 hf9)
          go_meet
          case rel => exact ⟨⟨5, xa, nosuch, [], []⟩, none, 0, rt_err xa xa1, Nat.le_refl _, hx9, SlR.nil, (f8.trans' hf9 (fun b hb e => by have e' : b = wr.heap.size := e; omega))⟩
        · obtain ⟨k5, Hk5⟩ : ∃ k, Hid (k = pickI b 2) := ⟨_, Lib.hid rfl⟩
          have hk5 : k5 < 2 := by rw [Hk5.out]; exact pickI_lt _ _ (by omega)
          obtain ⟨kn, Hkn⟩ : ∃ k, Hid (k = pickI b 99999) := ⟨_, Lib.hid rfl⟩
          have hkn : kn < 10 ^ (4 + 1) := by have : kn < 99999 := by { rw [Hkn.out]; exact pickI_lt _ _ (by omega) }; omega
          rcases (by omega : k5 = 0 ∨ k5 = 1) with rfl | rfl
          · go_wp2_with fail
            refine (pickK b 2 0 _ Hk5.out (by decide) (by decide) b0 b1).mono ?_
            rintro e w10 ⟨rfl, h2⟩
            subst h2
            go_wp2_with fail
            refine (pickK b 99999 kn _ Hkn.out (by decide) (by decide) b0 b1).mono ?_
            rintro e w10 ⟨rfl, h2⟩
            subst h2
            go_wp2_with fail
            refine (digitsFn 4 kn _ (by decide) hkn).mono ?_
            rintro e w10 ⟨⟨t, rfl, ht, htl⟩, f10⟩
            have hfn := Bk.new w10 83 #[.string ⟨#[97]⟩, .string ⟨#[49]⟩, .string ⟨#[116, 115, 105, 122, 101]⟩, .string (bs t)]
            have hng : ¬ oneB wr.heap.size w10.heap.size := fun x => by have e' : w10.heap.size = wr.heap.size := x; have := f10.size; have := hx8.lt; omega
            go_wp2_with ((refine wpList_store_bk rfl 81 (.tmp 18) (.tmp 197) rfl _ _ _ #[.int .u16 1, .int .u16 0, .string ⟨#[]⟩, .string ⟨#[]⟩, .slice (some ⟨w10.heap.size, 0, none⟩) 2 2] rfl rfl ((hx8.keep f10 (fun x => x)).alloc (.cells #[.string ⟨#[97]⟩, .string ⟨#[49]⟩, .string ⟨#[116, 115, 105, 122, 101]⟩, .string (bs t)] 83)) rfl (by kernel_rfl) (by kernel_rfl) ?_); intro w9 hx9 hf9; have hcz := hx9.cells; have hfz := hx9.frees)
            go_meet
            case rel => exact ⟨⟨1, 0, kernelB, [], twoF t⟩, some ⟨w10.heap.size, 0, none⟩, 2, rt_ask t ht htl, Nat.le_refl _, hx9.set 2 (.string (bs kernelB)), ((SlR.of_bk (S := oneB wr.heap.size) (n := 2) (size := 2) (hfn.keep hf9 hng) hng rfl).keep ((Fr.refl (oneB wr.heap.size) w9).setCell (p := ⟨wr.heap.size, 2, none⟩) (fun _ => rfl) _)).sub (fun b hb x => x.elim), (((f8.none f10).alloc (.cells #[.string ⟨#[97]⟩, .string ⟨#[49]⟩, .string ⟨#[116, 115, 105, 122, 101]⟩, .string (bs t)] 83)).trans' hf9 (fun b hb e => by have e' : b = wr.heap.size := e; omega)).setCell (p := ⟨wr.heap.size, 2, none⟩) (fun x => absurd x (Nat.lt_irrefl _)) _⟩
          · go_wp2_with fail
            refine (pickK b 2 1 _ Hk5.out (by decide) (by decide) b0 b1).mono ?_
            rintro e w10 ⟨rfl, h2⟩
            subst h2
            go_wp2_with fail
            refine (pickK b 99999 kn _ Hkn.out (by decide) (by decide) b0 b1).mono ?_
            rintro e w10 ⟨rfl, h2⟩
            subst h2
            go_wp2_with fail
            refine (digitsFn 4 kn _ (by decide) hkn).mono ?_
            rintro e w10 ⟨⟨t, rfl, ht, htl⟩, f10⟩
            have hfn := Bk.new w10 83 #[.string ⟨#[97]⟩, .string ⟨#[49]⟩, .string ⟨#[116, 115, 105, 122, 101]⟩, .string (bs t)]
            have hng : ¬ oneB wr.heap.size w10.heap.size := fun x => by have e' : w10.heap.size = wr.heap.size := x; have := f10.size; have := hx8.lt; omega
            go_wp2_with ((refine wpList_store_bk rfl 81 (.tmp 18) (.tmp 197) rfl _ _ _ #[.int .u16 6, .int .u16 0, .string ⟨#[]⟩, .string ⟨#[]⟩, .slice (some ⟨w10.heap.size, 0, none⟩) 2 2] rfl rfl ((hx8.keep f10 (fun x => x)).alloc (.cells #[.string ⟨#[97]⟩, .string ⟨#[49]⟩, .string ⟨#[116, 115, 105, 122, 101]⟩, .string (bs t)] 83)) rfl (by kernel_rfl) (by kernel_rfl) ?_); intro w9 hx9 hf9; have hcz := hx9.cells; have hfz := hx9.frees)
            go_meet
            case rel => exact ⟨⟨6, 0, [], [], twoF t⟩, some ⟨w10.heap.size, 0, none⟩, 2, rt_oack t ht htl, Nat.le_refl _, hx9, SlR.of_bk (n := 2) (size := 2) (hfn.keep hf9 hng) (fun x => x) rfl, ((f8.none f10).alloc (.cells #[.string ⟨#[97]⟩, .string ⟨#[49]⟩, .string ⟨#[116, 115, 105, 122, 101]⟩, .string (bs t)] 83)).trans' hf9 (fun b hb e => by have e' : b = wr.heap.size := e; omega)⟩
        · go_wp2_with fail
          go_meet
          case rel => exact ⟨⟨3, xa, [], l, []⟩, none, 0, rt_data xa l xa1 hl2, Nat.le_refl _, hx8, SlR.nil, f8⟩
      case rest =>
      as_aux_lemma =>
      obtain ⟨d, A, cap, hd, hnc, hB, hS, hF⟩ := hcut
      have hfl : d.fs.length ≤ 1048576 := Nat.le_trans (wtF_len _) hd.wt
      unfold tftC at hB
      have hBc := hB.cells
      have hT2 := hTc.none hF
      go_wp2_with fail
      refine (rdWT d A cap _ hS hnc hd hT2).mono ?_
      rintro e w12 ⟨rfl, f12⟩
      have hRT := fun w => rdRT d w hd
      generalize (wrTFTP d).1 = tb at *
      have HRT := Lib.hid hRT
      have hB2 := hB.keep f12 (fun x => x)
      have hS2 := hS.keep f12
      have hF2 := hF.none f12
      have hT3 := hT2.none f12
      clear hRT hBc hB hS hF f12 hT2
      go_wp2_with fail
      refine (HRT.out _ hT3).mono ?_
      rintro e w13 ⟨⟨A2, cap2, rfl, hS3⟩, f13⟩
      have hB3 := hB2.keep f13 (fun x => x)
      have hS4 := hS2.keep f13
      have hF3 := hF2.none f13
      clear HRT hB2 hS2 hF2 f13
      go_upto_region 29 with ((refine wpList_store_bk rfl 81 (.tmp 19) (.tmp 210) rfl _ _ _ #[.int .u16 (d.op : Int), .int .u16 (d.block : Int), .string (bs d.text), .string (bs d.data), .slice A2 d.fs.length cap2] rfl rfl (Bk.new _ 81 #[.int .u16 0, .int .u16 0, .string ⟨#[]⟩, .string ⟨#[]⟩, .slice none 0 0]) rfl (by kernel_rfl) (by kernel_rfl) ?_); intro w14 hx14 hf14)
      have f14 : Fr noB w13 w14 := ((Fr.refl noB w13).alloc (.cells #[.int .u16 0, .int .u16 0, .string ⟨#[]⟩, .string ⟨#[]⟩, .slice none 0 0] 81)).trans' hf14 (fun b hb e => by have e' : b = w13.heap.size := e; omega)
      have hxc14 := hx14.cells
      have hB5 := hB3.keep f14 (fun x => x)
      have hBc := hB5.cells
      have hS5 := hS4.keep f14
      have hS6 := hS3.keep f14
      have hF5 := hF3.none f14
      go_wp2_with fail
      go_loopw [258] (fun iv wr => ∃ (i : Nat), i ≤ d.fs.length ∧ iv = .int .i64 (i : Int) ∧ Fr noB w14 wr) (fun iv _ => d.fs.length - (intOf iv).toNat)
      case atStart => exact ⟨0, by omega, rfl, Fr.refl _ _⟩
      case round =>
        obtain ⟨i, hi, rfl, hw⟩ := hrel
        by_cases hlt : i < d.fs.length
        · obtain ⟨o, ho⟩ : ∃ o, d.fs[i]? = some o := ⟨_, List.getElem?_eq_getElem hlt⟩
          obtain ⟨ad, had, a1, a2⟩ := (hS5.keep hw).fldAt ho
          subst had
          have hcA := (hB5.keep hw (fun x => x)).cells
          have Ho := Lib.hid ho
          clear ho
          go_upto_region 34 with ((refine wpList_store_bk rfl 83 (.tmp 21) (.tmp 262) rfl _ _ _ #[.string (bs o.name), .string (bs o.value)] rfl rfl (Bk.new _ 83 #[.string ⟨#[]⟩, .string ⟨#[]⟩]) rfl (by kernel_rfl) (by kernel_rfl) ?_); intro w7 hx7 hf7)
          have f7 : Fr noB wr w7 := ((Fr.refl noB wr).alloc (.cells #[.string ⟨#[]⟩, .string ⟨#[]⟩] 83)).trans' hf7 (fun b hb e => by have e' : b = wr.heap.size := e; omega)
          have hxc7 := hx7.cells
          clear a1 a2 hcA
          have hw7 := hw.none f7
          have hcB := (hx14.keep hw7 (fun x => x)).cells
          obtain ⟨bd, hbd, b1, b2⟩ := (hS6.keep hw7).fldAt Ho.out
          subst hbd
          have hE2 : ∀ w, (binOp .neq 83 (.agg #[.string (bs o.name), .string (bs o.value)]) (.agg #[.string (bs o.name), .string (bs o.value)])).run Tryz.prog w = .ok (.bool false) w := fun w => neqSelf w (by kernel_rfl)
          go_quiet (fail)
          go_wp2_with fail
          exact ⟨⟨i + 1, by omega, by (first | (rw [Int.natCast_add]; rfl) | (rw [show wrap64 ((i : Int) + 1) = ((i + 1 : Nat) : Int) from by rw [show wrap64 ((i : Int) + 1) = IntKind.i64.wrap ((i : Int) + 1) from rfl, IntWalk.i64_in _ (by omega)]; omega])), by first | exact hw7.drewN _ | exact hw7.drew | exact hw7⟩, by simp only [intOf]; omega⟩
        · obtain rfl : i = d.fs.length := by omega
          go_wp2_with fail
          go_ret
          exact ⟨rfl, hFc.none (hF5.none hw)⟩
end Go.Proofs.YtcbkaiakdhiloabGreatDoor
