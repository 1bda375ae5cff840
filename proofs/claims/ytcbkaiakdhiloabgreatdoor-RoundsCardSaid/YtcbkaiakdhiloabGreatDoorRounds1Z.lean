/- Of frames, packets and datagrams: what is written is read as it was; netbootkeep.Rounds walked up to its call of message. Written by mkrounds.py. -/
import Derived.Test.YtcbkaiakdhiloabGreatDoorMak
import Derived.Test.YtcbkaiakdhiloabGreatDoorMal
import Derived.Deep.Cut
import Derived.Deep.CutRange
set_option linter.unusedSimpArgs false
set_option linter.unusedVariables false
namespace Go.Proofs.YtcbkaiakdhiloabGreatDoor
open Go.RowKit Go.Proofs
attribute [local go_sem] bs_size bs_append bs_sub bs_toList

theorem neqSelf {P : Program} (w : World) {t : TypeId} {xs : Array Value} (h : selfEq P 8 t (.agg xs) = true) : (binOp .neq t (.agg xs) (.agg xs)).run P w = .ok (.bool false) w := by
  rw [run_neq_struct w t xs xs, show (10000 : Nat) = 9992 + 8 from rfl, equalIn_self w 9992 8 t (.agg xs) h]; rfl
def moreB : List UInt8 := [109, 111, 114, 101]
theorem more_bs : (⟨#[109, 111, 114, 101]⟩ : ByteArray) = bs moreB := rfl
attribute [local go_sem] more_bs
theorem rdWE (ty : Nat) (ld : List UInt8) (m0 m1 m2 m3 m4 m5 n0 n1 n2 n3 n4 n5 : UInt8) (w : World) (h1 : 1536 ≤ ty) (h2 : ty < 65536) (hl : ld.length ≤ 1000) :
    Calls Tryz.prog 9 #[.agg #[.int .u8 (m0.toNat : Int), .int .u8 (m1.toNat : Int), .int .u8 (m2.toNat : Int), .int .u8 (m3.toNat : Int), .int .u8 (m4.toNat : Int), .int .u8 (m5.toNat : Int), .int .u8 (n0.toNat : Int), .int .u8 (n1.toNat : Int), .int .u8 (n2.toNat : Int), .int .u8 (n3.toNat : Int), .int .u8 (n4.toNat : Int), .int .u8 (n5.toNat : Int), .int .u16 (ty : Int), .string (bs (ld))]] w (fun e w' => e = .returned (.tuple #[.string (bs (ethBytes (m0, m1, m2, m3, m4, m5) (n0, n1, n2, n3, n4, n5) ty ld)), .int .i64 0]) ∧ Fr noB w w') := by
  have h := bootWriteEther ty ld m0 m1 m2 m3 m4 m5 n0 n1 n2 n3 n4 n5 w h2 (by omega)
  have e : wrEther (m0, m1, m2, m3, m4, m5) (n0, n1, n2, n3, n4, n5) ty ld = (ethBytes (m0, m1, m2, m3, m4, m5) (n0, n1, n2, n3, n4, n5) ty ld, 0) := by unfold wrEther; rw [if_neg (by omega), if_neg (by omega)]
  rw [e] at h
  exact h
theorem rdRE (ty : Nat) (ld : List UInt8) (m0 m1 m2 m3 m4 m5 n0 n1 n2 n3 n4 n5 : UInt8) (w : World) (h1 : 1536 ≤ ty) (h2 : ty < 65536) (hl : ld.length ≤ 1000) :
    Calls Tryz.prog 10 #[.string (bs (ethBytes (m0, m1, m2, m3, m4, m5) (n0, n1, n2, n3, n4, n5) ty ld))] w (fun e w' => e = .returned (.tuple #[.agg #[.int .u8 (m0.toNat : Int), .int .u8 (m1.toNat : Int), .int .u8 (m2.toNat : Int), .int .u8 (m3.toNat : Int), .int .u8 (m4.toNat : Int), .int .u8 (m5.toNat : Int), .int .u8 (n0.toNat : Int), .int .u8 (n1.toNat : Int), .int .u8 (n2.toNat : Int), .int .u8 (n3.toNat : Int), .int .u8 (n4.toNat : Int), .int .u8 (n5.toNat : Int), .int .u16 (ty : Int), .string (bs (ethFill ld))], .int .i64 0]) ∧ Fr noB w w') := by
  have hl2 : (ethBytes (m0, m1, m2, m3, m4, m5) (n0, n1, n2, n3, n4, n5) ty ld).length ≤ 9223372036854775807 := by
    unfold ethBytes; rw [List.length_append, ethBody_length, List.length_replicate]; omega
  have h := bootReadEther (ethBytes (m0, m1, m2, m3, m4, m5) (n0, n1, n2, n3, n4, n5) ty ld) w hl2
  unfold ethPost at h
  rw [readEther_written (m0, m1, m2, m3, m4, m5) (n0, n1, n2, n3, n4, n5) ty ld h1 h2 (by omega)] at h
  exact h
theorem ethBytes_long (tm fm : Mac) (ty : Nat) (ld : List UInt8) : 60 ≤ (ethBytes tm fm ty ld).length := by
  unfold ethBytes; rw [List.length_append, List.length_replicate, ethBody_length]; omega
theorem ethBytes_short (tm fm : Mac) (ty : Nat) (ld : List UInt8) (h : ld.length ≤ 1000) : (ethBytes tm fm ty ld).length ≤ 1074 := by
  unfold ethBytes; rw [List.length_append, List.length_replicate, ethBody_length]; omega
theorem ethFill_sub (ld : List UInt8) : sub (ethFill ld) 0 ld.length = ld := take_head rfl
theorem ethFill_len (ld : List UInt8) : ld.length ≤ (ethFill ld).length := by unfold ethFill; simp
theorem rdWI (id fi ti : Nat) (ttl pr : UInt8) (ld : List UInt8) (w : World) (hid : id < 65536) (hfi : fi < 4294967296) (hti : ti < 4294967296) (ht : ttl.toNat ≠ 0) (hl : ld.length ≤ 1000) :
    Calls Tryz.prog 11 #[.agg #[.int .u16 (id : Int), .int .u8 (ttl.toNat : Int), .int .u8 (pr.toNat : Int), .int .u32 (fi : Int), .int .u32 (ti : Int), .string (bs ld)]] w (fun e w' => e = .returned (.tuple #[.string (bs (ipBytes id ttl pr fi ti ld)), .int .i64 0]) ∧ Fr noB w w') := by
  have h := bootWriteIP id fi ti ttl pr ld w hid hfi hti (by omega)
  have e : wrIP id ttl pr fi ti ld = (ipBytes id ttl pr fi ti ld, 0) := by unfold wrIP; rw [if_neg ht, if_neg (by omega)]
  rw [e] at h
  exact h
theorem ipBytes_len (id : Nat) (ttl pr : UInt8) (fi ti : Nat) (ld : List UInt8) : (ipBytes id ttl pr fi ti ld).length = 20 + ld.length := by unfold ipBytes; simp [ipHead_length]
theorem rdRI (id fi ti : Nat) (ttl pr : UInt8) (ld : List UInt8) (w : World) (hid : id < 65536) (hfi : fi < 4294967296) (hti : ti < 4294967296) (ht : ttl.toNat ≠ 0) (hl : ld.length ≤ 1000) :
    Calls Tryz.prog 12 #[.string (bs (ipBytes id ttl pr fi ti ld ++ moreB))] w (fun e w' => e = .returned (.tuple #[.agg #[.int .u16 (id : Int), .int .u8 (ttl.toNat : Int), .int .u8 (pr.toNat : Int), .int .u32 (fi : Int), .int .u32 (ti : Int), .string (bs ld)], .int .i64 0]) ∧ Fr noB w w') := by
  have h := bootReadIP (ipBytes id ttl pr fi ti ld ++ moreB) w (by rw [List.length_append, ipBytes_len]; show _ + 4 ≤ _; omega)
  unfold ipPost at h
  rw [readIP_written id ttl pr fi ti ld moreB hid hfi hti ht (by omega)] at h
  exact h
theorem rdCI (id fi ti : Nat) (ttl pr : UInt8) (ld : List UInt8) (w : World) :
    Calls Tryz.prog 13 #[.string (bs (sub (ipBytes id ttl pr fi ti ld) 0 20))] w (fun e w' => e = .returned (.int .u16 0) ∧ Fr noB w w') := by
  have hs : sub (ipBytes id ttl pr fi ti ld) 0 20 = ipHead id ttl pr fi ti ld.length (check (ipHead id ttl pr fi ti ld.length 0)) := take_head (ipHead_length _ _ _ _ _ _ _)
  have h := bootCheck_any (sub (ipBytes id ttl pr fi ti ld) 0 20) w (by rw [hs, ipHead_length]; omega)
  rw [show check (sub (ipBytes id ttl pr fi ti ld) 0 20) = 0 by rw [hs]; exact ipHead_zero id ttl pr fi ti ld.length] at h
  exact h
def udpB (fm tp fi ti : Nat) (ld : List UInt8) : List UInt8 := udpWith fm tp ld (udpSum fm tp fi ti ld)
theorem rdWU (fm tp fi ti : Nat) (ld : List UInt8) (w : World) (hfm : fm < 65536) (htp : tp < 65536) (hfi : fi < 4294967296) (hti : ti < 4294967296) (hl : ld.length ≤ 1000) :
    Calls Tryz.prog 14 #[.agg #[.int .u16 (fm : Int), .int .u16 (tp : Int), .string (bs ld)], .int .u32 (fi : Int), .int .u32 (ti : Int)] w (fun e w' => e = .returned (.tuple #[.string (bs (udpB fm tp fi ti ld)), .int .i64 0]) ∧ Fr noB w w') := by
  have h := bootWriteUDP fm tp fi ti ld w hfm htp hfi hti (by omega)
  have e : wrUDP fm tp fi ti ld = (udpB fm tp fi ti ld, 0) := by unfold wrUDP; rw [if_neg (by omega)]; rfl
  rw [e] at h
  exact h
theorem rdRU (fm tp fi ti : Nat) (ld : List UInt8) (w : World) (hfm : fm < 65536) (htp : tp < 65536) (hfi : fi < 4294967296) (hti : ti < 4294967296) (hl : ld.length ≤ 1000) :
    Calls Tryz.prog 15 #[.string (bs (udpB fm tp fi ti ld ++ moreB)), .int .u32 (fi : Int), .int .u32 (ti : Int)] w (fun e w' => e = .returned (.tuple #[.agg #[.int .u16 (fm : Int), .int .u16 (tp : Int), .string (bs ld)], .int .i64 0]) ∧ Fr noB w w') := by
  have h := bootReadUDP (udpB fm tp fi ti ld ++ moreB) fi ti w hfi hti (by unfold udpB; rw [List.length_append, udpWith_length]; show _ + 4 ≤ _; omega)
  unfold udpPost at h
  rw [show readUDP (udpB fm tp fi ti ld ++ moreB) fi ti = _ from readUDP_written fm tp fi ti ld moreB hfm htp (by omega)] at h
  exact h
theorem udpB_len (fm tp fi ti : Nat) (ld : List UInt8) : (udpB fm tp fi ti ld).length = 8 + ld.length := udpWith_length _ _ _ _
/-- a row of cells that can be read -/
def RowR (w : World) (g : Nat) (cs : Array Value) : Prop := g < w.heap.size ∧ ∀ (j : Nat) (u : Value), cs[j]? = some u → w.cell? ⟨g, j, none⟩ = some u
theorem RowR.keepN {w w' : World} {g : Nat} {cs : Array Value} (h : RowR w g cs) (hf : Fr noB w w') : RowR w' g cs :=
  ⟨Nat.lt_of_lt_of_le h.1 hf.size, fun j u hu => (hf.cell (a := ⟨g, j, none⟩) h.1 (fun x => x)).trans (h.2 j u hu)⟩
/-- the package's two cards -/
structure Cards (w : World) (m0 m1 m2 m3 m4 m5 n0 n1 n2 n3 n4 n5 : UInt8) : Prop where
  o : RowR w 0 #[.int .u8 (m0.toNat : Int), .int .u8 (m1.toNat : Int), .int .u8 (m2.toNat : Int), .int .u8 (m3.toNat : Int), .int .u8 (m4.toNat : Int), .int .u8 (m5.toNat : Int)]
  c : RowR w 1 #[.int .u8 (n0.toNat : Int), .int .u8 (n1.toNat : Int), .int .u8 (n2.toNat : Int), .int .u8 (n3.toNat : Int), .int .u8 (n4.toNat : Int), .int .u8 (n5.toNat : Int)]
theorem Cards.none {w w' : World} {m0 m1 m2 m3 m4 m5 n0 n1 n2 n3 n4 n5 : UInt8} (h : Cards w m0 m1 m2 m3 m4 m5 n0 n1 n2 n3 n4 n5) (hf : Fr noB w w') : Cards w' m0 m1 m2 m3 m4 m5 n0 n1 n2 n3 n4 n5 := ⟨h.o.keepN hf, h.c.keepN hf⟩
theorem Cards.drew {w : World} {m0 m1 m2 m3 m4 m5 n0 n1 n2 n3 n4 n5 : UInt8} (h : Cards w m0 m1 m2 m3 m4 m5 n0 n1 n2 n3 n4 n5) : Cards w.drew m0 m1 m2 m3 m4 m5 n0 n1 n2 n3 n4 n5 := h.none ((Fr.refl _ _).drew)
theorem wrap16 (a : Int) : ∃ x : Nat, x < 65536 ∧ IntKind.u16.wrap a = (x : Int) := ⟨(IntKind.u16.wrap a).toNat, by rw [IntKind.wrap_u16]; omega, by rw [IntKind.wrap_u16]; omega⟩
theorem wrap32 (a : Int) : ∃ x : Nat, x < 4294967296 ∧ IntKind.u32.wrap a = (x : Int) := ⟨(IntKind.u32.wrap a).toNat, by rw [IntKind.wrap_u32']; omega, by rw [IntKind.wrap_u32']; omega⟩
theorem wrap8 (a : Int) : ∃ x : UInt8, IntKind.u8.wrap a = (x.toNat : Int) := ⟨UInt8.ofNat (IntKind.u8.wrap a).toNat, by rw [UInt8.toNat_ofNat', IntKind.wrap_u8']; omega⟩
set_option maxRecDepth 20000 in
attribute [-go_sem] run_eql_struct run_neq_struct run_equalIn_agg in
set_option maxHeartbeats 4000000 in
theorem lawRounds (l : List UInt8) (a b kd : Int) (m0 m1 m2 m3 m4 m5 n0 n1 n2 n3 n4 n5 : UInt8) (w : World) (hl : l.length ≤ 9223372036854775807) (a0 : -9223372036854775808 ≤ a) (a1 : a ≤ 9223372036854775807) (b0 : -9223372036854775808 ≤ b) (b1 : b ≤ 9223372036854775807)
    (hV : Cards w m0 m1 m2 m3 m4 m5 n0 n1 n2 n3 n4 n5) (hmsg : ∀ w', l.length ≤ 1000 → Cards w' m0 m1 m2 m3 m4 m5 n0 n1 n2 n3 n4 n5 → Fr noB w w' → Calls Tryz.prog 16 #[.string (bs l), .int .i64 a, .int .i64 b, .int .i64 kd] w' (fun e w2 => e = .returned (.bool true) ∧ Fr noB w' w2)) :
    Calls Tryz.prog 3 #[.string (bs l), .int .i64 a, .int .i64 b, .int .i64 kd] w (fun e w' => e = .returned (.bool true) ∧ Fr noB w w') := by
  by_cases hb : 1000 < l.length
  · have hb' : (1000 : Int) < l.length := by omega
    go_enter Tryz.func3, Tryz.ntmps3
    go_wp2_with fail
    go_ret
    exact ⟨rfl, Fr.refl _ _⟩
  have hb' : ¬ (1000 : Int) < l.length := by omega
  have hl2 : l.length ≤ 1000 := by omega
  clear hb
  obtain ⟨k, Hk⟩ : ∃ k, Hid (k = pickI a 60000) := ⟨_, Lib.hid rfl⟩
  have hk6 : k < 60000 := by rw [Hk.out]; exact pickI_lt _ _ (by omega)
  obtain ⟨ty, hty⟩ : ∃ ty, 1536 + k = ty := ⟨_, rfl⟩
  have t0 : 1536 ≤ ty := by omega
  have t1 : ty < 65536 := by omega
  have e1 : IntKind.i64.wrap (1536 + (k : Int)) = (ty : Int) := by rw [IntWalk.i64_in _ (by omega)]; omega
  have e2 : IntKind.u16.wrap (ty : Int) = (ty : Int) := by rw [IntKind.wrap_u16]; omega
  have Hty := Lib.hid hty
  clear hty
  obtain ⟨k2, Hk2⟩ : ∃ k2, Hid (k2 = pickI b 255) := ⟨_, Lib.hid rfl⟩
  have hk2 : k2 < 255 := by rw [Hk2.out]; exact pickI_lt _ _ (by omega)
  obtain ⟨ttl, htt⟩ : ∃ ttl : UInt8, 1 + k2 = ttl.toNat := ⟨UInt8.ofNat (1 + k2), by rw [UInt8.toNat_ofNat']; omega⟩
  have e3 : IntKind.i64.wrap (1 + (k2 : Int)) = (ttl.toNat : Int) := by rw [IntWalk.i64_in _ (by omega)]; omega
  have e4 : IntKind.u8.wrap (ttl.toNat : Int) = (ttl.toNat : Int) := by have := ttl.toNat_lt; rw [IntKind.wrap_u8']; omega
  have ht : ttl.toNat ≠ 0 := by omega
  have Htt := Lib.hid htt
  clear htt
  obtain ⟨xa, xa1, e5⟩ := wrap16 a
  obtain ⟨xb, xb1, e6⟩ := wrap16 b
  obtain ⟨ia, ia1, e7⟩ := wrap32 a
  obtain ⟨ib, ib1, e8⟩ := wrap32 b
  obtain ⟨pr, e9⟩ := wrap8 b
  go_enter Tryz.func3, Tryz.ntmps3
  go_upto_region 3 with fail
  go_cut [9] from 21 to 28 (fun v9 wx => ∃ g, v9 = .pointer (some ⟨g, 0, none⟩) ∧ w.heap.size ≤ g ∧ Bk wx g 27 #[.int .u8 (m0.toNat : Int), .int .u8 (m1.toNat : Int), .int .u8 (m2.toNat : Int), .int .u8 (m3.toNat : Int), .int .u8 (m4.toNat : Int), .int .u8 (m5.toNat : Int), .int .u8 (n0.toNat : Int), .int .u8 (n1.toNat : Int), .int .u8 (n2.toNat : Int), .int .u8 (n3.toNat : Int), .int .u8 (n4.toNat : Int), .int .u8 (n5.toNat : Int), .int .u16 (ty : Int), .string (bs l)] ∧ Fr noB w wx)
  case first =>
    refine wp_region_pls (by kernel_rfl) (fun w' => Cards w' m0 m1 m2 m3 m4 m5 n0 n1 n2 n3 n4 n5 ∧ Fr noB w w') [9] (.p 2 (.p 6 (.q 0 (.q 1 (.e2 3 (.p 4 (.p 5 (.p 7 (.e 8 (.e 9 (.nil)))))) 8 (.e 3 (.p 4 (.p 5 (.p 7 (.e 9 (.nil))))))))))) (by kernel_rfl) (⟨hV.drew, (Fr.refl _ _).drew⟩) ?_
    intro ops Q' hO hQ' wr1 hR1
    iterate 2 (refine pl_p0 hO rfl rfl ?_ (fun w' => ?_) ?_; rotate_left 1; (focus (go_simp; ((try with_reducible rfl); done))); simp only [Act.put, List.setIfInBounds_toArray, List.set_cons_zero, List.set_cons_succ])
    iterate 2 (refine pl_q0 hO rfl rfl ?_ (fun w' hS => ?_) ?_; rotate_left 1; (focus (obtain ⟨hB, hF⟩ := hS; have o0 := hB.o.2 0 _ rfl; have x0 := hB.c.2 0 _ rfl; have o1 := hB.o.2 1 _ rfl; have x1 := hB.c.2 1 _ rfl; have o2 := hB.o.2 2 _ rfl; have x2 := hB.c.2 2 _ rfl; have o3 := hB.o.2 3 _ rfl; have x3 := hB.c.2 3 _ rfl; have o4 := hB.o.2 4 _ rfl; have x4 := hB.c.2 4 _ rfl; have o5 := hB.o.2 5 _ rfl; have x5 := hB.c.2 5 _ rfl; go_simp; ((try with_reducible rfl); done))); simp only [Act.put, List.setIfInBounds_toArray, List.set_cons_zero, List.set_cons_succ])
    refine pl_e2 ?_ ?_
    · skip
      refine pl_e0 hO rfl rfl rfl (fun K hK => ?_)
      go_simp
      refine (pickK a 60000 k _ Hk.out (by decide) (by decide) a0 a1).mono ?_
      rintro e w2 ⟨rfl, h2⟩
      replace h2 := h2.symm
      subst h2
      refine hK _ _ (hR1) (fun hR_3 => ?_)
      clear hK K
      iterate 3 (refine pl_p0 hO rfl rfl ?_ (fun w' => ?_) ?_; rotate_left 1; (focus (go_simp; ((try with_reducible rfl); done))); simp only [Act.put, List.setIfInBounds_toArray, List.set_cons_zero, List.set_cons_succ])
      refine pl_e0 hO rfl rfl rfl (fun K hK => ?_)
      go_simp
      refine hK _ _ (⟨hR_3.1.none ((Fr.refl _ _).alloc _), hR_3.2.none ((Fr.refl _ _).alloc _)⟩) (fun hR_8 => ?_)
      clear hK K
      refine pl_b0 hO rfl rfl rfl (fun K hK => ?_)
      refine wp_store_bk 27 (.tmp 9) (.tmp 28) rfl wr1.heap.size _ _ #[.int .u8 (m0.toNat : Int), .int .u8 (m1.toNat : Int), .int .u8 (m2.toNat : Int), .int .u8 (m3.toNat : Int), .int .u8 (m4.toNat : Int), .int .u8 (m5.toNat : Int), .int .u8 (n0.toNat : Int), .int .u8 (n1.toNat : Int), .int .u8 (n2.toNat : Int), .int .u8 (n3.toNat : Int), .int .u8 (n4.toNat : Int), .int .u8 (n5.toNat : Int), .int .u16 (ty : Int), .string (bs l)] rfl rfl (Bk.new wr1 27 #[.int .u8 0, .int .u8 0, .int .u8 0, .int .u8 0, .int .u8 0, .int .u8 0, .int .u8 0, .int .u8 0, .int .u8 0, .int .u8 0, .int .u8 0, .int .u8 0, .int .u16 0, .string ⟨#[]⟩]) rfl (by kernel_rfl) (by kernel_rfl) ?_
      intro w9 hx9 hf9
      refine hK _ _ ?_
      clear hK K
      refine pl_nil (hQ' _ _ ?_)
      go_wp2_with fail
      go_meet
      case rel => exact ⟨_, rfl, hR1.2.size, hx9, (hR1.2.alloc (.cells #[.int .u8 0, .int .u8 0, .int .u8 0, .int .u8 0, .int .u8 0, .int .u8 0, .int .u8 0, .int .u8 0, .int .u8 0, .int .u8 0, .int .u8 0, .int .u8 0, .int .u16 0, .string ⟨#[]⟩] 27)).trans' hf9 (fun b hb e => by have e' : b = wr1.heap.size := e; have := hR1.2.size; omega)⟩
    · skip
      refine pl_e0 hO rfl rfl rfl (fun K hK => ?_)
      go_simp
      refine hK _ _ (⟨hR1.1.none ((Fr.refl _ _).alloc _), hR1.2.none ((Fr.refl _ _).alloc _)⟩) (fun hR_8 => ?_)
      clear hK K
      refine pl_e0 hO rfl rfl rfl (fun K hK => ?_)
      go_simp
      refine (pickK a 60000 k _ Hk.out (by decide) (by decide) a0 a1).mono ?_
      rintro e w2 ⟨rfl, h2⟩
      replace h2 := h2.symm
      subst h2
      refine hK _ _ (hR_8) (fun hR_3 => ?_)
      clear hK K
      iterate 3 (refine pl_p0 hO rfl rfl ?_ (fun w' => ?_) ?_; rotate_left 1; (focus (go_simp; ((try with_reducible rfl); done))); simp only [Act.put, List.setIfInBounds_toArray, List.set_cons_zero, List.set_cons_succ])
      refine pl_b0 hO rfl rfl rfl (fun K hK => ?_)
      refine wp_store_bk 27 (.tmp 9) (.tmp 28) rfl wr1.heap.size _ _ #[.int .u8 (m0.toNat : Int), .int .u8 (m1.toNat : Int), .int .u8 (m2.toNat : Int), .int .u8 (m3.toNat : Int), .int .u8 (m4.toNat : Int), .int .u8 (m5.toNat : Int), .int .u8 (n0.toNat : Int), .int .u8 (n1.toNat : Int), .int .u8 (n2.toNat : Int), .int .u8 (n3.toNat : Int), .int .u8 (n4.toNat : Int), .int .u8 (n5.toNat : Int), .int .u16 (ty : Int), .string (bs l)] rfl rfl (Bk.new wr1 27 #[.int .u8 0, .int .u8 0, .int .u8 0, .int .u8 0, .int .u8 0, .int .u8 0, .int .u8 0, .int .u8 0, .int .u8 0, .int .u8 0, .int .u8 0, .int .u8 0, .int .u16 0, .string ⟨#[]⟩]) rfl (by kernel_rfl) (by kernel_rfl) ?_
      intro w9 hx9 hf9
      refine hK _ _ ?_
      clear hK K
      refine pl_nil (hQ' _ _ ?_)
      go_wp2_with fail
      go_meet
      case rel => exact ⟨_, rfl, hR1.2.size, hx9, (hR1.2.alloc (.cells #[.int .u8 0, .int .u8 0, .int .u8 0, .int .u8 0, .int .u8 0, .int .u8 0, .int .u8 0, .int .u8 0, .int .u8 0, .int .u8 0, .int .u8 0, .int .u8 0, .int .u16 0, .string ⟨#[]⟩] 27)).trans' hf9 (fun b hb e => by have e' : b = wr1.heap.size := e; have := hR1.2.size; omega)⟩
  case rest =>
  obtain ⟨g, rfl, hg, hB, hF⟩ := hcut
  have hBc := hB.cells
  go_wp2_with fail
  refine (rdWE ty l m0 m1 m2 m3 m4 m5 n0 n1 n2 n3 n4 n5 _ t0 t1 hl2).mono ?_
  rintro e w2 ⟨rfl, f2⟩
  have hRE := fun w => rdRE ty l m0 m1 m2 m3 m4 m5 n0 n1 n2 n3 n4 n5 w t0 t1 hl2
  have q1 := ethBytes_long (m0, m1, m2, m3, m4, m5) (n0, n1, n2, n3, n4, n5) ty l
  have q2 := ethBytes_short (m0, m1, m2, m3, m4, m5) (n0, n1, n2, n3, n4, n5) ty l hl2
  generalize ethBytes (m0, m1, m2, m3, m4, m5) (n0, n1, n2, n3, n4, n5) ty l = eb at *
  have q3 := ethFill_sub l
  have q4 := ethFill_len l
  generalize ethFill l = fl at *
  have HRE := Lib.hid hRE
  have hB2 := hB.keep f2 (fun x => x)
  have hF2 := hF.none f2
  clear hRE hBc hB hF f2
  go_wp2_with fail
  refine (HRE.out _).mono ?_
  rintro e w3 ⟨rfl, f3⟩
  have hB3 := hB2.keep f3 (fun x => x)
  have hF3 := hF2.none f3
  clear HRE hB2 hF2 f3
  go_upto_region 6 with ((refine wpList_store_bk rfl 27 (.tmp 12) (.tmp 37) rfl _ _ _ #[.int .u8 (m0.toNat : Int), .int .u8 (m1.toNat : Int), .int .u8 (m2.toNat : Int), .int .u8 (m3.toNat : Int), .int .u8 (m4.toNat : Int), .int .u8 (m5.toNat : Int), .int .u8 (n0.toNat : Int), .int .u8 (n1.toNat : Int), .int .u8 (n2.toNat : Int), .int .u8 (n3.toNat : Int), .int .u8 (n4.toNat : Int), .int .u8 (n5.toNat : Int), .int .u16 (ty : Int), .string (bs fl)] rfl rfl (Bk.new _ 27 #[.int .u8 0, .int .u8 0, .int .u8 0, .int .u8 0, .int .u8 0, .int .u8 0, .int .u8 0, .int .u8 0, .int .u8 0, .int .u8 0, .int .u8 0, .int .u8 0, .int .u16 0, .string ⟨#[]⟩]) rfl (by kernel_rfl) (by kernel_rfl) ?_); intro w9 hx9 hf9)
  have f9 : Fr noB w3 w9 := ((Fr.refl noB w3).alloc (.cells #[.int .u8 0, .int .u8 0, .int .u8 0, .int .u8 0, .int .u8 0, .int .u8 0, .int .u8 0, .int .u8 0, .int .u8 0, .int .u8 0, .int .u8 0, .int .u8 0, .int .u16 0, .string ⟨#[]⟩] 27)).trans' hf9 (fun b hb e => by have e' : b = w3.heap.size := e; omega)
  have hxc9 := hx9.cells
  have hBc := (hB3.keep f9 (fun x => x)).cells
  have hE1 : ∀ w, (binOp .neq 23 (.agg #[.int .u8 (m0.toNat : Int), .int .u8 (m1.toNat : Int), .int .u8 (m2.toNat : Int), .int .u8 (m3.toNat : Int), .int .u8 (m4.toNat : Int), .int .u8 (m5.toNat : Int)]) (.agg #[.int .u8 (m0.toNat : Int), .int .u8 (m1.toNat : Int), .int .u8 (m2.toNat : Int), .int .u8 (m3.toNat : Int), .int .u8 (m4.toNat : Int), .int .u8 (m5.toNat : Int)])).run Tryz.prog w = .ok (.bool false) w := fun w => neqSelf w (by kernel_rfl)
  have hE2 : ∀ w, (binOp .neq 23 (.agg #[.int .u8 (n0.toNat : Int), .int .u8 (n1.toNat : Int), .int .u8 (n2.toNat : Int), .int .u8 (n3.toNat : Int), .int .u8 (n4.toNat : Int), .int .u8 (n5.toNat : Int)]) (.agg #[.int .u8 (n0.toNat : Int), .int .u8 (n1.toNat : Int), .int .u8 (n2.toNat : Int), .int .u8 (n3.toNat : Int), .int .u8 (n4.toNat : Int), .int .u8 (n5.toNat : Int)])).run Tryz.prog w = .ok (.bool false) w := fun w => neqSelf w (by kernel_rfl)
  go_upto_region 8 with fail
  have hF9 := hF3.none f9
  clear hE1 hE2 hBc hxc9 hx9 hf9 f9 hB3 hF3 q1 q2 q3 q4
  go_wp2_with fail
  refine (pickK b 255 k2 _ Hk2.out (by decide) (by decide) b0 b1).mono ?_
  rintro e w10 ⟨rfl, h2⟩
  replace h2 := h2.symm
  subst h2
  go_upto_region 9 with ((refine wpList_store_bk rfl 36 (.tmp 14) (.tmp 101) rfl _ _ _ #[.int .u16 (xa : Int), .int .u8 (ttl.toNat : Int), .int .u8 (pr.toNat : Int), .int .u32 (ia : Int), .int .u32 (ib : Int), .string (bs l)] rfl rfl (Bk.new _ 36 #[.int .u16 0, .int .u8 0, .int .u8 0, .int .u32 0, .int .u32 0, .string ⟨#[]⟩]) rfl (by kernel_rfl) (by kernel_rfl) ?_); intro w11 hx11 hf11)
  have f11 : Fr noB w9 w11 := ((Fr.refl noB w9).alloc (.cells #[.int .u16 0, .int .u8 0, .int .u8 0, .int .u32 0, .int .u32 0, .string ⟨#[]⟩] 36)).trans' hf11 (fun b hb e => by have e' : b = w9.heap.size := e; omega)
  have hxc11 := hx11.cells
  have hF11 := hF9.none f11
  clear hf11 f11
  go_wp2_with fail
  refine (rdWI xa ia ib ttl pr l _ xa1 ia1 ib1 ht hl2).mono ?_
  rintro e w12 ⟨rfl, f12⟩
  have hRI := fun w => rdRI xa ia ib ttl pr l w xa1 ia1 ib1 ht hl2
  have hCI := fun w => rdCI xa ia ib ttl pr l w
  have q1 := ipBytes_len xa ttl pr ia ib l
  generalize ipBytes xa ttl pr ia ib l = pb at *
  have HRI := Lib.hid hRI
  have HCI := Lib.hid hCI
  have hx12 := hx11.keep f12 (fun x => x)
  have hF12 := hF11.none f12
  clear hRI hCI hxc11 hx11 hF11 f12
  have qm : moreB.length = 4 := rfl
  go_wp2_with fail
  refine (HRI.out _).mono ?_
  rintro e w13 ⟨rfl, f13⟩
  have hx13 := hx12.keep f13 (fun x => x)
  have hF13 := hF12.none f13
  clear HRI hx12 hF12 f13
  go_upto_region 11 with ((refine wpList_store_bk rfl 36 (.tmp 15) (.tmp 111) rfl _ _ _ #[.int .u16 (xa : Int), .int .u8 (ttl.toNat : Int), .int .u8 (pr.toNat : Int), .int .u32 (ia : Int), .int .u32 (ib : Int), .string (bs l)] rfl rfl (Bk.new _ 36 #[.int .u16 0, .int .u8 0, .int .u8 0, .int .u32 0, .int .u32 0, .string ⟨#[]⟩]) rfl (by kernel_rfl) (by kernel_rfl) ?_); intro w14 hx14 hf14)
  have f14 : Fr noB w13 w14 := ((Fr.refl noB w13).alloc (.cells #[.int .u16 0, .int .u8 0, .int .u8 0, .int .u32 0, .int .u32 0, .string ⟨#[]⟩] 36)).trans' hf14 (fun b hb e => by have e' : b = w13.heap.size := e; omega)
  have hxc14 := hx14.cells
  have hx15 := hx13.keep f14 (fun x => x)
  have hxc15 := hx15.cells
  have hF14 := hF13.none f14
  clear hf14 f14 hx13 hF13
  have hE : ∀ w, (binOp .neq 36 (.agg #[.int .u16 (xa : Int), .int .u8 (ttl.toNat : Int), .int .u8 (pr.toNat : Int), .int .u32 (ia : Int), .int .u32 (ib : Int), .string (bs l)]) (.agg #[.int .u16 (xa : Int), .int .u8 (ttl.toNat : Int), .int .u8 (pr.toNat : Int), .int .u32 (ia : Int), .int .u32 (ib : Int), .string (bs l)])).run Tryz.prog w = .ok (.bool false) w := fun w => neqSelf w (by kernel_rfl)
  go_wp2_with fail
  refine (HCI.out _).mono ?_
  rintro e w16 ⟨rfl, f16⟩
  have hx16 := hx15.keep f16 (fun x => x)
  have hF16 := hF14.none f16
  have hxc16 := hx16.cells
  clear HCI hx14 hxc14 hxc15 hx15 hF14 f16 hE
  go_upto_region 14 with ((refine wpList_store_bk rfl 42 (.tmp 16) (.tmp 140) rfl _ _ _ #[.int .u16 (xa : Int), .int .u16 (xb : Int), .string (bs l)] rfl rfl (Bk.new _ 42 #[.int .u16 0, .int .u16 0, .string ⟨#[]⟩]) rfl (by kernel_rfl) (by kernel_rfl) ?_); intro w17 hx17 hf17)
  have f17 : Fr noB w16 w17 := ((Fr.refl noB w16).alloc (.cells #[.int .u16 0, .int .u16 0, .string ⟨#[]⟩] 42)).trans' hf17 (fun b hb e => by have e' : b = w16.heap.size := e; omega)
  have hxc17 := hx17.cells
  have hxc18 := (hx16.keep f17 (fun x => x)).cells
  have hF17 := hF16.none f17
  go_wp2_with fail
  refine (rdWU xa xb ia ib l _ xa1 xb1 ia1 ib1 hl2).mono ?_
  rintro e w19 ⟨rfl, f19⟩
  have hRU := fun w => rdRU xa xb ia ib l w xa1 xb1 ia1 ib1 hl2
  have q2 := udpB_len xa xb ia ib l
  generalize udpB xa xb ia ib l = ub at *
  have HRU := Lib.hid hRU
  have hx19 := hx17.keep f19 (fun x => x)
  have hx20 := (hx16.keep f17 (fun x => x)).keep f19 (fun x => x)
  have hxc20 := hx20.cells
  have hF19 := hF17.none f19
  clear hRU hxc18 hx16 hx17 hF16 hF17 f17 f19 hxc17 hf17 hxc16
  go_wp2_with fail
  refine (HRU.out _).mono ?_
  rintro e w21 ⟨rfl, f21⟩
  have hx21 := hx19.keep f21 (fun x => x)
  have hF21 := hF19.none f21
  clear HRU hxc20 hx19 hx20 hF19 f21
  go_upto_region 16 with ((refine wpList_store_bk rfl 42 (.tmp 17) (.tmp 158) rfl _ _ _ #[.int .u16 (xa : Int), .int .u16 (xb : Int), .string (bs l)] rfl rfl (Bk.new _ 42 #[.int .u16 0, .int .u16 0, .string ⟨#[]⟩]) rfl (by kernel_rfl) (by kernel_rfl) ?_); intro w22 hx22 hf22)
  have f22 : Fr noB w21 w22 := ((Fr.refl noB w21).alloc (.cells #[.int .u16 0, .int .u16 0, .string ⟨#[]⟩] 42)).trans' hf22 (fun b hb e => by have e' : b = w21.heap.size := e; omega)
  have hxc22 := hx22.cells
  have hxc23 := (hx21.keep f22 (fun x => x)).cells
  have hF22 := hF21.none f22
  have hE : ∀ w, (binOp .neq 42 (.agg #[.int .u16 (xa : Int), .int .u16 (xb : Int), .string (bs l)]) (.agg #[.int .u16 (xa : Int), .int .u16 (xb : Int), .string (bs l)])).run Tryz.prog w = .ok (.bool false) w := fun w => neqSelf w (by kernel_rfl)
  go_wp2_with fail
  refine (hmsg _ hl2 (hV.none hF22) hF22).mono ?_
  rintro e w24 ⟨rfl, f24⟩
  go_wp2_with fail
  go_ret
  exact ⟨rfl, hF22.none f24⟩
end Go.Proofs.YtcbkaiakdhiloabGreatDoor
