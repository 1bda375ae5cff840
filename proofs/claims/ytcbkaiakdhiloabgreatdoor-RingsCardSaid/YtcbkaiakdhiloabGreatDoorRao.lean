/- Parts of the walk; written by programs, merged. -/
import Derived.Test.YtcbkaiakdhiloabGreatDoorRan
set_option linter.unusedSimpArgs false
set_option linter.unusedVariables false
set_option maxRecDepth 20000
set_option maxHeartbeats 8000000
namespace Go.Proofs.YtcbkaiakdhiloabGreatDoor
open Go.RowKit Go.Proofs
attribute [local go_sem] bs_size bs_append bs_sub bs_toList
theorem udpC_size (x : UdpD) : (udpC x).size = zcUdp.size := rfl
theorem udpC_one (x : UdpD) : (udpC x).all (·.oneCell') = true := by kernel_rfl
theorem udp_info (x : UdpD) : (Tryz.prog.info? 42).map (·.size) = some (udpC x).size := by rw [udpC_size]; kernel_rfl
theorem packetReadUDP (l : List UInt8) (fi ti : Nat) (w : World) (hfi : fi < 4294967296) (hti : ti < 4294967296) (hl : l.length ≤ 9223372036854775807) :
    Calls Tryz.prog 30 #[.string (bs l), .int .u32 (fi : Int), .int .u32 (ti : Int)] w (udpPost l fi ti w) := by
  go_enter Tryz.func30, Tryz.ntmps30
  have hmf : ∀ (fn : Fn) (first cap : Array Value) (w : World), (Instr.makeFunc fn first cap).run Tryz.prog w = .ok (.func fn first cap) w := fun _ _ _ _ => rfl
  go_wp2_with fail
  have hs0 := (((Bk.new w 9 #[.string (bs l)]).alloc (.cells #[.int .u32 (fi : Int)] 34)).alloc (.cells #[.int .u32 (ti : Int)] 34)).alloc (.cells zcUdp 42)
  have hi0 := ((Bk.new (w.alloc (.cells #[.string (bs l)] 9)) 34 #[.int .u32 (fi : Int)]).alloc (.cells #[.int .u32 (ti : Int)] 34)).alloc (.cells zcUdp 42)
  have ht0 := (Bk.new ((w.alloc (.cells #[.string (bs l)] 9)).alloc (.cells #[.int .u32 (fi : Int)] 34)) 34 #[.int .u32 (ti : Int)]).alloc (.cells zcUdp 42)
  have hx0 := Bk.new (((w.alloc (.cells #[.string (bs l)] 9)).alloc (.cells #[.int .u32 (fi : Int)] 34)).alloc (.cells #[.int .u32 (ti : Int)] 34)) 42 zcUdp
  simp only [World.size_alloc] at hs0 hi0 ht0 hx0
  have hf0 : Fr noB w ((((w.alloc (.cells #[.string (bs l)] 9)).alloc (.cells #[.int .u32 (fi : Int)] 34)).alloc (.cells #[.int .u32 (ti : Int)] 34)).alloc (.cells zcUdp 42)) := ((((Fr.refl _ _).alloc _).alloc _).alloc _).alloc _
  unfold zcUdp at hs0 hi0 ht0 hx0 hf0
  generalize (((w.alloc (.cells #[.string (bs l)] 9)).alloc (.cells #[.int .u32 (fi : Int)] 34)).alloc (.cells #[.int .u32 (ti : Int)] 34)).alloc (.cells #[.int .u16 0, .int .u16 0, .string ⟨#[]⟩] 42) = w1 at *
  refine (udpRead l fi ti w.heap.size (w.heap.size + 1) (w.heap.size + 1 + 1) _ hfi hti hs0 hi0 ht0 hl).mono ?_
  rintro e w2 ⟨rfl, hf1⟩
  have hx1 := hx0.keep hf1 (fun x => x)
  have hsz := Lib.hid (udpC_size (readUDP l fi ti).1)
  have hin := Lib.hid (udp_info (readUDP l fi ti).1)
  have hon := Lib.hid (udpC_one (readUDP l fi ti).1)
  generalize hr : readUDP l fi ti = r at *
  have Hr := Lib.hid hr
  clear hr
  generalize hc : udpC r.1 = c at *
  have Hc := Lib.hid hc
  clear hc
  go_wp2_with ((refine wpList_store_bk rfl 42 (.tmp 6) (.tmp 11) rfl (w.heap.size + 1 + 1 + 1) _ _ c rfl rfl hx1 hsz.out hin.out hon.out ?_); intro w9 hx9 hf9)
  refine bodyPost_ret (results_row_tmp Tryz.results30 _ w9 (w.heap.size + 1 + 1 + 1) _ c _ _ rfl rfl hx9 Tryz.underlying42 rfl hin.out) rfl ?_
  exact ⟨by rw [Hr.out, Hc.out]; rfl, (hf0.none hf1).trans' hf9 (fun b hb e => by unfold oneB at e; omega)⟩
end Go.Proofs.YtcbkaiakdhiloabGreatDoor
namespace Go.Proofs.YtcbkaiakdhiloabGreatDoor
open Go.RowKit Go.Proofs
attribute [local go_sem] bs_size bs_append bs_extract bs_toList
theorem sub_len (l : List UInt8) (i j : Nat) : (sub l i j).length ≤ l.length := by unfold sub; rw [List.length_drop, List.length_take]; omega
theorem readIP_in (l : List UInt8) : (readIP l).1.fm < 4294967296 ∧ (readIP l).1.«to» < 4294967296 ∧ (readIP l).1.pr < 256 ∧ (readIP l).1.by'.length ≤ l.length := by
  unfold readIP
  have h2 := num_subn l 12 16 4 rfl
  have h3 := num_subn l 16 20 4 rfl
  have h4 := num_subn l 9 10 1 rfl
  have h5 := sub_len l 20 (num (sub l 2 4))
  repeat' split
  all_goals (refine ⟨?_, ?_, ?_, ?_⟩ <;> simp [ip0] <;> omega)
theorem readUDP_in (l : List UInt8) (fi ti : Nat) : (readUDP l fi ti).1.fm < 65536 ∧ (readUDP l fi ti).1.tp < 65536 ∧ (readUDP l fi ti).1.ld.length ≤ l.length := by
  unfold readUDP
  have h2 := num_subn l 0 2 2 rfl
  have h3 := num_subn l 2 4 2 rfl
  have h5 := sub_len l 8 (num (sub l 4 6))
  repeat' split
  all_goals (refine ⟨?_, ?_, ?_⟩ <;> simp [udp0] <;> omega)
def dgF (u : Nat → Value) : Act := ⟨#[u 0, u 1, u 2, u 3, u 4, u 5, u 6, u 7, u 8, u 9, u 10, u 11, u 12, u 13, u 14, u 15, u 16, u 17, u 18, u 19, u 20, u 21, u 22, u 23, u 24, u 25, u 26, u 27, u 28, u 29, u 30, u 31, u 32, u 33, u 34, u 35, u 36, u 37, u 38, u 39, u 40, u 41, u 42, u 43, u 44, u 45, u 46, u 47, u 48, u 49, u 50, u 51, u 52, u 53, u 54, u 55, u 56, u 57, u 58, u 59, u 60, u 61, u 62, u 63, u 64, u 65, u 66, u 67, u 68, u 69, u 70, u 71, u 72, u 73, u 74, u 75, u 76, u 77, u 78, u 79, u 80, u 81, u 82, u 83, u 84, u 85, u 86, u 87, u 88, u 89], []⟩
set_option maxRecDepth 100000 in
theorem dgF_eq (u : Nat → Value) : dgF u = frN 90 u := rfl
theorem dgF_of {a : Act} (h : Sz 90 a) : a = dgF (sl a) := h.eq.trans (dgF_eq _).symm
theorem dgR0 (ld : List UInt8) (a : Act) (w : World) (K : Exit → Act → World → Prop) (hs : Sz 90 a)
    (h1 : sl a 1 = .string (bs ld)) (hld : ld.length ≤ 9223372036854775807)
    (hK : ∀ a' w' g, Sz 90 a' → Kp [0, 6] a a' → sl a' 4 = .pointer (some ⟨g, 0, none⟩) → sl a' 5 = .int .i64 ((readIP ld).2 : Int) → Fr noB w w' → Bk w' g 36 (ipC (readIP ld).1) → w.heap.size ≤ g → K .normal a' w') :
    (regionOf Tryz.f179 0).wp Tryz.prog K a w := by
  unfold Kp at hK; rw [dgF_of hs]; clear hs; generalize sl a = u at *; clear a; have HK := Lib.hid hK; clear hK; conv => arg 2; whnf
  simp only [dgF, h1]
  go_wp2_with fail
  refine (packetReadIP ld _ hld).mono ?_
  rintro e w2 ⟨rfl, hf1⟩
  have hsz := Lib.hid (ipC_size (readIP ld).1)
  have hin := Lib.hid (ip_info (readIP ld).1)
  have hon := Lib.hid (ipC_one (readIP ld).1)
  generalize hr : readIP ld = r at *
  clear hr
  generalize hc : ipC r.1 = c at *
  clear hc
  have hx0 := Bk.new w2 36 zcIp4
  go_wp2_with ((refine wpList_store_bk rfl 36 (.tmp 4) (.tmp 10) rfl w2.heap.size _ zcIp4 c rfl rfl hx0 hsz.out hin.out hon.out ?_); intro w9 hx9 hf9)
  exact HK.out _ _ _ ⟨rfl, rfl⟩ (Kc rfl (Kc rfl (Kn _ _))) (rfl) (rfl) ((hf1.alloc _).trans' hf9 (fun b hb e => by have e' : b = w2.heap.size := e; have := hf1.size; omega)) hx9 hf1.size
theorem dgR1a (k : Nat) (x : IpD) (g : Nat) (a : Act) (w : World) (K : Exit → Act → World → Prop) (hs : Sz 90 a)
    (h4 : sl a 4 = .pointer (some ⟨g, 0, none⟩)) (h5 : sl a 5 = .int .i64 (k : Int)) (hG : Bk w g 36 (ipC x)) (q : ((k : Int) != 0) = true)
    (hK : ∀ a' w', Sz 90 a' → Kp [0, 4, 5, 6] a a' → sl a' 18 = .bool true → w' = w → K .normal a' w') :
    (regionOf Tryz.f179 1).wp Tryz.prog K a w := by
  unfold Kp at hK; rw [dgF_of hs]; clear hs; generalize sl a = u at *; clear a; have HK := Lib.hid hK; clear hK; conv => arg 2; whnf
  simp only [dgF, h4, h5]
  have hGc := hG.cells
  unfold ipC at hGc
  go_wp2_with fail
  exact HK.out _ _  ⟨rfl, rfl⟩ (Kc rfl (Kc h4.symm (Kc h5.symm (Kc rfl (Kn _ _))))) (rfl) rfl
theorem dgR1b (k : Nat) (x : IpD) (g : Nat) (b : Bool) (a : Act) (w : World) (K : Exit → Act → World → Prop) (hs : Sz 90 a)
    (h4 : sl a 4 = .pointer (some ⟨g, 0, none⟩)) (h5 : sl a 5 = .int .i64 (k : Int)) (hG : Bk w g 36 (ipC x)) (q : ((k : Int) != 0) = false) (hb : ((x.pr : Int) != 17) = b)
    (hK : ∀ a' w', Sz 90 a' → Kp [0, 4, 5, 6] a a' → sl a' 18 = .bool b → w' = w → K .normal a' w') :
    (regionOf Tryz.f179 1).wp Tryz.prog K a w := by
  unfold Kp at hK; rw [dgF_of hs]; clear hs; generalize sl a = u at *; clear a; have HK := Lib.hid hK; clear hK; conv => arg 2; whnf
  simp only [dgF, h4, h5]
  have hGc := hG.cells
  unfold ipC at hGc
  go_wp2_with fail
  exact HK.out _ _  ⟨rfl, rfl⟩ (Kc rfl (Kc h4.symm (Kc h5.symm (Kc rfl (Kn _ _))))) (rfl) rfl
theorem dgR1 (k : Nat) (x : IpD) (g : Nat) (a : Act) (w : World) (K : Exit → Act → World → Prop) (hs : Sz 90 a) (h4 : sl a 4 = .pointer (some ⟨g, 0, none⟩)) (h5 : sl a 5 = .int .i64 (k : Int)) (hG : Bk w g 36 (ipC x))
    (hK : ∀ a' w', Sz 90 a' → Kp [0, 4] a a' → sl a' 18 = .bool (decide (k ≠ 0 ∨ x.pr ≠ 17)) → w' = w → K .normal a' w') : (regionOf Tryz.f179 1).wp Tryz.prog K a w := by
  by_cases hk : k = 0
  · refine dgR1b k x g (decide (x.pr ≠ 17)) a w K hs h4 h5 hG (by rw [hk]; rfl) (by rw [Bool.eq_iff_iff]; simp; omega) fun a' w' hs' k' o => hK a' w' hs' (fun i hi => k' i (by revert hi; revert i; decide)) (o.trans (by simp [hk]))
  · exact dgR1a k x g a w K hs h4 h5 hG (by simp; omega) fun a' w' hs' k' o => hK a' w' hs' (fun i hi => k' i (by revert hi; revert i; decide)) (o.trans (by simp [hk]))
theorem dgR2 (x : IpD) (g : Nat) (a : Act) (w : World) (K : Exit → Act → World → Prop) (hs : Sz 90 a)
    (h4 : sl a 4 = .pointer (some ⟨g, 0, none⟩)) (hG : Bk w g 36 (ipC x)) (hfi : x.fm < 4294967296) (hti : x.«to» < 4294967296) (hl : x.by'.length ≤ 9223372036854775807)
    (hK : ∀ a' w' q, Sz 90 a' → Kp [0, 4] a a' → sl a' 6 = .pointer (some ⟨q, 0, none⟩) → sl a' 5 = .int .i64 ((readUDP x.by' x.fm x.«to»).2 : Int) → Fr noB w w' → Bk w' q 42 (udpC (readUDP x.by' x.fm x.«to»).1) → w.heap.size ≤ q → K .normal a' w') :
    (regionOf Tryz.f179 2).wp Tryz.prog K a w := by
  unfold Kp at hK; rw [dgF_of hs]; clear hs; generalize sl a = u at *; clear a; have HK := Lib.hid hK; clear hK; conv => arg 2; whnf
  simp only [dgF, h4]
  have hGc := hG.cells
  unfold ipC at hGc
  go_wp2_with fail
  refine (packetReadUDP x.by' x.fm x.«to» _ hfi hti hl).mono ?_
  rintro e w2 ⟨rfl, hf1⟩
  have hsz := Lib.hid (udpC_size (readUDP x.by' x.fm x.«to»).1)
  have hin := Lib.hid (udp_info (readUDP x.by' x.fm x.«to»).1)
  have hon := Lib.hid (udpC_one (readUDP x.by' x.fm x.«to»).1)
  generalize hr : readUDP x.by' x.fm x.«to» = r at *
  clear hr
  generalize hc : udpC r.1 = c at *
  clear hc
  have hx0 := Bk.new w2 42 zcUdp
  go_wp2_with ((refine wpList_store_bk rfl 42 (.tmp 6) (.tmp 27) rfl w2.heap.size _ zcUdp c rfl rfl hx0 hsz.out hin.out hon.out ?_); intro w9 hx9 hf9)
  exact HK.out _ _ _ ⟨rfl, rfl⟩ (Kc rfl (Kc h4.symm (Kn _ _))) (rfl) (rfl) ((hf1.alloc _).trans' hf9 (fun b hb e => by have e' : b = w2.heap.size := e; have := hf1.size; omega)) hx9 hf1.size
theorem dgR3 (k : Nat) (b : Bool) (a : Act) (w : World) (K : Exit → Act → World → Prop) (hs : Sz 90 a)
    (h5 : sl a 5 = .int .i64 (k : Int)) (hb : ((k : Int) != 0) = b)
    (hK : ∀ a' w', Sz 90 a' → Kp [0, 4, 5, 6] a a' → sl a' 29 = .bool b → w' = w → K .normal a' w') :
    (regionOf Tryz.f179 3).wp Tryz.prog K a w := by
  unfold Kp at hK; rw [dgF_of hs]; clear hs; generalize sl a = u at *; clear a; have HK := Lib.hid hK; clear hK; conv => arg 2; whnf
  simp only [dgF, h5]
  go_wp2_with fail
  exact HK.out _ _  ⟨rfl, rfl⟩ (Kc rfl (Kc rfl (Kc h5.symm (Kc rfl (Kn _ _))))) (rfl) rfl
theorem dgR4 (y : UdpD) (q : Nat) (b : Bool) (a : Act) (w : World) (K : Exit → Act → World → Prop) (hs : Sz 90 a)
    (h6 : sl a 6 = .pointer (some ⟨q, 0, none⟩)) (hU : Bk w q 42 (udpC y)) (hb : ((y.tp : Int) == 68) = b)
    (hK : ∀ a' w', Sz 90 a' → Kp [0, 4, 5, 6] a a' → sl a' 32 = .bool b → w' = w → K .normal a' w') :
    (regionOf Tryz.f179 4).wp Tryz.prog K a w := by
  unfold Kp at hK; rw [dgF_of hs]; clear hs; generalize sl a = u at *; clear a; have HK := Lib.hid hK; clear hK; conv => arg 2; whnf
  simp only [dgF, h6]
  have hUc := hU.cells
  unfold udpC at hUc
  go_wp2_with fail
  exact HK.out _ _  ⟨rfl, rfl⟩ (Kc rfl (Kc rfl (Kc rfl (Kc h6.symm (Kn _ _))))) (rfl) rfl
theorem dgR6a (L : Lay) (s : St) (x : IpD) (g : Nat) (y : UdpD) (q : Nat) (a : Act) (w : World) (K : Exit → Act → World → Prop) (hs : Sz 90 a)
    (h0 : sl a 0 = .pointer (some ⟨L.p, 0, none⟩)) (h4 : sl a 4 = .pointer (some ⟨g, 0, none⟩)) (h6 : sl a 6 = .pointer (some ⟨q, 0, none⟩)) (h : BootAt w L s) (hG : Bk w g 36 (ipC x)) (hU : Bk w q 42 (udpC y)) (qa : ((s.address : Int) != 0) = false) 
    (hK : ∀ a' w', Sz 90 a' → Kp [0, 4, 5, 6] a a' → sl a' 40 = .bool false → BootAt w' L s → Bk w' q 42 (udpC y) → Fr noB w w' → K .normal a' w') :
    (regionOf Tryz.f179 6).wp Tryz.prog K a w := by
  unfold Kp at hK; rw [dgF_of hs]; clear hs; generalize sl a = u at *; clear a; have HK := Lib.hid hK; clear hK; conv => arg 2; whnf
  simp only [dgF, h0, h4, h6]
  refine wp_region_pls (by kernel_rfl) (fun w' => BootAt w' L s ∧ Bk w' g 36 (ipC x) ∧ Bk w' q 42 (udpC y) ∧ Fr noB w w') [] (.p 0 (.e 1 (.p 2 (.p 3 (.p 4 (.p 6 (.q 5 (.e 7 (.p 8 (.p 9 (.p 10 (.p 11 (.p 13 (.p 14 (.p 15 (.p 16 (.q 12 (.q 17 (.p 18 (.p 19 (.p 20 (.p 21 (.p 22 (.p 23 (.p 24 (.q 25 (.p 26 (.p 27 (.p 28 (.p 29 (.p 30 (.p 31 (.q 32 (.p 33 (.p 34 (.p 35 (.p 36 (.p 37 (.p 39 (.p 40 (.p 41 (.p 42 (.q 38 (.q 43 (.p 44 (.p 45 (.p 46 .nil))))))))))))))))))))))))))))))))))))))))))))))) (by kernel_rfl) (⟨h.drew, hG.drew, hU.drew, (Fr.refl _ _).drew⟩) ?_
  intro ops Q' hO hQ' wr1 hR1
  refine pl_p0 hO rfl rfl ?_ (fun w' => ?_) ?_; rotate_left 1; (focus (go_simp; ((try with_reducible rfl); done))); simp only [Act.put, List.setIfInBounds_toArray, List.set_cons_zero, List.set_cons_succ]
  refine pl_e0 hO rfl rfl rfl (fun K hK => ?_)
  go_simp
  refine (bootAddress L s _ hR1.1).mono ?_
  rintro e w2 ⟨rfl, rfl⟩
  refine hK _ _ (hR1) (fun hR_1 => ?_)
  clear hK K
  iterate 2 (refine pl_p0 hO rfl rfl ?_ (fun w' => ?_) ?_; rotate_left 1; (focus (go_simp; ((try with_reducible rfl); done))); simp only [Act.put, List.setIfInBounds_toArray, List.set_cons_zero, List.set_cons_succ])
  iterate 2 (refine pl_pn hO rfl rfl rfl rfl ?_; simp only [Act.put, List.setIfInBounds_toArray, List.set_cons_zero, List.set_cons_succ])
  refine pl_qn hO rfl rfl rfl rfl ?_; simp only [Act.put, List.setIfInBounds_toArray, List.set_cons_zero, List.set_cons_succ]
  refine pl_en hO rfl rfl rfl rfl rfl (fun _ => hR_1) ?_
  simp only [Act.put, List.setIfInBounds_toArray, List.set_cons_zero, List.set_cons_succ]
  refine pl_pn hO rfl rfl rfl rfl ?_; simp only [Act.put, List.setIfInBounds_toArray, List.set_cons_zero, List.set_cons_succ]
  iterate 2 (refine pl_p0 hO rfl rfl ?_ (fun w' => ?_) ?_; rotate_left 1; (focus (go_simp; ((try with_reducible rfl); done))); simp only [Act.put, List.setIfInBounds_toArray, List.set_cons_zero, List.set_cons_succ])
  iterate 5 (refine pl_pn hO rfl rfl rfl rfl ?_; simp only [Act.put, List.setIfInBounds_toArray, List.set_cons_zero, List.set_cons_succ])
  iterate 2 (refine pl_qn hO rfl rfl rfl rfl ?_; simp only [Act.put, List.setIfInBounds_toArray, List.set_cons_zero, List.set_cons_succ])
  refine pl_pn hO rfl rfl rfl rfl ?_; simp only [Act.put, List.setIfInBounds_toArray, List.set_cons_zero, List.set_cons_succ]
  iterate 2 (refine pl_p0 hO rfl rfl ?_ (fun w' => ?_) ?_; rotate_left 1; (focus (go_simp; ((try with_reducible rfl); done))); simp only [Act.put, List.setIfInBounds_toArray, List.set_cons_zero, List.set_cons_succ])
  iterate 4 (refine pl_pn hO rfl rfl rfl rfl ?_; simp only [Act.put, List.setIfInBounds_toArray, List.set_cons_zero, List.set_cons_succ])
  refine pl_qn hO rfl rfl rfl rfl ?_; simp only [Act.put, List.setIfInBounds_toArray, List.set_cons_zero, List.set_cons_succ]
  iterate 2 (refine pl_pn hO rfl rfl rfl rfl ?_; simp only [Act.put, List.setIfInBounds_toArray, List.set_cons_zero, List.set_cons_succ])
  iterate 4 (refine pl_pu hO rfl rfl rfl rfl ?_; simp only [Act.put, List.setIfInBounds_toArray, List.set_cons_zero, List.set_cons_succ])
  refine pl_qu hO rfl rfl rfl rfl ?_; simp only [Act.put, List.setIfInBounds_toArray, List.set_cons_zero, List.set_cons_succ]
  refine pl_pu hO rfl rfl rfl rfl ?_; simp only [Act.put, List.setIfInBounds_toArray, List.set_cons_zero, List.set_cons_succ]
  refine pl_pn hO rfl rfl rfl rfl ?_; simp only [Act.put, List.setIfInBounds_toArray, List.set_cons_zero, List.set_cons_succ]
  iterate 2 (refine pl_p0 hO rfl rfl ?_ (fun w' => ?_) ?_; rotate_left 1; (focus (go_simp; ((try with_reducible rfl); done))); simp only [Act.put, List.setIfInBounds_toArray, List.set_cons_zero, List.set_cons_succ])
  iterate 5 (refine pl_pn hO rfl rfl rfl rfl ?_; simp only [Act.put, List.setIfInBounds_toArray, List.set_cons_zero, List.set_cons_succ])
  iterate 2 (refine pl_qn hO rfl rfl rfl rfl ?_; simp only [Act.put, List.setIfInBounds_toArray, List.set_cons_zero, List.set_cons_succ])
  refine pl_pn hO rfl rfl rfl rfl ?_; simp only [Act.put, List.setIfInBounds_toArray, List.set_cons_zero, List.set_cons_succ]
  iterate 2 (refine pl_p0 hO rfl rfl ?_ (fun w' => ?_) ?_; rotate_left 1; (focus (go_simp; ((try with_reducible rfl); done))); simp only [Act.put, List.setIfInBounds_toArray, List.set_cons_zero, List.set_cons_succ])
  refine pl_nil (hQ' _ _ ?_)
  exact HK.out _ _  ⟨rfl, rfl⟩ (Kc h0.symm (Kc h4.symm (Kc rfl (Kc h6.symm (Kn _ _))))) (rfl) hR_1.1 hR_1.2.2.1 hR_1.2.2.2
end Go.Proofs.YtcbkaiakdhiloabGreatDoor
namespace Go.Proofs.YtcbkaiakdhiloabGreatDoor
open Go.RowKit Go.Proofs
attribute [local go_sem] bs_size bs_append bs_sub bs_toList
theorem ethC_size (x : EthD) : (ethC x).size = zcEth.size := rfl
theorem ethC_one (x : EthD) : (ethC x).all (·.oneCell') = true := by kernel_rfl
theorem eth_info (x : EthD) : (Tryz.prog.info? 27).map (·.size) = some (ethC x).size := by rw [ethC_size]; kernel_rfl
theorem packetReadEther (l : List UInt8) (w : World) (hl : l.length ≤ 9223372036854775807) :
    Calls Tryz.prog 25 #[.string (bs l)] w (ethPost l w) := by
  go_enter Tryz.func25, Tryz.ntmps25
  go_wp2_with fail
  have hx0 := Bk.new w 27 zcEth
  have hf0 : Fr noB w (w.alloc (.cells zcEth 27)) := (Fr.refl _ _).alloc _
  unfold zcEth at hx0 hf0
  generalize w.alloc (.cells #[.int .u8 0, .int .u8 0, .int .u8 0, .int .u8 0, .int .u8 0, .int .u8 0, .int .u8 0, .int .u8 0, .int .u8 0, .int .u8 0, .int .u8 0, .int .u8 0, .int .u16 0, .string ⟨#[]⟩] 27) = w1 at *
  refine (ethRead l _ hl).mono ?_
  rintro e w2 ⟨rfl, hf1⟩
  have hx1 := hx0.keep hf1 (fun x => x)
  have hsz := Lib.hid (ethC_size (readEther l).1)
  have hin := Lib.hid (eth_info (readEther l).1)
  have hon := Lib.hid (ethC_one (readEther l).1)
  generalize hr : readEther l = r at *
  have Hr := Lib.hid hr
  clear hr
  generalize hc : ethC r.1 = c at *
  have Hc := Lib.hid hc
  clear hc
  go_wp2_with ((refine wpList_store_bk rfl 27 (.tmp 2) (.tmp 6) rfl w.heap.size _ _ c rfl rfl hx1 hsz.out hin.out hon.out ?_); intro w9 hx9 hf9)
  refine bodyPost_ret (results_row_tmp Tryz.results25 _ w9 w.heap.size _ c _ _ rfl rfl hx9 Tryz.underlying27 rfl hin.out) rfl ?_
  exact ⟨by rw [Hr.out, Hc.out]; rfl, (hf0.none hf1).trans' hf9 (fun b hb e => by unfold oneB at e; omega)⟩
end Go.Proofs.YtcbkaiakdhiloabGreatDoor
namespace Go.Proofs.YtcbkaiakdhiloabGreatDoor
open Go.RowKit Go.Proofs
attribute [local go_sem] bs_size bs_append bs_extract bs_toList
theorem readEther_in (l : List UInt8) : (readEther l).1.ty < 65536 ∧ (readEther l).1.by'.length ≤ l.length := by
  unfold readEther
  have h5 := sub_len l 14 l.length
  have h2 := num_subn l 12 14 2 rfl
  repeat' split
  all_goals (refine ⟨?_, ?_⟩ <;> simp [eth0] <;> omega)
def frF (u : Nat → Value) : Act := ⟨#[u 0, u 1, u 2, u 3, u 4, u 5, u 6, u 7, u 8, u 9, u 10, u 11, u 12, u 13, u 14, u 15, u 16, u 17, u 18, u 19, u 20, u 21, u 22, u 23, u 24, u 25, u 26, u 27, u 28, u 29, u 30, u 31, u 32, u 33, u 34, u 35, u 36, u 37, u 38, u 39, u 40, u 41, u 42, u 43, u 44, u 45, u 46, u 47, u 48, u 49, u 50], []⟩
set_option maxRecDepth 100000 in
theorem frF_eq (u : Nat → Value) : frF u = frN 51 u := rfl
theorem frF_of {a : Act} (h : Sz 51 a) : a = frF (sl a) := h.eq.trans (frF_eq _).symm
theorem frR0 (ld : List UInt8) (a : Act) (w : World) (K : Exit → Act → World → Prop) (hs : Sz 51 a)
    (h1 : sl a 1 = .string (bs ld)) (hld : ld.length ≤ 9223372036854775807)
    (hK : ∀ a' w' g, Sz 51 a' → Kp [0, 33, 34, 35, 7] a a' → sl a' 4 = .pointer (some ⟨g, 0, none⟩) → sl a' 5 = .int .i64 ((readEther ld).2 : Int) → Fr noB w w' → Bk w' g 27 (ethC (readEther ld).1) → w.heap.size ≤ g → K .normal a' w') :
    (regionOf Tryz.f152 0).wp Tryz.prog K a w := by
  unfold Kp at hK; rw [frF_of hs]; clear hs; generalize sl a = u at *; clear a; have HK := Lib.hid hK; clear hK; conv => arg 2; whnf
  simp only [frF, h1]
  go_wp2_with fail
  refine (packetReadEther ld _ hld).mono ?_
  rintro e w2 ⟨rfl, hf1⟩
  have hsz := Lib.hid (ethC_size (readEther ld).1)
  have hin := Lib.hid (eth_info (readEther ld).1)
  have hon := Lib.hid (ethC_one (readEther ld).1)
  generalize hr : readEther ld = r at *
  clear hr
  generalize hc : ethC r.1 = c at *
  clear hc
  have hx0 := Bk.new w2 27 zcEth
  go_wp2_with ((refine wpList_store_bk rfl 27 (.tmp 4) (.tmp 11) rfl w2.heap.size _ zcEth c rfl rfl hx0 hsz.out hin.out hon.out ?_); intro w9 hx9 hf9)
  exact HK.out _ _ _ ⟨rfl, rfl⟩ (Kc rfl (Kc rfl (Kc rfl (Kc rfl (Kc rfl (Kn _ _)))))) (rfl) (rfl) ((hf1.alloc _).trans' hf9 (fun b hb e => by have e' : b = w2.heap.size := e; have := hf1.size; omega)) hx9 hf1.size
attribute [-go_sem] run_eql_struct run_neq_struct run_equalIn_agg in
theorem frR1a (L : Lay) (s : St) (x : EthD) (g : Nat) (k : Nat) (a : Act) (w : World) (K : Exit → Act → World → Prop) (hs : Sz 51 a)
    (h0 : sl a 0 = .pointer (some ⟨L.p, 0, none⟩)) (h4 : sl a 4 = .pointer (some ⟨g, 0, none⟩)) (h5 : sl a 5 = .int .i64 (k : Int)) (h : BootAt w L s) (hG : Bk w g 27 (ethC x)) (qk : ((k : Int) != 0) = true) 
    (hK : ∀ a' w', Sz 51 a' → Kp [0, 4, 5, 33, 34, 35, 7] a a' → sl a' 30 = .bool true → BootAt w' L s → Bk w' g 27 (ethC x) → Fr noB w w' → K .normal a' w') :
    (regionOf Tryz.f152 1).wp Tryz.prog K a w := by
  unfold Kp at hK; rw [frF_of hs]; clear hs; generalize sl a = u at *; clear a; have HK := Lib.hid hK; clear hK; conv => arg 2; whnf
  have hE2 : ∀ w, (binOp .neq 23 (.agg #[.int .u8 (x.to.1.toNat : Int), .int .u8 (x.to.2.1.toNat : Int), .int .u8 (x.to.2.2.1.toNat : Int), .int .u8 (x.to.2.2.2.1.toNat : Int), .int .u8 (x.to.2.2.2.2.1.toNat : Int), .int .u8 (x.to.2.2.2.2.2.toNat : Int)]) (.agg #[.int .u8 255, .int .u8 255, .int .u8 255, .int .u8 255, .int .u8 255, .int .u8 255])).run Tryz.prog w = .ok (.bool (decide (x.«to» ≠ aMac))) w := fun w => mac_neq x.«to» aMac w
  have hGd := mac_guard
  simp only [frF, h0, h4, h5]
  refine wp_region_pls (by kernel_rfl) (fun w' => BootAt w' L s ∧ Bk w' g 27 (ethC x) ∧ Fr noB w w') [] (.p 0 (.p 1 (.p 2 (.p 3 (.p 5 (.p 6 (.p 7 (.p 8 (.q 4 (.q 9 (.p 10 (.p 11 (.p 12 (.q 13 (.q 14 (.p 15 (.p 16 (.p 17 .nil)))))))))))))))))) (by kernel_rfl) (⟨h.drew, hG.drew, (Fr.refl _ _).drew⟩) ?_
  intro ops Q' hO hQ' wr1 hR1
  iterate 3 (refine pl_p0 hO rfl rfl ?_ (fun w' => ?_) ?_; rotate_left 1; (focus (go_simp; ((try with_reducible rfl); done))); simp only [Act.put, List.setIfInBounds_toArray, List.set_cons_zero, List.set_cons_succ])
  iterate 5 (refine pl_pn hO rfl rfl rfl rfl ?_; simp only [Act.put, List.setIfInBounds_toArray, List.set_cons_zero, List.set_cons_succ])
  iterate 2 (refine pl_qn hO rfl rfl rfl rfl ?_; simp only [Act.put, List.setIfInBounds_toArray, List.set_cons_zero, List.set_cons_succ])
  iterate 2 (refine pl_pn hO rfl rfl rfl rfl ?_; simp only [Act.put, List.setIfInBounds_toArray, List.set_cons_zero, List.set_cons_succ])
  refine pl_pu hO rfl rfl rfl rfl ?_; simp only [Act.put, List.setIfInBounds_toArray, List.set_cons_zero, List.set_cons_succ]
  iterate 2 (refine pl_qu hO rfl rfl rfl rfl ?_; simp only [Act.put, List.setIfInBounds_toArray, List.set_cons_zero, List.set_cons_succ])
  refine pl_pu hO rfl rfl rfl rfl ?_; simp only [Act.put, List.setIfInBounds_toArray, List.set_cons_zero, List.set_cons_succ]
  refine pl_pn hO rfl rfl rfl rfl ?_; simp only [Act.put, List.setIfInBounds_toArray, List.set_cons_zero, List.set_cons_succ]
  refine pl_p0 hO rfl rfl ?_ (fun w' => ?_) ?_; rotate_left 1; (focus (go_simp; ((try with_reducible rfl); done))); simp only [Act.put, List.setIfInBounds_toArray, List.set_cons_zero, List.set_cons_succ]
  refine pl_nil (hQ' _ _ ?_)
  exact HK.out _ _  ⟨rfl, rfl⟩ (Kc h0.symm (Kc h4.symm (Kc h5.symm (Kc rfl (Kc rfl (Kc rfl (Kc rfl (Kn _ _)))))))) (rfl) hR1.1 hR1.2.1 hR1.2.2
attribute [-go_sem] run_eql_struct run_neq_struct run_equalIn_agg in
theorem frR1b (L : Lay) (s : St) (x : EthD) (g : Nat) (k : Nat) (a : Act) (w : World) (K : Exit → Act → World → Prop) (hs : Sz 51 a)
    (h0 : sl a 0 = .pointer (some ⟨L.p, 0, none⟩)) (h4 : sl a 4 = .pointer (some ⟨g, 0, none⟩)) (h5 : sl a 5 = .int .i64 (k : Int)) (h : BootAt w L s) (hG : Bk w g 27 (ethC x)) (qk : ((k : Int) != 0) = false) (q1 : decide (x.«to» ≠ s.c.card) = false) 
    (hK : ∀ a' w', Sz 51 a' → Kp [0, 4, 5, 33, 34, 35, 7] a a' → sl a' 30 = .bool false → BootAt w' L s → Bk w' g 27 (ethC x) → Fr noB w w' → K .normal a' w') :
    (regionOf Tryz.f152 1).wp Tryz.prog K a w := by
  unfold Kp at hK; rw [frF_of hs]; clear hs; generalize sl a = u at *; clear a; have HK := Lib.hid hK; clear hK; conv => arg 2; whnf
  have hE1 : ∀ w, (binOp .neq 23 (.agg #[.int .u8 (x.to.1.toNat : Int), .int .u8 (x.to.2.1.toNat : Int), .int .u8 (x.to.2.2.1.toNat : Int), .int .u8 (x.to.2.2.2.1.toNat : Int), .int .u8 (x.to.2.2.2.2.1.toNat : Int), .int .u8 (x.to.2.2.2.2.2.toNat : Int)]) (.agg #[.int .u8 (s.c.card.1.toNat : Int), .int .u8 (s.c.card.2.1.toNat : Int), .int .u8 (s.c.card.2.2.1.toNat : Int), .int .u8 (s.c.card.2.2.2.1.toNat : Int), .int .u8 (s.c.card.2.2.2.2.1.toNat : Int), .int .u8 (s.c.card.2.2.2.2.2.toNat : Int)])).run Tryz.prog w = .ok (.bool false) w := fun w => (mac_neq x.«to» s.c.card w).trans (by rw [q1])
  have hE2 : ∀ w, (binOp .neq 23 (.agg #[.int .u8 (x.to.1.toNat : Int), .int .u8 (x.to.2.1.toNat : Int), .int .u8 (x.to.2.2.1.toNat : Int), .int .u8 (x.to.2.2.2.1.toNat : Int), .int .u8 (x.to.2.2.2.2.1.toNat : Int), .int .u8 (x.to.2.2.2.2.2.toNat : Int)]) (.agg #[.int .u8 255, .int .u8 255, .int .u8 255, .int .u8 255, .int .u8 255, .int .u8 255])).run Tryz.prog w = .ok (.bool (decide (x.«to» ≠ aMac))) w := fun w => mac_neq x.«to» aMac w
  have hGd := mac_guard
  simp only [frF, h0, h4, h5]
  refine wp_region_pls (by kernel_rfl) (fun w' => BootAt w' L s ∧ Bk w' g 27 (ethC x) ∧ Fr noB w w') [] (.p 0 (.p 1 (.p 2 (.p 3 (.p 5 (.p 6 (.p 7 (.p 8 (.q 4 (.q 9 (.p 10 (.p 11 (.p 12 (.q 13 (.q 14 (.p 15 (.p 16 (.p 17 .nil)))))))))))))))))) (by kernel_rfl) (⟨h.drew, hG.drew, (Fr.refl _ _).drew⟩) ?_
  intro ops Q' hO hQ' wr1 hR1
  iterate 3 (refine pl_p0 hO rfl rfl ?_ (fun w' => ?_) ?_; rotate_left 1; (focus (go_simp; ((try with_reducible rfl); done))); simp only [Act.put, List.setIfInBounds_toArray, List.set_cons_zero, List.set_cons_succ])
  iterate 5 (refine pl_p1 hO rfl rfl rfl rfl ?_ (fun w' => ?_) ?_; rotate_left 1; (focus (go_simp; ((try with_reducible rfl); done))); simp only [Act.put, List.setIfInBounds_toArray, List.set_cons_zero, List.set_cons_succ])
  iterate 2 (refine pl_q1 hO rfl rfl rfl rfl ?_ (fun w' hS => ?_) ?_; rotate_left 1; (focus (obtain ⟨hB, hG, hF⟩ := hS; have hGc := hG.cells; unfold ethC at hGc; have c0 := hB.g0; have c1 := hB.g1; have c2 := hB.g2; have c3 := hB.g3; have c4 := hB.g4; have c5 := hB.g5; have o0 := hB.gb.all.2 0 _ rfl; have o1 := hB.gb.all.2 1 _ rfl; have o2 := hB.gb.all.2 2 _ rfl; have o3 := hB.gb.all.2 3 _ rfl; have o4 := hB.gb.all.2 4 _ rfl; have o5 := hB.gb.all.2 5 _ rfl; go_simp; ((try with_reducible rfl); done))); simp only [Act.put, List.setIfInBounds_toArray, List.set_cons_zero, List.set_cons_succ])
  iterate 2 (refine pl_p1 hO rfl rfl rfl rfl ?_ (fun w' => ?_) ?_; rotate_left 1; (focus (go_simp; ((try with_reducible rfl); done))); simp only [Act.put, List.setIfInBounds_toArray, List.set_cons_zero, List.set_cons_succ])
  refine pl_pn hO rfl rfl rfl rfl ?_; simp only [Act.put, List.setIfInBounds_toArray, List.set_cons_zero, List.set_cons_succ]
  iterate 2 (refine pl_qn hO rfl rfl rfl rfl ?_; simp only [Act.put, List.setIfInBounds_toArray, List.set_cons_zero, List.set_cons_succ])
  refine pl_pn hO rfl rfl rfl rfl ?_; simp only [Act.put, List.setIfInBounds_toArray, List.set_cons_zero, List.set_cons_succ]
  refine pl_p1 hO rfl rfl rfl rfl ?_ (fun w' => ?_) ?_; rotate_left 1; (focus (go_simp; ((try with_reducible rfl); done))); simp only [Act.put, List.setIfInBounds_toArray, List.set_cons_zero, List.set_cons_succ]
  refine pl_p0 hO rfl rfl ?_ (fun w' => ?_) ?_; rotate_left 1; (focus (go_simp; ((try with_reducible rfl); done))); simp only [Act.put, List.setIfInBounds_toArray, List.set_cons_zero, List.set_cons_succ]
  refine pl_nil (hQ' _ _ ?_)
  exact HK.out _ _  ⟨rfl, rfl⟩ (Kc h0.symm (Kc h4.symm (Kc h5.symm (Kc rfl (Kc rfl (Kc rfl (Kc rfl (Kn _ _)))))))) (rfl) hR1.1 hR1.2.1 hR1.2.2
attribute [-go_sem] run_eql_struct run_neq_struct run_equalIn_agg in
theorem frR1c (L : Lay) (s : St) (x : EthD) (g : Nat) (k : Nat) (a : Act) (w : World) (K : Exit → Act → World → Prop) (hs : Sz 51 a)
    (h0 : sl a 0 = .pointer (some ⟨L.p, 0, none⟩)) (h4 : sl a 4 = .pointer (some ⟨g, 0, none⟩)) (h5 : sl a 5 = .int .i64 (k : Int)) (h : BootAt w L s) (hG : Bk w g 27 (ethC x)) (qk : ((k : Int) != 0) = false) (q1 : decide (x.«to» ≠ s.c.card) = true) 
    (hK : ∀ a' w', Sz 51 a' → Kp [0, 4, 5, 33, 34, 35, 7] a a' → sl a' 30 = .bool (!decide (x.«to» = aMac)) → BootAt w' L s → Bk w' g 27 (ethC x) → Fr noB w w' → K .normal a' w') :
    (regionOf Tryz.f152 1).wp Tryz.prog K a w := by
  unfold Kp at hK; rw [frF_of hs]; clear hs; generalize sl a = u at *; clear a; have HK := Lib.hid hK; clear hK; conv => arg 2; whnf
  have hE1 : ∀ w, (binOp .neq 23 (.agg #[.int .u8 (x.to.1.toNat : Int), .int .u8 (x.to.2.1.toNat : Int), .int .u8 (x.to.2.2.1.toNat : Int), .int .u8 (x.to.2.2.2.1.toNat : Int), .int .u8 (x.to.2.2.2.2.1.toNat : Int), .int .u8 (x.to.2.2.2.2.2.toNat : Int)]) (.agg #[.int .u8 (s.c.card.1.toNat : Int), .int .u8 (s.c.card.2.1.toNat : Int), .int .u8 (s.c.card.2.2.1.toNat : Int), .int .u8 (s.c.card.2.2.2.1.toNat : Int), .int .u8 (s.c.card.2.2.2.2.1.toNat : Int), .int .u8 (s.c.card.2.2.2.2.2.toNat : Int)])).run Tryz.prog w = .ok (.bool true) w := fun w => (mac_neq x.«to» s.c.card w).trans (by rw [q1])
  have hE2 : ∀ w, (binOp .neq 23 (.agg #[.int .u8 (x.to.1.toNat : Int), .int .u8 (x.to.2.1.toNat : Int), .int .u8 (x.to.2.2.1.toNat : Int), .int .u8 (x.to.2.2.2.1.toNat : Int), .int .u8 (x.to.2.2.2.2.1.toNat : Int), .int .u8 (x.to.2.2.2.2.2.toNat : Int)]) (.agg #[.int .u8 255, .int .u8 255, .int .u8 255, .int .u8 255, .int .u8 255, .int .u8 255])).run Tryz.prog w = .ok (.bool (decide (x.«to» ≠ aMac))) w := fun w => mac_neq x.«to» aMac w
  have hGd := mac_guard
  simp only [frF, h0, h4, h5]
  refine wp_region_pls (by kernel_rfl) (fun w' => BootAt w' L s ∧ Bk w' g 27 (ethC x) ∧ Fr noB w w') [] (.p 0 (.p 1 (.p 2 (.p 3 (.p 5 (.p 6 (.p 7 (.p 8 (.q 4 (.q 9 (.p 10 (.p 11 (.p 12 (.q 13 (.q 14 (.p 15 (.p 16 (.p 17 .nil)))))))))))))))))) (by kernel_rfl) (⟨h.drew, hG.drew, (Fr.refl _ _).drew⟩) ?_
  intro ops Q' hO hQ' wr1 hR1
  iterate 3 (refine pl_p0 hO rfl rfl ?_ (fun w' => ?_) ?_; rotate_left 1; (focus (go_simp; ((try with_reducible rfl); done))); simp only [Act.put, List.setIfInBounds_toArray, List.set_cons_zero, List.set_cons_succ])
  iterate 5 (refine pl_p1 hO rfl rfl rfl rfl ?_ (fun w' => ?_) ?_; rotate_left 1; (focus (go_simp; ((try with_reducible rfl); done))); simp only [Act.put, List.setIfInBounds_toArray, List.set_cons_zero, List.set_cons_succ])
  iterate 2 (refine pl_q1 hO rfl rfl rfl rfl ?_ (fun w' hS => ?_) ?_; rotate_left 1; (focus (obtain ⟨hB, hG, hF⟩ := hS; have hGc := hG.cells; unfold ethC at hGc; have c0 := hB.g0; have c1 := hB.g1; have c2 := hB.g2; have c3 := hB.g3; have c4 := hB.g4; have c5 := hB.g5; have o0 := hB.gb.all.2 0 _ rfl; have o1 := hB.gb.all.2 1 _ rfl; have o2 := hB.gb.all.2 2 _ rfl; have o3 := hB.gb.all.2 3 _ rfl; have o4 := hB.gb.all.2 4 _ rfl; have o5 := hB.gb.all.2 5 _ rfl; go_simp; ((try with_reducible rfl); done))); simp only [Act.put, List.setIfInBounds_toArray, List.set_cons_zero, List.set_cons_succ])
  iterate 3 (refine pl_p1 hO rfl rfl rfl rfl ?_ (fun w' => ?_) ?_; rotate_left 1; (focus (go_simp; ((try with_reducible rfl); done))); simp only [Act.put, List.setIfInBounds_toArray, List.set_cons_zero, List.set_cons_succ])
  iterate 2 (refine pl_q1 hO rfl rfl rfl rfl ?_ (fun w' hS => ?_) ?_; rotate_left 1; (focus (obtain ⟨hB, hG, hF⟩ := hS; have hGc := hG.cells; unfold ethC at hGc; have c0 := hB.g0; have c1 := hB.g1; have c2 := hB.g2; have c3 := hB.g3; have c4 := hB.g4; have c5 := hB.g5; have o0 := hB.gb.all.2 0 _ rfl; have o1 := hB.gb.all.2 1 _ rfl; have o2 := hB.gb.all.2 2 _ rfl; have o3 := hB.gb.all.2 3 _ rfl; have o4 := hB.gb.all.2 4 _ rfl; have o5 := hB.gb.all.2 5 _ rfl; go_simp; ((try with_reducible rfl); done))); simp only [Act.put, List.setIfInBounds_toArray, List.set_cons_zero, List.set_cons_succ])
  iterate 2 (refine pl_p1 hO rfl rfl rfl rfl ?_ (fun w' => ?_) ?_; rotate_left 1; (focus (go_simp; ((try with_reducible rfl); done))); simp only [Act.put, List.setIfInBounds_toArray, List.set_cons_zero, List.set_cons_succ])
  refine pl_p0 hO rfl rfl ?_ (fun w' => ?_) ?_; rotate_left 1; (focus (go_simp; ((try with_reducible rfl); done))); simp only [Act.put, List.setIfInBounds_toArray, List.set_cons_zero, List.set_cons_succ]
  refine pl_nil (hQ' _ _ ?_)
  exact HK.out _ _  ⟨rfl, rfl⟩ (Kc h0.symm (Kc h4.symm (Kc h5.symm (Kc rfl (Kc rfl (Kc rfl (Kc rfl (Kn _ _)))))))) (rfl) hR1.1 hR1.2.1 hR1.2.2
theorem frR1 (L : Lay) (s : St) (x : EthD) (g : Nat) (k : Nat) (a : Act) (w : World) (K : Exit → Act → World → Prop) (hs : Sz 51 a) (h0 : sl a 0 = .pointer (some ⟨L.p, 0, none⟩)) (h4 : sl a 4 = .pointer (some ⟨g, 0, none⟩)) (h5 : sl a 5 = .int .i64 (k : Int)) (h : BootAt w L s) (hG : Bk w g 27 (ethC x))
    (hK : ∀ a' w', Sz 51 a' → Kp [0, 4] a a' → sl a' 30 = .bool (decide (k ≠ 0 ∨ (x.«to» ≠ s.c.card ∧ x.«to» ≠ aMac))) → BootAt w' L s → Bk w' g 27 (ethC x) → Fr noB w w' → K .normal a' w') : (regionOf Tryz.f152 1).wp Tryz.prog K a w := by
  have kk : ∀ {l : List Nat} {a' : Act}, Kp l a a' → (∀ x ∈ [0, 4], x ∈ l) → Kp [0, 4] a a' := fun k hl i hi => k i (hl i hi)
  by_cases hk : k = 0
  · have qk : ((k : Int) != 0) = false := by rw [hk]; rfl
    by_cases hc : x.«to» = s.c.card
    · exact frR1b L s x g k a w K hs h0 h4 h5 h hG qk (by simp [hc]) fun a' w' hs' k' o => hK a' w' hs' (kk k' (by decide)) (o.trans (by simp [hk, hc]))
    · exact frR1c L s x g k a w K hs h0 h4 h5 h hG qk (by simp [hc]) fun a' w' hs' k' o => hK a' w' hs' (kk k' (by decide)) (o.trans (by simp [hk, hc]))
  · exact frR1a L s x g k a w K hs h0 h4 h5 h hG (by simp; omega) fun a' w' hs' k' o => hK a' w' hs' (kk k' (by decide)) (o.trans (by simp [hk]))
theorem frR2  (a : Act) (w : World) (K : Exit → Act → World → Prop) (hs : Sz 51 a)
     
    (hK : ∀ a' w' q t, Sz 51 a' → Kp [0, 4, 5, 7] a a' → sl a' 33 = .slice (some ⟨q, 0, none⟩) 2 2 → sl a' 34 = .int .i64 2 → sl a' 35 = .int .i64 0 → Fr noB w w' → Bk w' q t #[.int .u16 2054, .func (.func 178) #[] #[], .int .u16 2048, .func (.func 179) #[] #[]] → w.heap.size ≤ q → q < w'.heap.size → K .normal a' w') :
    (regionOf Tryz.f152 2).wp Tryz.prog K a w := by
  unfold Kp at hK; rw [frF_of hs]; clear hs; generalize sl a = u at *; clear a; have HK := Lib.hid hK; clear hK; conv => arg 2; whnf
  simp only [frF]
  go_wp2_with fail
  exact HK.out _ _ _ _ ⟨rfl, rfl⟩ (Kc rfl (Kc rfl (Kc rfl (Kc rfl (Kn _ _))))) (rfl) (rfl) (rfl) ((Fr.refl _ _).alloc _) (Bk.new _ _ _) (Nat.le_refl _) (Bk.new _ _ _).lt
theorem frR3 (i : Nat) (a : Act) (w : World) (K : Exit → Act → World → Prop) (hs : Sz 51 a)
    (h34 : sl a 34 = .int .i64 2) (h35 : sl a 35 = .int .i64 (i : Int)) 
    (hK : ∀ a' w', Sz 51 a' → Kp [0, 4, 5, 33, 34, 35, 7] a a' → sl a' 36 = .bool (decide (i < 2)) → w' = w → K .normal a' w') :
    (regionOf Tryz.f152 3).wp Tryz.prog K a w := by
  unfold Kp at hK; rw [frF_of hs]; clear hs; generalize sl a = u at *; clear a; have HK := Lib.hid hK; clear hK; conv => arg 2; whnf
  simp only [frF, h34, h35]
  go_wp2_with fail
  exact HK.out _ _  ⟨rfl, rfl⟩ (Kc rfl (Kc rfl (Kc rfl (Kc rfl (Kc h34.symm (Kc h35.symm (Kc rfl (Kn _ _)))))))) (congrArg Value.bool (decide_eq_decide.2 (by omega))) rfl
theorem frR4_0 (q t : Nat) (a : Act) (w : World) (K : Exit → Act → World → Prop) (hs : Sz 51 a)
    (h33 : sl a 33 = .slice (some ⟨q, 0, none⟩) 2 2) (h35 : sl a 35 = .int .i64 0) (hQ : Bk w q t #[.int .u16 2054, .func (.func 178) #[] #[], .int .u16 2048, .func (.func 179) #[] #[]])
    (hK : ∀ a' w' v t2, Sz 51 a' → Kp [0, 4, 5, 33, 34, 35] a a' → sl a' 7 = .pointer (some ⟨v, 0, none⟩) → Fr noB w w' → Bk w' v t2 #[.int .u16 2054, .func (.func 178) #[] #[]] → K .normal a' w') :
    (regionOf Tryz.f152 4).wp Tryz.prog K a w := by
  unfold Kp at hK; rw [frF_of hs]; clear hs; generalize sl a = u at *; clear a; have HK := Lib.hid hK; clear hK; conv => arg 2; whnf
  simp only [frF, h33, h35]
  have hQc := hQ.cells
  go_wp2_with ((refine wpList_store_bk rfl 241 (.tmp 7) (.tmp 38) rfl w.heap.size _ #[.int .u16 0, .nilFunc] #[.int .u16 2054, .func (.func 178) #[] #[]] rfl rfl (Bk.new w _ _) rfl (by kernel_rfl) (by simp [Value.oneCell']) ?_); intro w9 hx9 hf9)
  exact HK.out _ _ _ _ ⟨rfl, rfl⟩ (Kc rfl (Kc rfl (Kc rfl (Kc h33.symm (Kc rfl (Kc h35.symm (Kn _ _))))))) (rfl) (((Fr.refl noB w).alloc _).trans' hf9 (fun b hb e => by have e' : b = w.heap.size := e; omega)) hx9
theorem frR5_0 (x : EthD) (g v t2 : Nat) (b : Bool) (a : Act) (w : World) (K : Exit → Act → World → Prop) (hs : Sz 51 a)
    (h4 : sl a 4 = .pointer (some ⟨g, 0, none⟩)) (h7 : sl a 7 = .pointer (some ⟨v, 0, none⟩)) (hG : Bk w g 27 (ethC x)) (hV : Bk w v t2 #[.int .u16 2054, .func (.func 178) #[] #[]]) (hb : ((2054 : Int) == (x.ty : Int)) = b)
    (hK : ∀ a' w', Sz 51 a' → Kp [0, 4, 5, 33, 34, 35, 7] a a' → sl a' 43 = .bool b → w' = w → K .normal a' w') :
    (regionOf Tryz.f152 5).wp Tryz.prog K a w := by
  unfold Kp at hK; rw [frF_of hs]; clear hs; generalize sl a = u at *; clear a; have HK := Lib.hid hK; clear hK; conv => arg 2; whnf
  simp only [frF, h4, h7]
  have hVc := hV.cells
  have hGc := hG.cells
  unfold ethC at hGc
  go_wp2_with fail
  exact HK.out _ _  ⟨rfl, rfl⟩ (Kc rfl (Kc h4.symm (Kc rfl (Kc rfl (Kc rfl (Kc rfl (Kc h7.symm (Kn _ _)))))))) (rfl) rfl
theorem frR4_1 (q t : Nat) (a : Act) (w : World) (K : Exit → Act → World → Prop) (hs : Sz 51 a)
    (h33 : sl a 33 = .slice (some ⟨q, 0, none⟩) 2 2) (h35 : sl a 35 = .int .i64 1) (hQ : Bk w q t #[.int .u16 2054, .func (.func 178) #[] #[], .int .u16 2048, .func (.func 179) #[] #[]])
    (hK : ∀ a' w' v t2, Sz 51 a' → Kp [0, 4, 5, 33, 34, 35] a a' → sl a' 7 = .pointer (some ⟨v, 0, none⟩) → Fr noB w w' → Bk w' v t2 #[.int .u16 2048, .func (.func 179) #[] #[]] → K .normal a' w') :
    (regionOf Tryz.f152 4).wp Tryz.prog K a w := by
  unfold Kp at hK; rw [frF_of hs]; clear hs; generalize sl a = u at *; clear a; have HK := Lib.hid hK; clear hK; conv => arg 2; whnf
  simp only [frF, h33, h35]
  have hQc := hQ.cells
  go_wp2_with ((refine wpList_store_bk rfl 241 (.tmp 7) (.tmp 38) rfl w.heap.size _ #[.int .u16 0, .nilFunc] #[.int .u16 2048, .func (.func 179) #[] #[]] rfl rfl (Bk.new w _ _) rfl (by kernel_rfl) (by simp [Value.oneCell']) ?_); intro w9 hx9 hf9)
  exact HK.out _ _ _ _ ⟨rfl, rfl⟩ (Kc rfl (Kc rfl (Kc rfl (Kc h33.symm (Kc rfl (Kc h35.symm (Kn _ _))))))) (rfl) (((Fr.refl noB w).alloc _).trans' hf9 (fun b hb e => by have e' : b = w.heap.size := e; omega)) hx9
theorem frR5_1 (x : EthD) (g v t2 : Nat) (b : Bool) (a : Act) (w : World) (K : Exit → Act → World → Prop) (hs : Sz 51 a)
    (h4 : sl a 4 = .pointer (some ⟨g, 0, none⟩)) (h7 : sl a 7 = .pointer (some ⟨v, 0, none⟩)) (hG : Bk w g 27 (ethC x)) (hV : Bk w v t2 #[.int .u16 2048, .func (.func 179) #[] #[]]) (hb : ((2048 : Int) == (x.ty : Int)) = b)
    (hK : ∀ a' w', Sz 51 a' → Kp [0, 4, 5, 33, 34, 35, 7] a a' → sl a' 43 = .bool b → w' = w → K .normal a' w') :
    (regionOf Tryz.f152 5).wp Tryz.prog K a w := by
  unfold Kp at hK; rw [frF_of hs]; clear hs; generalize sl a = u at *; clear a; have HK := Lib.hid hK; clear hK; conv => arg 2; whnf
  simp only [frF, h4, h7]
  have hVc := hV.cells
  have hGc := hG.cells
  unfold ethC at hGc
  go_wp2_with fail
  exact HK.out _ _  ⟨rfl, rfl⟩ (Kc rfl (Kc h4.symm (Kc rfl (Kc rfl (Kc rfl (Kc rfl (Kc h7.symm (Kn _ _)))))))) (rfl) rfl
theorem frR7 (i : Nat) (a : Act) (w : World) (K : Exit → Act → World → Prop) (hs : Sz 51 a)
    (h35 : sl a 35 = .int .i64 (i : Int)) (hi : i ≤ 2)
    (hK : ∀ a' w', Sz 51 a' → Kp [0, 4, 5, 33, 34, 7] a a' → sl a' 35 = .int .i64 ((i + 1 : Nat) : Int) → w' = w → K .normal a' w') :
    (regionOf Tryz.f152 7).wp Tryz.prog K a w := by
  unfold Kp at hK; rw [frF_of hs]; clear hs; generalize sl a = u at *; clear a; have HK := Lib.hid hK; clear hK; conv => arg 2; whnf
  simp only [frF, h35]
  clear h35
  go_wp2_with fail
  exact HK.out _ _  ⟨rfl, rfl⟩ (Kc rfl (Kc rfl (Kc rfl (Kc rfl (Kc rfl (Kc rfl (Kn _ _))))))) (by simp only [sl]; rfl) rfl
def Now (L : Lay) (w0 : World) (s : St) (w : World) : Prop := ∃ L' : Lay, L'.p = L.p ∧ (∀ b, own' L' b → own' L b ∨ w0.heap.size ≤ b) ∧ BootAt w L' s ∧ Fr (own' L) w0 w
theorem Now.comp {L L1 : Lay} {w0 w w' : World} {s' : St} (p1 : L1.p = L.p) (o1 : ∀ b, own' L1 b → own' L b ∨ w0.heap.size ≤ b) (f1 : Fr (own' L) w0 w) (h : Now L1 w s' w') : Now L w0 s' w' := by
  obtain ⟨L2, p2, o2, b2, f2⟩ := h
  refine ⟨L2, p2.trans p1, fun b hb => ?_, b2, f1.trans' f2 fun b hb hx => (o1 b hx).resolve_right (by omega)⟩
  rcases o2 b hb with x | x
  · exact o1 b x
  · exact .inr (Nat.le_trans f1.size x)
theorem Now.lpost {L : Lay} {w w' : World} {s : St} {r : Value} (h : Now L w s w') : LPost2 L s r w (.returned r) w' := ⟨rfl, h⟩
theorem Now.fr {L : Lay} {w0 w w' : World} {s : St} (h : Now L w0 s w) (hf : Fr noB w w') : Now L w0 s w' := by
  obtain ⟨L1, p1, o1, b1, f1⟩ := h
  exact ⟨L1, p1, o1, b1.none hf, f1.none hf⟩
end Go.Proofs.YtcbkaiakdhiloabGreatDoor
