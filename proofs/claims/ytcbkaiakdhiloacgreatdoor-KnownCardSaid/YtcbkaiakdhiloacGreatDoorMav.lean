/- Parts of the walk; written by programs, merged. -/
import Derived.Test.YtcbkaiakdhiloacGreatDoorMau
set_option linter.unusedSimpArgs false
set_option linter.unusedVariables false
set_option maxRecDepth 20000
set_option maxHeartbeats 8000000
namespace Go.Proofs.YtcbkaiakdhiloacGreatDoor
open Go.RowKit Go.Proofs
attribute [local go_sem] bs_size bs_append bs_extract bs_toList
theorem bootReadDHCP (l : List UInt8) (w : World) (hl : l.length ≤ 1099511000000) :
    Calls Tryz.prog 22 #[.string (bs l)] w (dhcPost l w) := by
  go_enter Tryz.func22, Tryz.ntmps22
  go_wp2_with fail
  have hx0 := Bk.new w 62 zcDhc
  have hf0 : Fr noB w (w.alloc (.cells zcDhc 62)) := (Fr.refl _ _).alloc _
  have hsz : (w.alloc (.cells zcDhc 62)).heap.size = w.heap.size + 1 := by simp
  unfold zcDhc at hx0 hf0 hsz
  generalize w.alloc (.cells #[.bool false, .int .u32 0, .int .u32 0, .int .u32 0, .int .u32 0, .int .u8 0, .int .u8 0, .int .u8 0, .int .u8 0, .int .u8 0, .int .u8 0, .slice none 0 0] 62) = w1 at *
  have Hsz := Lib.hid hsz
  clear hsz
  refine (dhcpRead l w1 hl).mono ?_
  rintro e w2 ⟨⟨A, cap, rfl, hA⟩, hf1⟩
  have hx1 := hx0.keep hf1 (fun x => x)
  generalize hr : readDHCP l = r at *
  have Hr := Lib.hid hr
  clear hr
  have hin := Lib.hid (dhc_info r.1 A cap)
  have hon := Lib.hid (dhcC_one r.1 A cap)
  have hsz := Lib.hid (dhcC_size r.1 A cap)
  generalize hc : dhcC r.1 A cap = c at *
  have Hc := Lib.hid hc
  clear hc
  go_wp2_with ((refine wpList_store_bk rfl 62 (.tmp 2) (.tmp 6) rfl w.heap.size _ _ c rfl rfl hx1 hsz.out hin.out hon.out ?_); intro w9 hx9 hf9)
  refine bodyPost_ret (results_row_tmp Tryz.results22 _ w9 w.heap.size _ c _ _ rfl rfl hx9 Tryz.underlying62 rfl hin.out) rfl ?_
  refine ⟨⟨A, cap, by rw [Hr.out, Hc.out]; rfl, ?_⟩, (hf0.none hf1).trans' hf9 (fun b hb e => by unfold oneB at e; omega)⟩
  rw [Hr.out]
  exact (hA.keep (hf9.mono fun b hb e => by unfold oneB at e; have := Hsz.out; omega)).sub (fun b hb h => by have := Hsz.out; omega)
end Go.Proofs.YtcbkaiakdhiloacGreatDoor
set_option maxRecDepth 20000
namespace Go.Proofs.YtcbkaiakdhiloacGreatDoor
open Go.RowKit Go.Proofs
attribute [local go_sem] bs_size bs_append bs_extract bs_toList
theorem neq_self {t : TypeId} {xs : Array Value} (w : World) (h : selfEq Tryz.prog 8 t (.agg xs) = true) : (binOp .neq t (.agg xs) (.agg xs)).run Tryz.prog w = .ok (.bool false) w := by
  have h1 := equalIn_self (P := Tryz.prog) (w := w) 9992 8 t (.agg xs) h
  rw [run_neq_struct w _ _ _, h1]; rfl
theorem keepPutE {w0 w : World} {p : Nat} {s s' : St} {b : Bool} {f : List UInt8} (hp : s.put f = (s', b)) (h : MSt w0 p s w) :
    Calls Tryz.prog 16 #[.pointer (some ⟨p, 0, none⟩), .string (bs f)] w fun e w' => e = .returned (.bool b) ∧ MSt w0 p s' w' := by
  have := keepPut f h; rw [hp] at this; exact this
theorem keepPollE {w0 w : World} {p : Nat} {s s' : St} {k : Nat} {n : Int} (hp : pollG (fun t _ => t) n.toNat s 0 = (s', k)) (h : MSt w0 p s w) (hn : n ≤ 9223372036854775807) (hb : BadRx s) :
    Calls Tryz.prog 17 #[.pointer (some ⟨p, 0, none⟩), .int .i64 n] w fun e w' => e = .returned (.int .i64 (k : Int)) ∧ MSt w0 p s' w' := by
  have := keepPollU n h hn hb; rw [hp] at this; exact this
theorem keepTakeE {w0 w : World} {p : Nat} {s s' : St} {r : Option (List UInt8)} (hp : s.take = (s', r)) (h : MSt w0 p s w) :
    Calls Tryz.prog 15 #[.pointer (some ⟨p, 0, none⟩)] w fun e w' => e = .returned (.tuple #[.string (bs (r.getD [])), .bool r.isSome]) ∧ MSt w0 p s' w' := by
  have := keepTake h; rw [hp] at this; exact this
theorem keepLookE {w0 w : World} {p : Nat} {s : St} {v : Value} (hv : lookV s = v) (h : MSt w0 p s w) :
    Calls Tryz.prog 14 #[.pointer (some ⟨p, 0, none⟩)] w fun e w' => e = .returned v ∧ MSt w0 p s w' := by
  have := keepLook h; rw [hv] at this; exact this
def kwF (u : Nat → Value) : Act := ⟨#[u 0, u 1, u 2, u 3, u 4, u 5, u 6, u 7, u 8, u 9, u 10, u 11, u 12, u 13, u 14, u 15, u 16, u 17, u 18, u 19, u 20, u 21, u 22, u 23, u 24, u 25, u 26, u 27, u 28, u 29, u 30, u 31, u 32, u 33, u 34, u 35, u 36, u 37, u 38, u 39, u 40, u 41, u 42, u 43, u 44, u 45, u 46, u 47, u 48, u 49, u 50, u 51, u 52, u 53, u 54, u 55, u 56, u 57, u 58, u 59, u 60, u 61, u 62, u 63, u 64, u 65, u 66, u 67, u 68, u 69, u 70, u 71, u 72, u 73, u 74, u 75, u 76, u 77, u 78, u 79, u 80, u 81, u 82, u 83, u 84, u 85, u 86, u 87, u 88, u 89, u 90, u 91, u 92, u 93, u 94, u 95, u 96, u 97, u 98, u 99, u 100, u 101, u 102, u 103, u 104, u 105, u 106, u 107, u 108, u 109, u 110, u 111, u 112, u 113, u 114, u 115, u 116, u 117, u 118, u 119, u 120, u 121, u 122, u 123, u 124, u 125, u 126, u 127, u 128, u 129, u 130, u 131, u 132, u 133, u 134, u 135, u 136, u 137, u 138, u 139, u 140, u 141, u 142, u 143, u 144, u 145, u 146, u 147, u 148, u 149, u 150, u 151, u 152, u 153, u 154, u 155, u 156, u 157, u 158, u 159, u 160, u 161, u 162, u 163, u 164, u 165, u 166, u 167, u 168, u 169, u 170, u 171, u 172, u 173, u 174, u 175, u 176, u 177, u 178, u 179, u 180, u 181, u 182, u 183, u 184, u 185, u 186, u 187, u 188, u 189, u 190, u 191, u 192, u 193, u 194, u 195, u 196, u 197, u 198, u 199, u 200, u 201, u 202, u 203, u 204, u 205, u 206, u 207, u 208, u 209, u 210, u 211, u 212, u 213, u 214, u 215, u 216, u 217, u 218, u 219, u 220, u 221, u 222, u 223, u 224, u 225, u 226, u 227, u 228, u 229, u 230, u 231, u 232, u 233, u 234, u 235, u 236, u 237, u 238, u 239, u 240, u 241, u 242, u 243, u 244, u 245, u 246, u 247, u 248, u 249, u 250, u 251, u 252, u 253, u 254], []⟩
set_option maxRecDepth 100000 in
theorem kwF_eq (u : Nat → Value) : kwF u = frN 255 u := rfl
theorem kwF_of {a : Act} (h : Sz 255 a) : a = kwF (sl a) := h.eq.trans (kwF_eq _).symm
theorem kwR0  (a : Act) (w : World) (K : KT) (hs : Sz 255 a)
     
    (hK : ∀ a' w', Sz 255 a' → Kp [1, 2, 3, 4, 5, 6, 7, 8, 9, 10, 11, 12, 13, 14, 15, 16, 17, 18, 19, 21] a a' → sl a' 0 = .bool false → w' = w → K .normal a' w') :
    (regionOf Tryz.f6 0).wp Tryz.prog K a w := by
  refine rgE hK (kwF_of hs) fun HK => ?_; clear hK hs
  simp only [kwF]
  go_wp2_with fail
  exact HK.out _ _ ⟨rfl, rfl⟩ kk (rfl) rfl
theorem kwR1  (a : Act) (w : World) (K : KT) (hs : Sz 255 a)
     (hC : CardG cardK w) (hG : Glb w)
    (hK : ∀ a' w' g, Sz 255 a' → Kp [2, 3, 4, 5, 6, 7, 8, 9, 10, 11, 12, 13, 14, 15, 16, 17, 18, 19, 21] a a' → sl a' 1 = .pointer (some ⟨g, 0, none⟩) → Fr noB w w' → Bk w' g 28 (cfgC (cfgN q0)) → w.heap.size ≤ g → K .normal a' w') :
    (regionOf Tryz.f6 1).wp Tryz.prog K a w := by
  refine rgE hK (kwF_of hs) fun HK => ?_; clear hK hs
  simp only [kwF]
  go_wp2_with (first | (go_at_call 11; refine (configFn cardK [] 8 1 _ hC hG (by decide)).mono ?_; rintro e w4 ⟨rfl, fw4⟩) | (refine wpList_store_bk rfl 28 (.tmp 1) (.tmp 20) rfl w4.heap.size _ _ (cfgC (cfgN q0)) rfl rfl (Bk.new w4 28 zCfg) rfl cfgInfo (cfgC_one _) ?_; intro w5 hx5 hf5))
  have hfq : Fr noB w w5 := (fw4.alloc _).trans' hf5 (fun b hb hx => by have hx' : b = w4.heap.size := hx; have := fw4.size; omega)
  exact HK.out _ _ w4.heap.size ⟨rfl, rfl⟩ kk (rfl) (hfq) hx5 fw4.size
theorem kwR2  (a : Act) (w : World) (K : KT) (hs : Sz 255 a)
     
    (hK : ∀ a' w', Sz 255 a' → Kp [1, 2, 3, 4, 5, 6, 7, 8, 9, 10, 11, 12, 13, 14, 15, 16, 17, 18, 19] a a' → sl a' 21 = .int .i64 ((0 : Nat) : Int) → w' = w → K .normal a' w') :
    (regionOf Tryz.f6 2).wp Tryz.prog K a w := by
  refine rgE hK (kwF_of hs) fun HK => ?_; clear hK hs
  simp only [kwF]
  go_wp2_with fail
  exact HK.out _ _ ⟨rfl, rfl⟩ kk (rfl) rfl
theorem kwR3 (k : Nat) (a : Act) (w : World) (K : KT) (hs : Sz 255 a)
    (h21 : sl a 21 = .int .i64 (k : Int)) 
    (hK : ∀ a' w', Sz 255 a' → Kp [1, 2, 3, 4, 5, 6, 7, 8, 9, 10, 11, 12, 13, 14, 15, 16, 17, 18, 19, 21] a a' → sl a' 22 = .bool (decide (k < 16)) → w' = w → K .normal a' w') :
    (regionOf Tryz.f6 3).wp Tryz.prog K a w := by
  refine rgE hK (kwF_of hs) fun HK => ?_; clear hK hs
  simp only [kwF, h21]
  go_wp2_with fail
  exact HK.out _ _ ⟨rfl, rfl⟩ kk (congrArg Value.bool (decide_eq_decide.2 (by omega))) rfl
theorem kwR4 (k : Nat) (a : Act) (w : World) (K : KT) (hs : Sz 255 a)
    (h21 : sl a 21 = .int .i64 (k : Int)) 
    (hK : ∀ a' w', Sz 255 a' → Kp [1, 3, 4, 5, 6, 7, 8, 9, 10, 11, 12, 13, 14, 15, 16, 17, 18, 19, 21] a a' → sl a' 2 = .int .i64 (k : Int) → w' = w → K .normal a' w') :
    (regionOf Tryz.f6 4).wp Tryz.prog K a w := by
  refine rgE hK (kwF_of hs) fun HK => ?_; clear hK hs
  simp only [kwF, h21]
  go_wp2_with fail
  exact HK.out _ _ ⟨rfl, rfl⟩ kk (rfl) rfl
theorem kwR5 (k : Nat) (a : Act) (w : World) (K : KT) (hs : Sz 255 a)
    (h2 : sl a 2 = .int .i64 (k : Int)) (hk : k < 16) (hC : CardG cardK w) (hG : Glb w)
    (hK : ∀ a' w', Sz 255 a' → Kp [1, 2, 5, 6, 7, 8, 9, 10, 11, 12, 13, 14, 15, 16, 17, 18, 19, 21] a a' → sl a' 3 = .pointer none → sl a' 4 = .int .i64 8 → Fr noB w w' → K .normal a' w') :
    (regionOf Tryz.f6 5).wp Tryz.prog K a w := by
  refine rgE hK (kwF_of hs) fun HK => ?_; clear hK hs
  simp only [kwF, h2]
  have Hk := Lib.hid hk
  clear hk
  go_wp2_with fail
  refine (changedFn k Hk.out _ hC hG).mono ?_
  rintro e w1 ⟨rfl, f1⟩
  go_wp2_with fail
  refine (bootNewL (chg q0 k) _ (hG.keep f1 (fun _ _ x => x))).mono ?_
  rintro e w2 hp
  obtain ⟨rfl, f2⟩ := hp.2 (chg_no q0 k)
  go_wp2_with fail
  exact HK.out _ _ ⟨rfl, rfl⟩ kk (rfl) (rfl) (f1.none f2)
theorem kwR6  (a : Act) (w : World) (K : KT) (hs : Sz 255 a)
    (h3 : sl a 3 = .pointer none) (h4 : sl a 4 = .int .i64 8) 
    (hK : ∀ a' w', Sz 255 a' → Kp [1, 2, 3, 4, 5, 6, 7, 8, 9, 10, 11, 12, 13, 14, 15, 16, 17, 18, 19, 21] a a' → sl a' 35 = .bool false → w' = w → K .normal a' w') :
    (regionOf Tryz.f6 6).wp Tryz.prog K a w := by
  refine rgE hK (kwF_of hs) fun HK => ?_; clear hK hs
  simp only [kwF, h3, h4]
  go_wp2_with fail
  exact HK.out _ _ ⟨rfl, rfl⟩ kk (rfl) rfl
theorem kwR8 (i j : Nat) (a : Act) (w : World) (K : KT) (hs : Sz 255 a)
    (h21 : sl a 21 = .int .i64 (i : Int)) (q : IntKind.i64.wrap ((i : Int) + 1) = (j : Int))
    (hK : ∀ a' w', Sz 255 a' → Kp [1, 2, 3, 4, 5, 6, 7, 8, 9, 10, 11, 12, 13, 14, 15, 16, 17, 18, 19] a a' → sl a' 21 = .int .i64 (j : Int) → w' = w → K .normal a' w') :
    (regionOf Tryz.f6 8).wp Tryz.prog K a w := by
  refine rgE hK (kwF_of hs) fun HK => ?_; clear hK hs
  simp only [kwF, h21]
  clear h21
  go_wp2_with fail
  exact HK.out _ _ ⟨rfl, rfl⟩ kk (rfl) rfl
theorem kwR9 (g : Nat) (a : Act) (w : World) (K : KT) (hs : Sz 255 a)
    (h1 : sl a 1 = .pointer (some ⟨g, 0, none⟩)) (hB : Bk w g 28 (cfgC (cfgN q0)))
    (hK : ∀ a' w', Sz 255 a' → Kp [1, 2, 3, 4, 5, 6, 7, 8, 9, 10, 11, 12, 13, 14, 15, 16, 17, 18, 19, 21] a a' → Fr (oneB g) w w' → Bk w' g 28 (cfgC ({ cfgN q0 with rx := 2 })) → K .normal a' w') :
    (regionOf Tryz.f6 9).wp Tryz.prog K a w := by
  refine rgE hK (kwF_of hs) fun HK => ?_; clear hK hs
  simp only [kwF, h1]
  have c_ := hB.cell 11
  have hfz := hB.free 11
  go_wp2_with fail
  exact HK.out _ _ ⟨rfl, rfl⟩ kk  ((Fr.refl (oneB g) w).setCell (p := ⟨g, 11, none⟩) (fun _ => rfl) (.int .i64 2)) (hB.set 11 (.int .i64 2))
theorem kwR10 (g : Nat) (a : Act) (w : World) (K : KT) (hs : Sz 255 a)
    (h1 : sl a 1 = .pointer (some ⟨g, 0, none⟩)) (hB : Bk w g 28 (cfgC ({ cfgN q0 with rx := 2 })))
    (hK : ∀ a' w', Sz 255 a' → Kp [1, 2, 3, 4, 5, 6, 7, 8, 9, 10, 11, 12, 13, 14, 15, 16, 17, 18, 19, 21] a a' → Fr (oneB g) w w' → Bk w' g 28 (cfgC (cfgG q0)) → K .normal a' w') :
    (regionOf Tryz.f6 10).wp Tryz.prog K a w := by
  refine rgE hK (kwF_of hs) fun HK => ?_; clear hK hs
  simp only [kwF, h1]
  have c_ := hB.cell 12
  have hfz := hB.free 12
  go_wp2_with fail
  exact HK.out _ _ ⟨rfl, rfl⟩ kk  ((Fr.refl (oneB g) w).setCell (p := ⟨g, 12, none⟩) (fun _ => rfl) (.int .i64 1)) (hB.set 12 (.int .i64 1))
theorem kwR11 (c : CfgI) (g : Nat) (a : Act) (w : World) (K : KT) (hs : Sz 255 a)
    (h1 : sl a 1 = .pointer (some ⟨g, 0, none⟩)) (hB : Bk w g 28 (cfgC c)) (hG : Glb w) (hok : c.Ok)
    (hK : ∀ a' w' L, Sz 255 a' → Kp [1, 2, 3, 4, 7, 8, 9, 10, 11, 12, 13, 14, 15, 16, 17, 18, 19, 21] a a' → sl a' 5 = .pointer (some ⟨L.p, 0, none⟩) → sl a' 6 = .int .i64 0 → BootAt w' L (stNew c) → (∀ b, own' L b → w.heap.size ≤ b) → Fr noB w w' → K .normal a' w') :
    (regionOf Tryz.f6 11).wp Tryz.prog K a w := by
  refine rgE hK (kwF_of hs) fun HK => ?_; clear hK hs
  simp only [kwF, h1]
  have hu := Tryz.underlying28
  have hi : (Tryz.prog.info? 28).map (·.size) = some (cfgC c).size := cfgInfo
  go_wp2_with (first | (refine wpList_load_row rfl 28 (.tmp 1) rfl g rfl 28 (cfgC c) (0, 0) _ hB hu rfl hi ?_) | (go_at_call 12; refine (bootNewL c _ hG).mono ?_; rintro e w4 hp; obtain ⟨L, rfl, hB1, ho1, hf1⟩ := hp.1 hok))
  exact HK.out _ _ L ⟨rfl, rfl⟩ kk (rfl) (rfl) hB1 ho1 hf1
attribute [-go_sem] run_eql_struct run_neq_struct run_equalIn_agg in
theorem kwR12 (w0 : World) (p : Nat) (s : St) (a : Act) (w : World) (K : KT) (hs : Sz 255 a)
    (h5 : sl a 5 = .pointer (some ⟨p, 0, none⟩)) (h6 : sl a 6 = .int .i64 0) (h : MSt w0 p s w) (hv : lookV s = .agg #[.int .i64 0, .int .i64 0, .int .i64 0, .int .u32 0, .int .i64 0, .int .i64 0, .int .i64 0, .int .i64 0])
    (hK : ∀ a' w', Sz 255 a' → Kp [1, 2, 3, 4, 5, 6, 7, 8, 9, 10, 11, 12, 13, 14, 15, 16, 17, 18, 19, 21] a a' → sl a' 55 = .bool false → MSt w0 p s w' → K .normal a' w') :
    (regionOf Tryz.f6 12).wp Tryz.prog K a w := by
  refine rgE hK (kwF_of hs) fun HK => ?_; clear hK hs
  simp only [kwF, h5, h6]
  have hE : ∀ w, (binOp .neq 40 (.agg #[.int .i64 0, .int .i64 0, .int .i64 0, .int .u32 0, .int .i64 0, .int .i64 0, .int .i64 0, .int .i64 0]) (.agg #[.int .i64 0, .int .i64 0, .int .i64 0, .int .u32 0, .int .i64 0, .int .i64 0, .int .i64 0, .int .i64 0])).run Tryz.prog w = .ok (.bool false) w := fun w => neq_self w (by kernel_rfl)
  have hGd : Tryz.prog.eqGuardType Tryz.prog.depth 40 = false := by kernel_rfl
  have Hv := Lib.hid hv
  clear hv
  go_wp2_with fail
  refine (keepLookE Hv.out h).mono ?_
  rintro e w1 ⟨rfl, h1⟩
  go_wp2_with fail
  exact HK.out _ _ ⟨rfl, rfl⟩ kk (rfl) h1
theorem kwR14 (w0 : World) (p : Nat) (s : St) (a : Act) (w : World) (K : KT) (hs : Sz 255 a)
    (h5 : sl a 5 = .pointer (some ⟨p, 0, none⟩)) (h : MSt w0 p s w) (ht : s.take = (s, none))
    (hK : ∀ a' w', Sz 255 a' → Kp [1, 2, 3, 4, 5, 6, 9, 10, 11, 12, 13, 14, 15, 16, 17, 18, 19, 21] a a' → sl a' 8 = .bool false → MSt w0 p s w' → K .normal a' w') :
    (regionOf Tryz.f6 14).wp Tryz.prog K a w := by
  refine rgE hK (kwF_of hs) fun HK => ?_; clear hK hs
  simp only [kwF, h5]
  have Ht := Lib.hid ht
  clear ht
  go_wp2_with fail
  refine (keepTakeE Ht.out h).mono ?_
  rintro e w1 ⟨rfl, h1⟩
  go_wp2_with fail
  exact HK.out _ _ ⟨rfl, rfl⟩ kk (rfl) h1
theorem kwR15 (w0 : World) (p : Nat) (s : St) (s1 s2 s3 s4 : St) (a : Act) (w : World) (K : KT) (hs : Sz 255 a)
    (h5 : sl a 5 = .pointer (some ⟨p, 0, none⟩)) (h8 : sl a 8 = .bool false) (h : MSt w0 p s w) (p1 : s.put [120] = (s1, true)) (p2 : s1.put [] = (s2, true)) (p3 : s2.put [121] = (s2, false)) (p4 : pollG (fun t _ => t) 1 s2 0 = (s3, 1)) (b4 : BadRx s2) (p5 : s3.put [122] = (s4, true)) (p6 : s4.put [] = (s4, false)) (p7 : pollG (fun t _ => t) 9 s4 0 = (s, 2)) (b7 : BadRx s4) (p8 : pollG (fun t _ => t) 9 s 0 = (s, 0)) (b8 : BadRx s) (p9 : pollG (fun t _ => t) (-1 : Int).toNat s 0 = (s, 0))
    (hK : ∀ a' w', Sz 255 a' → Kp [1, 2, 3, 4, 5, 6, 7, 8, 9, 10, 11, 12, 13, 14, 15, 16, 17, 18, 19, 21] a a' → sl a' 104 = .bool false → MSt w0 p s w' → K .normal a' w') :
    (regionOf Tryz.f6 15).wp Tryz.prog K a w := by
  refine rgE hK (kwF_of hs) fun HK => ?_; clear hK hs
  simp only [kwF, h5, h8]
  have P1 := Lib.hid p1
  clear p1
  have P2 := Lib.hid p2
  clear p2
  have P3 := Lib.hid p3
  clear p3
  have P4 := Lib.hid p4
  clear p4
  have P5 := Lib.hid p5
  clear p5
  have P6 := Lib.hid p6
  clear p6
  have P7 := Lib.hid p7
  clear p7
  have P8 := Lib.hid p8
  clear p8
  have P9 := Lib.hid p9
  clear p9
  have B4 := Lib.hid b4
  clear b4
  have B7 := Lib.hid b7
  clear b7
  have B8 := Lib.hid b8
  clear b8
  go_wp2_with fail
  refine (keepPutE P1.out h).mono ?_
  rintro e w1 ⟨rfl, h1⟩
  go_wp2_with fail
  refine (keepPutE P2.out h1).mono ?_
  rintro e w2 ⟨rfl, h2⟩
  go_wp2_with fail
  refine (keepPutE P3.out h2).mono ?_
  rintro e w3 ⟨rfl, h3⟩
  go_wp2_with fail
  refine (keepPollE (n := 1) P4.out h3 (by decide) B4.out).mono ?_
  rintro e w4 ⟨rfl, h4⟩
  go_wp2_with fail
  refine (keepPutE P5.out h4).mono ?_
  rintro e w5 ⟨rfl, h5⟩
  go_wp2_with fail
  refine (keepPutE P6.out h5).mono ?_
  rintro e w6 ⟨rfl, h6⟩
  go_wp2_with fail
  refine (keepPollE (n := 9) P7.out h6 (by decide) B7.out).mono ?_
  rintro e w7 ⟨rfl, h7⟩
  go_wp2_with fail
  refine (keepPollE (n := 9) P8.out h7 (by decide) B8.out).mono ?_
  rintro e w8 ⟨rfl, h8⟩
  go_wp2_with fail
  refine (keepPollE (n := -1) P9.out h8 (by decide) B8.out).mono ?_
  rintro e w9 ⟨rfl, h9⟩
  go_wp2_with fail
  exact HK.out _ _ ⟨rfl, rfl⟩ kk (rfl) h9
theorem kwR17 (w0 : World) (p : Nat) (s : St) (a : Act) (w : World) (K : KT) (hs : Sz 255 a)
    (h5 : sl a 5 = .pointer (some ⟨p, 0, none⟩)) (h : MSt w0 p s w) (hq : Quiet s) (hn : s.now < 4611686018427387904)
    (hK : ∀ a' w', Sz 255 a' → Kp [1, 2, 3, 4, 5, 6, 7, 8, 9, 10, 11, 12, 13, 14, 15, 16, 17, 18, 19, 21] a a' → MSt w0 p (s.tick 16909060) w' → K .normal a' w') :
    (regionOf Tryz.f6 17).wp Tryz.prog K a w := by
  refine rgE hK (kwF_of hs) fun HK => ?_; clear hK hs
  simp only [kwF, h5]
  go_wp2_with fail
  refine (keepTickQ 16909060 h hq hn (by decide)).mono ?_
  rintro e w1 ⟨rfl, h1⟩
  go_wp2_with fail
  exact HK.out _ _ ⟨rfl, rfl⟩ kk  h1
theorem kwR18 (w0 : World) (p : Nat) (s : St) (a : Act) (w : World) (K : KT) (hs : Sz 255 a)
    (h5 : sl a 5 = .pointer (some ⟨p, 0, none⟩)) (h : MSt w0 p s w) (hq : Quiet s) (hn : s.now < 4611686018427387904)
    (hK : ∀ a' w', Sz 255 a' → Kp [1, 2, 3, 4, 5, 6, 7, 8, 9, 10, 11, 12, 13, 14, 15, 16, 17, 18, 19, 21] a a' → MSt w0 p (s.tick 4) w' → K .normal a' w') :
    (regionOf Tryz.f6 18).wp Tryz.prog K a w := by
  refine rgE hK (kwF_of hs) fun HK => ?_; clear hK hs
  simp only [kwF, h5]
  go_wp2_with fail
  refine (keepTickQ 4 h hq hn (by decide)).mono ?_
  rintro e w1 ⟨rfl, h1⟩
  go_wp2_with fail
  exact HK.out _ _ ⟨rfl, rfl⟩ kk  h1
theorem kwR21 (w0 : World) (p : Nat) (s : St) (a : Act) (w : World) (K : KT) (hs : Sz 255 a)
    (h5 : sl a 5 = .pointer (some ⟨p, 0, none⟩)) (h : MSt w0 p s w) (hq : Quiet s) (hn : s.now < 4611686018427387904)
    (hK : ∀ a' w', Sz 255 a' → Kp [1, 2, 3, 4, 5, 6, 7, 8, 9, 10, 11, 12, 13, 14, 15, 16, 17, 18, 19, 21] a a' → MSt w0 p (s.tick 4) w' → K .normal a' w') :
    (regionOf Tryz.f6 21).wp Tryz.prog K a w := by
  refine rgE hK (kwF_of hs) fun HK => ?_; clear hK hs
  simp only [kwF, h5]
  go_wp2_with fail
  refine (keepTickQ 4 h hq hn (by decide)).mono ?_
  rintro e w1 ⟨rfl, h1⟩
  go_wp2_with fail
  exact HK.out _ _ ⟨rfl, rfl⟩ kk  h1
attribute [-go_sem] run_eql_struct run_neq_struct run_equalIn_agg in
theorem kwR19 (w0 : World) (p : Nat) (s : St) (a : Act) (w : World) (K : KT) (hs : Sz 255 a)
    (h5 : sl a 5 = .pointer (some ⟨p, 0, none⟩)) (h : MSt w0 p s w) (hv : lookV s = .agg #[.int .i64 2, .int .i64 1, .int .i64 0, .int .u32 0, .int .i64 0, .int .i64 0, .int .i64 0, .int .i64 0])
    (hK : ∀ a' w', Sz 255 a' → Kp [1, 2, 3, 4, 5, 6, 7, 8, 9, 10, 11, 12, 13, 14, 15, 16, 17, 18, 19, 21] a a' → sl a' 112 = .bool false → MSt w0 p s w' → K .normal a' w') :
    (regionOf Tryz.f6 19).wp Tryz.prog K a w := by
  refine rgE hK (kwF_of hs) fun HK => ?_; clear hK hs
  simp only [kwF, h5]
  have hE : ∀ w, (binOp .neq 40 (.agg #[.int .i64 2, .int .i64 1, .int .i64 0, .int .u32 0, .int .i64 0, .int .i64 0, .int .i64 0, .int .i64 0]) (.agg #[.int .i64 2, .int .i64 1, .int .i64 0, .int .u32 0, .int .i64 0, .int .i64 0, .int .i64 0, .int .i64 0])).run Tryz.prog w = .ok (.bool false) w := fun w => neq_self w (by kernel_rfl)
  have hGd : Tryz.prog.eqGuardType Tryz.prog.depth 40 = false := by kernel_rfl
  have Hv := Lib.hid hv
  clear hv
  go_wp2_with fail
  refine (keepLookE Hv.out h).mono ?_
  rintro e w1 ⟨rfl, h1⟩
  go_wp2_with fail
  exact HK.out _ _ ⟨rfl, rfl⟩ kk (rfl) h1
theorem kwR22 (w0 : World) (p : Nat) (s : St) (s1 : St) (f : List UInt8) (a : Act) (w : World) (K : KT) (hs : Sz 255 a)
    (h5 : sl a 5 = .pointer (some ⟨p, 0, none⟩)) (h : MSt w0 p s w) (ht : s.take = (s1, some f))
    (hK : ∀ a' w', Sz 255 a' → Kp [1, 2, 3, 4, 5, 6, 7, 8, 11, 12, 13, 14, 15, 16, 17, 18, 19, 21] a a' → sl a' 9 = .string (bs f) → sl a' 10 = .bool true → MSt w0 p s1 w' → K .normal a' w') :
    (regionOf Tryz.f6 22).wp Tryz.prog K a w := by
  refine rgE hK (kwF_of hs) fun HK => ?_; clear hK hs
  simp only [kwF, h5]
  have Ht := Lib.hid ht
  clear ht
  go_wp2_with fail
  refine (keepTakeE Ht.out h).mono ?_
  rintro e w1 ⟨rfl, h1⟩
  go_wp2_with fail
  exact HK.out _ _ ⟨rfl, rfl⟩ kk (rfl) (rfl) h1
theorem kwR23 (w0 : World) (p : Nat) (s : St) (a : Act) (w : World) (K : KT) (hs : Sz 255 a)
    (h5 : sl a 5 = .pointer (some ⟨p, 0, none⟩)) (h : MSt w0 p s w) (ht : s.take = (s, none))
    (hK : ∀ a' w', Sz 255 a' → Kp [1, 2, 3, 4, 5, 6, 7, 8, 9, 10, 13, 14, 15, 16, 17, 18, 19, 21] a a' → sl a' 12 = .bool false → MSt w0 p s w' → K .normal a' w') :
    (regionOf Tryz.f6 23).wp Tryz.prog K a w := by
  refine rgE hK (kwF_of hs) fun HK => ?_; clear hK hs
  simp only [kwF, h5]
  have Ht := Lib.hid ht
  clear ht
  go_wp2_with fail
  refine (keepTakeE Ht.out h).mono ?_
  rintro e w1 ⟨rfl, h1⟩
  go_wp2_with fail
  exact HK.out _ _ ⟨rfl, rfl⟩ kk (rfl) h1
theorem kwR24 (w0 : World) (p : Nat) (s : St) (n0 n1 n2 n3 n4 n5 n7 : Int) (a : Act) (w : World) (K : KT) (hs : Sz 255 a)
    (h5 : sl a 5 = .pointer (some ⟨p, 0, none⟩)) (h10 : sl a 10 = .bool true) (h12 : sl a 12 = .bool false) (h : MSt w0 p s w) (hv : lookV s = .agg #[.int .i64 n0, .int .i64 n1, .int .i64 n2, .int .u32 n3, .int .i64 n4, .int .i64 n5, .int .i64 1, .int .i64 n7])
    (hK : ∀ a' w', Sz 255 a' → Kp [1, 2, 3, 4, 5, 6, 7, 8, 9, 10, 11, 12, 13, 14, 15, 16, 17, 18, 19, 21] a a' → sl a' 135 = .bool false → MSt w0 p s w' → K .normal a' w') :
    (regionOf Tryz.f6 24).wp Tryz.prog K a w := by
  refine rgE hK (kwF_of hs) fun HK => ?_; clear hK hs
  simp only [kwF, h5, h10, h12]
  have hfd : ∀ w : World, (Instr.field 40 (.agg #[.int .i64 n0, .int .i64 n1, .int .i64 n2, .int .u32 n3, .int .i64 n4, .int .i64 n5, .int .i64 1, .int .i64 n7]) 6).run Tryz.prog w = .ok (.int .i64 1) w := fun _ => by kernel_rfl
  have Hv := Lib.hid hv
  clear hv
  go_wp2_with fail
  refine (keepLookE Hv.out h).mono ?_
  rintro e w1 ⟨rfl, h1⟩
  go_wp2_with fail
  exact HK.out _ _ ⟨rfl, rfl⟩ kk (rfl) h1
theorem kwR26 (ld : List UInt8) (a : Act) (w : World) (K : KT) (hs : Sz 255 a)
    (h9 : sl a 9 = .string (bs ld)) (hld : ld.length ≤ 9223372036854775807)
    (hK : ∀ a' w' g, Sz 255 a' → Kp [1, 2, 3, 4, 5, 7, 8, 9, 10, 11, 12, 14, 15, 16, 17, 18, 19, 21] a a' → sl a' 13 = .pointer (some ⟨g, 0, none⟩) → sl a' 6 = .int .i64 ((readEther ld).2 : Int) → Fr noB w w' → Bk w' g 49 (ethC (readEther ld).1) → K .normal a' w') :
    (regionOf Tryz.f6 26).wp Tryz.prog K a w := by
  refine rgE hK (kwF_of hs) fun HK => ?_; clear hK hs
  simp only [kwF, h9]
  go_wp2_with fail
  refine (bootReadEther ld _ hld).mono ?_
  rintro e w2 ⟨rfl, hf1⟩
  have hsz := Lib.hid (ethC_size (readEther ld).1)
  have hin := Lib.hid (eth_info (readEther ld).1)
  have hon := Lib.hid (ethC_one (readEther ld).1)
  generalize hr : (readEther ld) = r at *
  clear hr
  generalize hc : ethC r.1 = c at *
  clear hc
  have hx0 := Bk.new w2 49 zcEth
  go_wp2_with ((refine wpList_store_bk rfl 49 (.tmp 13) (.tmp 139) rfl w2.heap.size _ zcEth c rfl rfl hx0 hsz.out hin.out hon.out ?_); intro w9 hx9 hf9)
  exact HK.out _ _ w2.heap.size ⟨rfl, rfl⟩ kk (rfl) (rfl) ((hf1.alloc _).trans' hf9 (fun b hb e => by have e' : b = w2.heap.size := e; have := hf1.size; omega)) hx9
theorem kwR27 (x : EthD) (q : Nat) (a : Act) (w : World) (K : KT) (hs : Sz 255 a)
    (h13 : sl a 13 = .pointer (some ⟨q, 0, none⟩)) (hE : Bk w q 49 (ethC x)) (hl : x.by'.length ≤ 9223372036854775807)
    (hK : ∀ a' w' g, Sz 255 a' → Kp [1, 2, 3, 4, 5, 6, 7, 8, 9, 10, 11, 12, 13, 16, 17, 18, 19, 21] a a' → sl a' 14 = .pointer (some ⟨g, 0, none⟩) → sl a' 15 = .int .i64 ((readIP x.by').2 : Int) → Fr noB w w' → Bk w' g 53 (ipC (readIP x.by').1) → K .normal a' w') :
    (regionOf Tryz.f6 27).wp Tryz.prog K a w := by
  refine rgE hK (kwF_of hs) fun HK => ?_; clear hK hs
  simp only [kwF, h13]
  have hEc := hE.cells
  unfold ethC at hEc
  go_wp2_with fail
  refine (bootReadIP x.by' _ hl).mono ?_
  rintro e w2 ⟨rfl, hf1⟩
  have hsz := Lib.hid (ipC_size (readIP x.by').1)
  have hin := Lib.hid (ip_info (readIP x.by').1)
  have hon := Lib.hid (ipC_one (readIP x.by').1)
  generalize hr : (readIP x.by') = r at *
  clear hr
  generalize hc : ipC r.1 = c at *
  clear hc
  have hx0 := Bk.new w2 53 zcIp4
  go_wp2_with ((refine wpList_store_bk rfl 53 (.tmp 14) (.tmp 145) rfl w2.heap.size _ zcIp4 c rfl rfl hx0 hsz.out hin.out hon.out ?_); intro w9 hx9 hf9)
  exact HK.out _ _ w2.heap.size ⟨rfl, rfl⟩ kk (rfl) (rfl) ((hf1.alloc _).trans' hf9 (fun b hb e => by have e' : b = w2.heap.size := e; have := hf1.size; omega)) hx9
theorem kwR28 (x : IpD) (q : Nat) (a : Act) (w : World) (K : KT) (hs : Sz 255 a)
    (h14 : sl a 14 = .pointer (some ⟨q, 0, none⟩)) (hE : Bk w q 53 (ipC x)) (hfi : x.fm < 4294967296) (hti : x.«to» < 4294967296) (hl : x.by'.length ≤ 9223372036854775807)
    (hK : ∀ a' w' g, Sz 255 a' → Kp [1, 2, 3, 4, 5, 6, 7, 8, 9, 10, 11, 12, 13, 14, 15, 18, 19, 21] a a' → sl a' 16 = .pointer (some ⟨g, 0, none⟩) → sl a' 17 = .int .i64 ((readUDP x.by' x.fm x.«to»).2 : Int) → Fr noB w w' → Bk w' g 57 (udpC (readUDP x.by' x.fm x.«to»).1) → K .normal a' w') :
    (regionOf Tryz.f6 28).wp Tryz.prog K a w := by
  refine rgE hK (kwF_of hs) fun HK => ?_; clear hK hs
  simp only [kwF, h14]
  have hEc := hE.cells
  unfold ipC at hEc
  go_wp2_with fail
  refine (bootReadUDP x.by' x.fm x.«to» _ hfi hti hl).mono ?_
  rintro e w2 ⟨rfl, hf1⟩
  have hsz := Lib.hid (udpC_size (readUDP x.by' x.fm x.«to»).1)
  have hin := Lib.hid (udp_info (readUDP x.by' x.fm x.«to»).1)
  have hon := Lib.hid (udpC_one (readUDP x.by' x.fm x.«to»).1)
  generalize hr : (readUDP x.by' x.fm x.«to») = r at *
  clear hr
  generalize hc : udpC r.1 = c at *
  clear hc
  have hx0 := Bk.new w2 57 zcUdp
  go_wp2_with ((refine wpList_store_bk rfl 57 (.tmp 16) (.tmp 155) rfl w2.heap.size _ zcUdp c rfl rfl hx0 hsz.out hin.out hon.out ?_); intro w9 hx9 hf9)
  exact HK.out _ _ w2.heap.size ⟨rfl, rfl⟩ kk (rfl) (rfl) ((hf1.alloc _).trans' hf9 (fun b hb e => by have e' : b = w2.heap.size := e; have := hf1.size; omega)) hx9
theorem kwR29 (x : UdpD) (q : Nat) (a : Act) (w : World) (K : KT) (hs : Sz 255 a)
    (h16 : sl a 16 = .pointer (some ⟨q, 0, none⟩)) (hE : Bk w q 57 (udpC x)) (hl : x.ld.length ≤ 1048576)
    (hK : ∀ a' w' A cap g, Sz 255 a' → Kp [1, 2, 3, 4, 5, 6, 7, 8, 9, 10, 11, 12, 13, 14, 15, 16, 17, 21] a a' → sl a' 18 = .pointer (some ⟨g, 0, none⟩) → sl a' 19 = .int .i64 ((readDHCP x.ld).2 : Int) → Fr noB w w' → Bk w' g 62 (dhcC (readDHCP x.ld).1 A cap) → SlR w' (fun k => k < w.heap.size) 2 A (readDHCP x.ld).1.os.length (optC (readDHCP x.ld).1.os) → K .normal a' w') :
    (regionOf Tryz.f6 29).wp Tryz.prog K a w := by
  refine rgE hK (kwF_of hs) fun HK => ?_; clear hK hs
  simp only [kwF, h16]
  have hEc := hE.cells
  unfold udpC at hEc
  go_wp2_with fail
  refine (bootReadDHCP x.ld _ (by omega)).mono ?_
  rintro e w2 ⟨⟨A, cap, rfl, hSl⟩, hf1⟩
  have hsz := Lib.hid (dhcC_size (readDHCP x.ld).1 A cap)
  have hin := Lib.hid (dhc_info (readDHCP x.ld).1 A cap)
  have hon := Lib.hid (dhcC_one (readDHCP x.ld).1 A cap)
  generalize hr : readDHCP x.ld = r at *
  have Hr := Lib.hid hr
  clear hr
  generalize hc : dhcC r.1 A cap = c at *
  have Hc := Lib.hid hc
  clear hc
  have hx0 := Bk.new w2 62 zcDhc
  go_wp2_with ((refine wpList_store_bk rfl 62 (.tmp 18) (.tmp 161) rfl w2.heap.size _ zcDhc c rfl rfl hx0 hsz.out hin.out hon.out ?_); intro w9 hx9 hf9)
  have hf10 : Fr noB w w9 := ((hf1.alloc _).trans' hf9 (fun b hb e => by have e' : b = w2.heap.size := e; have := hf1.size; omega))
  exact HK.out _ _ A cap w2.heap.size ⟨rfl, rfl⟩ kk (rfl) (rfl) hf10 (by rw [← Hc.out] at hx9; exact hx9) ((hSl.keep ((show Fr noB w2 w9 from ((Fr.refl noB w2).alloc _).trans' hf9 (fun b hb e => by have e' : b = w2.heap.size := e; omega)).of_no _)))
attribute [-go_sem] run_eql_struct run_neq_struct run_equalIn_agg in
theorem kwR30 (g1 g2 g3 : Nat) (x1 x2 x3 x4 x5 : Value) (a : Act) (w : World) (K : KT) (hs : Sz 255 a)
    (h6 : sl a 6 = .int .i64 0) (h15 : sl a 15 = .int .i64 0) (h17 : sl a 17 = .int .i64 0) (h19 : sl a 19 = .int .i64 0) (h13 : sl a 13 = .pointer (some ⟨g1, 0, none⟩)) (h14 : sl a 14 = .pointer (some ⟨g2, 0, none⟩)) (h16 : sl a 16 = .pointer (some ⟨g3, 0, none⟩)) (hE : Bk w g1 49 #[.int .u8 255, .int .u8 255, .int .u8 255, .int .u8 255, .int .u8 255, .int .u8 255, .int .u8 2, .int .u8 0, .int .u8 0, .int .u8 0, .int .u8 0, .int .u8 42, x1, x2]) (hI : Bk w g2 53 #[.int .u16 0, .int .u8 64, x3, .int .u32 0, .int .u32 4294967295, x4]) (hU : Bk w g3 57 #[.int .u16 68, .int .u16 67, x5]) (hC : CardG cardK w)
    (hK : ∀ a' w', Sz 255 a' → Kp [1, 2, 3, 4, 5, 6, 7, 8, 9, 10, 11, 12, 13, 14, 15, 16, 17, 18, 19, 21] a a' → sl a' 218 = .bool false → w' = w → K .normal a' w') :
    (regionOf Tryz.f6 30).wp Tryz.prog K a w := by
  refine rgE hK (kwF_of hs) fun HK => ?_; clear hK hs
  simp only [kwF, h6, h15, h17, h19, h13, h14, h16]
  have hE1 : ∀ w, (binOp .neq 26 (.agg #[.int .u8 255, .int .u8 255, .int .u8 255, .int .u8 255, .int .u8 255, .int .u8 255]) (.agg #[.int .u8 255, .int .u8 255, .int .u8 255, .int .u8 255, .int .u8 255, .int .u8 255])).run Tryz.prog w = .ok (.bool false) w := fun w => neq_self w (by kernel_rfl)
  have hE2 : ∀ w, (binOp .neq 26 (.agg #[.int .u8 2, .int .u8 0, .int .u8 0, .int .u8 0, .int .u8 0, .int .u8 42]) (.agg #[.int .u8 2, .int .u8 0, .int .u8 0, .int .u8 0, .int .u8 0, .int .u8 42])).run Tryz.prog w = .ok (.bool false) w := fun w => neq_self w (by kernel_rfl)
  have hE3 : ∀ w, (binOp .eql 26 (.agg #[.int .u8 2, .int .u8 0, .int .u8 0, .int .u8 0, .int .u8 0, .int .u8 42]) (.agg #[.int .u8 2, .int .u8 0, .int .u8 0, .int .u8 0, .int .u8 0, .int .u8 42])).run Tryz.prog w = .ok (.bool true) w := fun w => eql_self w (by kernel_rfl)
  have hGd := mac_guard
  have hEc := hE.cells
  have hIc := hI.cells
  have hUc := hU.cells
  have q0 : w.cell? ⟨0, 0, none⟩ = some (.int .u8 2) := hC.2 0 _ rfl
  have q1 : w.cell? ⟨0, 1, none⟩ = some (.int .u8 0) := hC.2 1 _ rfl
  have q2 : w.cell? ⟨0, 2, none⟩ = some (.int .u8 0) := hC.2 2 _ rfl
  have q3 : w.cell? ⟨0, 3, none⟩ = some (.int .u8 0) := hC.2 3 _ rfl
  have q4 : w.cell? ⟨0, 4, none⟩ = some (.int .u8 0) := hC.2 4 _ rfl
  have q5 : w.cell? ⟨0, 5, none⟩ = some (.int .u8 42) := hC.2 5 _ rfl
  go_wp2_with fail
  exact HK.out _ _ ⟨rfl, rfl⟩ kk (rfl) rfl
attribute [-go_sem] run_eql_struct run_neq_struct run_equalIn_agg in
theorem kwR32 (g ga fo cap : Nat) (sp : Option Nat) (x1 x2 x3 : Value) (a : Act) (w : World) (K : KT) (hs : Sz 255 a)
    (h18 : sl a 18 = .pointer (some ⟨g, 0, none⟩)) (hD : Bk w g 62 #[.bool false, .int .u32 16909060, x1, x2, x3, .int .u8 2, .int .u8 0, .int .u8 0, .int .u8 0, .int .u8 0, .int .u8 42, .slice (some ⟨ga, fo, sp⟩) 2 cap]) (hC : CardG cardK w) (h0_ : w.cell? ⟨ga, fo, sp⟩ = some (.int .u8 53)) (h1_ : w.cell? ⟨ga, fo + 1, none⟩ = some (.string ⟨#[1]⟩)) (h2_ : w.cell? ⟨ga, fo + 2, none⟩ = some (.int .u8 55)) (h3_ : w.cell? ⟨ga, fo + 3, none⟩ = some (.string ⟨#[1, 3, 51, 54, 58, 59]⟩))
    (hK : ∀ a' w', Sz 255 a' → Kp [1, 2, 3, 4, 5, 6, 7, 8, 9, 10, 11, 12, 13, 14, 15, 16, 17, 18, 19, 21] a a' → sl a' 0 = .bool true → w' = w → K .normal a' w') :
    (regionOf Tryz.f6 32).wp Tryz.prog K a w := by
  refine rgE hK (kwF_of hs) fun HK => ?_; clear hK hs
  simp only [kwF, h18]
  have hE1 : ∀ w, (binOp .neq 26 (.agg #[.int .u8 255, .int .u8 255, .int .u8 255, .int .u8 255, .int .u8 255, .int .u8 255]) (.agg #[.int .u8 255, .int .u8 255, .int .u8 255, .int .u8 255, .int .u8 255, .int .u8 255])).run Tryz.prog w = .ok (.bool false) w := fun w => neq_self w (by kernel_rfl)
  have hE2 : ∀ w, (binOp .neq 26 (.agg #[.int .u8 2, .int .u8 0, .int .u8 0, .int .u8 0, .int .u8 0, .int .u8 42]) (.agg #[.int .u8 2, .int .u8 0, .int .u8 0, .int .u8 0, .int .u8 0, .int .u8 42])).run Tryz.prog w = .ok (.bool false) w := fun w => neq_self w (by kernel_rfl)
  have hE3 : ∀ w, (binOp .eql 26 (.agg #[.int .u8 2, .int .u8 0, .int .u8 0, .int .u8 0, .int .u8 0, .int .u8 42]) (.agg #[.int .u8 2, .int .u8 0, .int .u8 0, .int .u8 0, .int .u8 0, .int .u8 42])).run Tryz.prog w = .ok (.bool true) w := fun w => eql_self w (by kernel_rfl)
  have hGd := mac_guard
  have hO1 : ∀ w, (binOp .eql 66 (.agg #[.int .u8 53, .string ⟨#[1]⟩]) (.agg #[.int .u8 53, .string ⟨#[1]⟩])).run Tryz.prog w = .ok (.bool true) w := fun w => eql_self w (by kernel_rfl)
  have hO2 : ∀ w, (binOp .eql 66 (.agg #[.int .u8 55, .string ⟨#[1, 3, 51, 54, 58, 59]⟩]) (.agg #[.int .u8 55, .string ⟨#[1, 3, 51, 54, 58, 59]⟩])).run Tryz.prog w = .ok (.bool true) w := fun w => eql_self w (by kernel_rfl)
  have hGo : Tryz.prog.eqGuardType Tryz.prog.depth 66 = false := by kernel_rfl
  have hDc := hD.cells
  have q0 : w.cell? ⟨0, 0, none⟩ = some (.int .u8 2) := hC.2 0 _ rfl
  have q1 : w.cell? ⟨0, 1, none⟩ = some (.int .u8 0) := hC.2 1 _ rfl
  have q2 : w.cell? ⟨0, 2, none⟩ = some (.int .u8 0) := hC.2 2 _ rfl
  have q3 : w.cell? ⟨0, 3, none⟩ = some (.int .u8 0) := hC.2 3 _ rfl
  have q4 : w.cell? ⟨0, 4, none⟩ = some (.int .u8 0) := hC.2 4 _ rfl
  have q5 : w.cell? ⟨0, 5, none⟩ = some (.int .u8 42) := hC.2 5 _ rfl
  go_wp2_with fail
  exact HK.out _ _ ⟨rfl, rfl⟩ kk (rfl) rfl
end Go.Proofs.YtcbkaiakdhiloacGreatDoor
set_option maxRecDepth 20000
namespace Go.Proofs.YtcbkaiakdhiloacGreatDoor
open Go.RowKit Go.Proofs
attribute [local go_sem] bs_size bs_append bs_extract bs_toList
theorem bad1 : (readEther [120]).2 ≠ 0 := by decide
theorem bad0 : (readEther []).2 ≠ 0 := by decide
theorem bad2 : (readEther [122]).2 ≠ 0 := by decide
theorem badRx_of {s : St} (l : List (List UInt8)) (hl : s.rx = l) (h : ∀ f ∈ l, f = [120] ∨ f = [] ∨ f = [122]) : BadRx s := fun f hf => by
  rw [hl] at hf
  rcases h f hf with rfl | rfl | rfl
  · exact ⟨bad1, by decide⟩
  · exact ⟨bad0, by decide⟩
  · exact ⟨bad2, by decide⟩
theorem optC_k : optC [⟨53, [1]⟩, ⟨55, [1, 3, 51, 54, 58, 59]⟩] = [.int .u8 53, .string ⟨#[1]⟩, .int .u8 55, .string ⟨#[1, 3, 51, 54, 58, 59]⟩] := by rfl
theorem knownFn (w : World) (hC : CardG cardK w) (hG : Glb w) : Calls Tryz.prog 6 #[] w fun e w' => e = .returned (.bool true) ∧ Fr noB w w' := by
  go_enter Tryz.func6, Tryz.ntmps6
  refine wp_seq ?_
  refine kwR0 _ w _ ⟨rfl, rfl⟩ ?_
  intro a0 w0 hs0 k0 _ hw; subst w0
  refine wp_seq ?_
  refine kwR1 a0 w _ hs0 hC hG ?_
  intro a1 w1 g hs1 k1 o1 f1 hB1 hg1
  have hC1 := hC.keep f1 (fun x => x)
  have hG1 := hG.keep f1 (fun _ _ x => x)
  refine wp_seq (wp_seq ?_)
  refine kwR2 a1 w1 _ hs1 ?_
  intro a2 w2 hs2 k2 o21 hw; subst w2
  have e1 := (k2 1 (by decide)).trans o1
  clear k0 k1 k2 o1
  refine wp_block ?_
  refine wp_loop_sz 255 (fun a' w' => ∃ k : Nat, k ≤ 16 ∧ sl a' 21 = .int .i64 (k : Int) ∧ sl a' 1 = .pointer (some ⟨g, 0, none⟩) ∧ Fr noB w1 w') (fun a' _ => 16 - (intOf (sl a' 21)).toNat)
    hs2 ⟨0, by omega, o21, e1, Fr.refl _ _⟩ ?_
  rintro b1 v1 hs1' ⟨k, hk, i21, e1, fv⟩
  refine wp_seq ?_
  refine kwR3 k b1 v1 _ hs1' i21 ?_
  intro b2 v2 hs2' j2 i22 hw; subst v2
  have i21' := (j2 21 (by decide)).trans i21
  have e1' := (j2 1 (by decide)).trans e1
  refine wp_seq ?_
  refine wp_if i22 (fun hb => ?_) (fun hb => ?_)
  · have hlt := of_decide_eq_true hb
    refine wp_skip ?_
    refine wp_seq (wp_block (wp_seq ?_))
    refine kwR4 k b2 v1 _ hs2' i21' ?_
    intro b3 v3 hs3 j3 i2 hw; subst v3
    refine wp_seq ?_
    refine kwR5 k b3 v1 _ hs3 i2 hlt (hC1.keep fv (fun x => x)) (hG1.keep fv (fun _ _ x => x)) ?_
    intro b4 v4 hs4 j4 i3 i4 f4
    refine wp_seq ?_
    refine kwR6 b4 v4 _ hs4 i3 i4 ?_
    intro b5 v5 hs5 j5 i35 hw; subst v5
    refine wp_if i35 (fun hb => by cases hb) (fun _ => wp_skip ?_)
    have i21' := (j5 21 (by decide)).trans ((j4 21 (by decide)).trans ((j3 21 (by decide)).trans i21'))
    have e1' := (j5 1 (by decide)).trans ((j4 1 (by decide)).trans ((j3 1 (by decide)).trans e1'))
    refine kwR8 k (k + 1) b5 v4 _ hs5 i21' ((IntWalk.i64_in _ (by omega)).trans (by omega)) ?_
    intro b6 v6 hs6 j6 i21n hw; subst v6
    refine ⟨hs6, ⟨k + 1, by omega, i21n, (j6 1 (by decide)).trans e1', fv.none f4⟩, ?_⟩
    rw [i21n, i21]; simp only [intOf]; omega
  refine wp_exit (then_exit (then_exit (inBlock_self ?_)))
  clear i22 hb i21 i21' e1
  have hB1 := hB1.keep fv (fun x => x)
  have hC1 := hC1.keep fv (fun x => x)
  have hG1 := hG1.keep fv (fun _ _ x => x)
  have f1 := f1.none fv
  clear fv
  refine wp_seq ?_
  refine kwR9 g b2 v1 _ hs2' e1' hB1 ?_
  intro a3 w3 hs3 k3 f3 hB3
  refine wp_seq ?_
  refine kwR10 g a3 w3 _ hs3 ((k3 1 (by decide)).trans e1') hB3 ?_
  intro a4 w4 hs4 k4 f4 hB4
  have hf4 : Fr noB w w4 := f1.trans' (f3.trans f4) (fun b hb hx => by have hx' : b = g := hx; omega)
  have hC4 := hC.keep hf4 (fun x => x)
  have hG4 := hG.keep hf4 (fun _ _ x => x)
  have e1 := (k4 1 (by decide)).trans ((k3 1 (by decide)).trans e1')
  clear f1 f3 f4 hB1 hB3 hC1 hG1 k3 k4 e1'
  refine wp_seq ?_
  refine kwR11 (cfgG q0) g a4 w4 _ hs4 e1 hB4 hG4 (cfgG_ok _ q0_len) ?_
  intro a5 w5 L hs5 k5 o5 o6 hB5 ho5 f5
  have hM : MSt w4 L.p (kS q0) w5 := ⟨L, rfl, hB5, ho5, f5⟩
  generalize L.p = p at *
  clear hB5 ho5 f5 k5 hB4 e1
  have fin : ∀ (a' : Act) (w' : World), Sz 255 a' → sl a' 0 = .bool true → Fr noB w w' → bodyPost Tryz.prog Tryz.f6 (fun e w' => e = .returned (.bool true) ∧ Fr noB w w') .ret a' w' := fun a' w' hs h0 hf => by
    refine bodyPost_ret (results_tmp rfl _ _ _) hs.defers ⟨?_, hf⟩
    rw [show a'.tmps.getD 0 undef = .bool true from h0]
  refine wp_seq (wp_seq ?_)
  refine kwR12 w4 p (kS q0) a5 w5 _ hs5 o5 o6 hM (by rfl) ?_
  intro a6 w6 hs6 k6 o hM6
  have o5 := (k6 5 (by decide)).trans o5
  refine wp_if o (fun hb => by cases hb) (fun _ => wp_skip ?_)
  refine wp_seq (wp_seq ?_)
  refine kwR14 w4 p (kS q0) a6 w6 _ hs6 o5 hM6 rfl ?_
  intro a7 w7 hs7 k7 o8 hM7
  have o5 := (k7 5 (by decide)).trans o5
  refine wp_seq ?_
  refine kwR15 w4 p (kS q0) { kS q0 with rx := [[120]] } { kS q0 with rx := [[120], []] } { kS q0 with rx := [[]] } { kS q0 with rx := [[], [122]] } a7 w7 _ hs7 o5 o8 hM7 (kn1 q0) (kn2 q0) (kn3 q0) (kn4 q0)
    (badRx_of [[120], []] rfl (by simp)) (kn5 q0) (kn6 q0) (kn7 q0) (badRx_of [[], [122]] rfl (by simp)) (kn8 q0) (badRx_of [] rfl (by simp)) (kn9 q0) ?_
  intro a8 w8 hs8 k8 o hM8
  have o5 := (k8 5 (by decide)).trans o5
  refine wp_if o (fun hb => by cases hb) (fun _ => wp_skip ?_)
  refine wp_seq ?_
  refine kwR17 w4 p (kS q0) a8 w8 _ hs8 o5 hM8 (kq0 q0) (by show (0 : Int) < _; decide) ?_
  intro a9 w9 hs9 k9 hM9
  have o5 := (k9 5 (by decide)).trans o5
  refine wp_seq ?_
  refine kwR18 w4 p (kT1 q0) a9 w9 _ hs9 o5 hM9 (kq1 q0) (by rw [kn20]; decide) ?_
  intro a10 w10 hs10 k10 hM10
  have o5 := (k10 5 (by decide)).trans o5
  refine wp_seq (wp_seq ?_)
  refine kwR19 w4 p (kT2 q0) a10 w10 _ hs10 o5 hM10 (kn21 q0) ?_
  intro a11 w11 hs11 k11 o hM11
  have o5 := (k11 5 (by decide)).trans o5
  refine wp_if o (fun hb => by cases hb) (fun _ => wp_skip ?_)
  refine wp_seq ?_
  refine kwR21 w4 p (kT2 q0) a11 w11 _ hs11 o5 hM11 (kq2 q0) (by rw [(kn10 q0).1]; decide) ?_
  intro a12 w12 hs12 k12 hM12
  have o5 := (k12 5 (by decide)).trans o5
  refine wp_seq ?_
  refine kwR22 w4 p (kT3 q0) { kT3 q0 with tx := [] } (kF q0) a12 w12 _ hs12 o5 hM12 (kn11 q0) ?_
  intro a13 w13 hs13 k13 o9 o10 hM13
  have o5 := (k13 5 (by decide)).trans o5
  refine wp_seq (wp_seq ?_)
  refine kwR23 w4 p _ a13 w13 _ hs13 o5 hM13 (kn12 q0) ?_
  intro a14 w14 hs14 k14 o12 hM14
  have o5 := (k14 5 (by decide)).trans o5
  have o9 := (k14 9 (by decide)).trans o9
  have o10 := (k14 10 (by decide)).trans o10
  refine wp_seq ?_
  refine kwR24 w4 p _ _ _ _ _ _ _ _ a14 w14 _ hs14 o5 o10 o12 hM14 (kn22 q0) ?_
  intro a15 w15 hs15 k15 o hM15
  have o9 := (k15 9 (by decide)).trans o9
  refine wp_if o (fun hb => by cases hb) (fun _ => wp_skip ?_)
  have hf15 := hf4.none hM15.fr
  have hC15 := hC.keep hf15 (fun x => x)
  clear hM hM6 hM7 hM8 hM9 hM10 hM11 hM12 hM13 hM14 hM15 hC4 hG4
  have hE0 := kn15 q0
  have hI0 := kn16 q0
  have hU0 := kn17 q0
  have hD0 := kn18 q0
  have hD1 := kn19 q0
  have hlf := kn14 q0
  unfold kD at hD0 hD1
  unfold kU at hU0 hD0 hD1
  unfold kI at hI0 hU0 hD0 hD1
  unfold kE at hE0 hI0 hU0 hD0 hD1
  generalize kF q0 = fr at *
  have hin := readEther_in fr
  refine wp_seq ?_
  refine kwR26 fr a15 w15 _ hs15 o9 (by omega) ?_
  intro a16 w16 g1 hs16 k16 o13 o6 f16 hE
  generalize readEther fr = r at *
  obtain ⟨x, k⟩ := r
  dsimp only at *
  obtain ⟨rfl, hx1, hx2⟩ := hE0
  have hix := readIP_in x.by'
  refine wp_seq ?_
  refine kwR27 x g1 a16 w16 _ hs16 o13 hE (by omega) ?_
  intro a17 w17 g2 hs17 k17 o14 o15 f17 hI
  generalize readIP x.by' = r at *
  obtain ⟨y, k⟩ := r
  dsimp only at *
  obtain ⟨rfl, hy1, hy2, hy3, hy4⟩ := hI0
  have hux := readUDP_in y.by' y.fm y.«to»
  refine wp_seq ?_
  refine kwR28 y g2 a17 w17 _ hs17 o14 hI hix.1 hix.2.1 (by omega) ?_
  intro a18 w18 g3 hs18 k18 o16 o17 f18 hU
  generalize readUDP y.by' y.fm y.«to» = r at *
  obtain ⟨v, k⟩ := r
  dsimp only at *
  obtain ⟨rfl, hv1, hv2⟩ := hU0
  refine wp_seq ?_
  refine kwR29 v g3 a18 w18 _ hs18 o16 hU (by omega) ?_
  intro a19 w19 A cap g4 hs19 k19 o18 o19 f19 hD hS
  generalize readDHCP v.ld = r at *
  obtain ⟨d, k⟩ := r
  dsimp only at *
  obtain ⟨rfl, hd1, hd2, hd3⟩ := hD0
  have hC19 := hC15.keep (((f16.none f17).none f18).none f19) (fun x => x)
  have hf19 := hf15.none (((f16.none f17).none f18).none f19)
  have hE := hE.keep ((f17.none f18).none f19) (fun x => x)
  have hI := hI.keep (f18.none f19) (fun x => x)
  have hU := hU.keep f19 (fun x => x)
  rw [hD1, optC_k] at hS
  obtain ⟨⟨ga, fo, sp⟩, hA, _, _, hcell⟩ := hS.2 (by decide)
  subst hA
  unfold ethC at hE
  unfold ipC at hI
  unfold udpC at hU
  unfold dhcC at hD
  rw [hx1, hx2] at hE
  rw [hy1, hy2, hy3, hy4] at hI
  rw [hv1, hv2] at hU
  rw [hd1, hd2, hd3, hD1] at hD
  refine wp_seq (wp_seq ?_)
  refine kwR30 g1 g2 g3 _ _ _ _ _ a19 w19 _ hs19 ((k19 6 (by decide)).trans ((k18 6 (by decide)).trans ((k17 6 (by decide)).trans o6))) ((k19 15 (by decide)).trans ((k18 15 (by decide)).trans o15)) ((k19 17 (by decide)).trans o17) o19
    ((k19 13 (by decide)).trans ((k18 13 (by decide)).trans ((k17 13 (by decide)).trans o13))) ((k19 14 (by decide)).trans ((k18 14 (by decide)).trans o14)) ((k19 16 (by decide)).trans o16) hE hI hU hC19 ?_
  intro a20 w20 hs20 k20 o hw; subst w20
  refine wp_if o (fun hb => by cases hb) (fun _ => wp_skip ?_)
  refine wp_seq ?_
  refine kwR32 g4 ga fo cap sp _ _ _ a20 w19 _ hs20 ((k20 18 (by decide)).trans o18) hD hC19 (hcell 0 _ rfl) (hcell 1 _ rfl) (hcell 2 _ rfl) (hcell 3 _ rfl) ?_
  intro a21 w21 hs21 k21 o0 hw; subst w21
  refine wp_ret (fin a21 w19 hs21 o0 hf19)
end Go.Proofs.YtcbkaiakdhiloacGreatDoor
