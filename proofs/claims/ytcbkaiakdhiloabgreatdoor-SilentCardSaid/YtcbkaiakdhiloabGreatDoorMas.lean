/- Parts of the walk; written by programs, merged. -/
import Derived.Test.YtcbkaiakdhiloabGreatDoorMar
import Derived.Test.YtcbkaiakdhiloabGreatDoorProg
import Derived.Test.YtcbkaiakdhiloabGreatDoorShelf
import Derived.WalkKit
import Derived.WalkLawsBesides
import Derived.WalkSpells
import Derived.Deep.AppendLies
import Derived.Deep.DrawnRows
import Derived.Maps.AppendAt
import Derived.StillTailTactics
import Derived.Lib.Hide
import Derived.Lib.AppendStr
import Derived.Lib.Strings
import Derived.Laws.MakeOwn
import Derived.Laws.OwnMore
import Derived.Laws.BitsAllLaws
import Derived.Orders
import Derived.Deep.MidRow
import Derived.Deep.DeepMust
import Derived.Deep.RegionHeld3
import Derived.Deep.RegionLaw
import Derived.Deep.LoopGhost
import Derived.Deep.Cut
import Derived.Deep.CutRange
import Derived.Deep.QuietTactic
import Derived.BigQuiet
import Derived.Lib.ConvBytes
import Derived.Lib.LazyBuf
import Derived.Recover
import Derived.OrdersHeld
import Derived.Lib.MapLaws
import Derived.Lib.TrimAscii
import Derived.Lib.LaidTab
import Derived.Lib.ItoaNum
import Derived.Maps.Own
import Derived.Maps.OwnOps
import Derived.Maps.OwnSet
import Derived.Maps.Views
import Derived.Maps.RangeWalk
import Derived.Lib.SlBytesRow
import Derived.Deep.CutBlock
import Derived.Lib.ItoaMem
import Derived.Laws.StructEq
import Derived.DeepKeys
import Derived.RangeFuncGives
import Derived.Sort.MapsRangeIn
import Derived.OwnWalkIn
import Derived.TacticsInMore
import Derived.RegionIn
import Derived.LoopNIn
import Derived.LoopIn
import Derived.Shelf.Abstract
import Derived.Laws.RangeString
import Derived.Lib.OthersKept
set_option linter.unusedSimpArgs false
set_option linter.unusedVariables false
set_option maxRecDepth 20000
namespace Go.Proofs.YtcbkaiakdhiloabGreatDoor
open Go.RowKit Go.Proofs
attribute [local go_sem] bs_size bs_append bs_extract bs_toList
def kernelB : List UInt8 := [107, 101, 114, 110, 101, 108]
def cfgK (m : Mac) (q : List UInt8) (b wd : Int) : CfgI := ⟨m, kernelB, 600000, sha q, b, wd, 16, 16⟩
theorem cfgInfo : (Tryz.prog.info? 48).map (·.size) = some 13 := by kernel_rfl
theorem cfgC_one (c : CfgI) : (cfgC c).all (·.oneCell') = true := by simp [cfgC, Value.oneCell']
def CardG (m : Mac) (w : World) : Prop := RowG w 1 #[.int .u8 (m.1.toNat : Int), .int .u8 (m.2.1.toNat : Int), .int .u8 (m.2.2.1.toNat : Int), .int .u8 (m.2.2.2.1.toNat : Int), .int .u8 (m.2.2.2.2.1.toNat : Int), .int .u8 (m.2.2.2.2.2.toNat : Int)]
def zCfg : Array Value := #[.int .u8 0, .int .u8 0, .int .u8 0, .int .u8 0, .int .u8 0, .int .u8 0, .string ⟨#[]⟩, .int .i64 0, .string ⟨#[]⟩, .int .i64 0, .int .i64 0, .int .i64 0, .int .i64 0]
def cfF (u : Nat → Value) : Act := ⟨#[u 0, u 1, u 2, u 3, u 4, u 5, u 6, u 7, u 8, u 9, u 10, u 11, u 12], []⟩
set_option maxRecDepth 100000 in
theorem cfF_eq (u : Nat → Value) : cfF u = frN 13 u := rfl
theorem cfF_of {a : Act} (h : Sz 13 a) : a = cfF (sl a) := h.eq.trans (cfF_eq _).symm
set_option maxRecDepth 20000 in
set_option maxHeartbeats 1000000 in
theorem cfR0  (a : Act) (w : World) (K : Exit → Act → World → Prop) (hs : Sz 13 a)
     
    (hK : ∀ a' w', Sz 13 a' → Kp [0, 1, 2] a a' → sl a' 6 = .pointer (some ⟨w.heap.size, 0, none⟩) → Fr noB w w' → Bk w' w.heap.size 48 zCfg → K .normal a' w') :
    (regionOf Tryz.f17 0).wp Tryz.prog K a w := by
  unfold Kp at hK; rw [cfF_of hs]; clear hs; generalize sl a = u at *; clear a; have HK := Lib.hid hK; clear hK; conv => arg 2; whnf
  simp only [cfF]
  go_wp2_with fail
  exact HK.out _ _  ⟨rfl, rfl⟩ (KpU.cons (rfl) (KpU.cons (rfl) (KpU.cons (rfl) (KpU.nil _ _)))) (rfl) ((Fr.refl _ _).alloc _) (Bk.new _ _ _)
set_option maxRecDepth 20000 in
set_option maxHeartbeats 1000000 in
theorem cfR1 (m : Mac) (q : List UInt8) (b wd : Int) (g : Nat) (a : Act) (w : World) (K : Exit → Act → World → Prop) (hs : Sz 13 a)
    (h0 : sl a 0 = .string (bs q)) (h1 : sl a 1 = .int .i64 b) (h2 : sl a 2 = .int .i64 wd) (h6 : sl a 6 = .pointer (some ⟨g, 0, none⟩)) (hC : CardG m w) (hG : Glb w) (hB : Bk w g 48 zCfg) (hq : q.length ≤ 100000000000)
    (hK : ∀ a' w', Sz 13 a' → Kp [0, 1, 2, 6] a a' → sl a' 6 = .pointer (some ⟨g, 0, none⟩) → Fr (oneB g) w w' → Bk w' g 48 (cfgC (cfgK m q b wd)) → K .normal a' w') :
    (regionOf Tryz.f17 1).wp Tryz.prog K a w := by
  unfold Kp at hK; rw [cfF_of hs]; clear hs; generalize sl a = u at *; clear a; have HK := Lib.hid hK; clear hK; conv => arg 2; whnf
  simp only [cfF, h0, h1, h2, h6]
  refine wp_region_pls (by kernel_rfl) (fun w' => (CardG m w' ∧ Glb w') ∧ (Bk w' g 48 zCfg ∧ Fr noB w w')) [6] (.p 1 (.p 3 (.p 4 (.q 0 (.e 2 (.p 5 (.e 6 (.nil)))))))) (by kernel_rfl) (⟨⟨hC.keep (Fr.refl noB _).drew (fun x => x), hG.keep (Fr.refl noB _).drew (fun _ _ x => x)⟩, hB.drew, (Fr.refl _ _).drew⟩) ?_
  intro ops Q' hO hQ' wr1 hR1
  iterate 3 (refine pl_p0 hO rfl rfl ?_ (fun w' => ?_) ?_; rotate_left 1; (focus (go_simp; ((try with_reducible rfl); done))); simp only [Act.put, List.setIfInBounds_toArray, List.set_cons_zero, List.set_cons_succ])
  refine pl_q0 hO rfl rfl ?_ (fun w' hS => ?_) ?_; rotate_left 1; (focus (obtain ⟨⟨hC, hG⟩, hB, hF⟩ := hS; have c0 := hC.2 0 _ rfl; have c1 := hC.2 1 _ rfl; have c2 := hC.2 2 _ rfl; have c3 := hC.2 3 _ rfl; have c4 := hC.2 4 _ rfl; have c5 := hC.2 5 _ rfl; go_simp; ((try with_reducible rfl); done))); simp only [Act.put, List.setIfInBounds_toArray, List.set_cons_zero, List.set_cons_succ]
  refine pl_e0 hO rfl rfl rfl (fun K hK => ?_)
  go_simp
  refine (bootHash q hq _ hR1.1.2.rounds hR1.1.2.begin).mono ?_
  rintro e w4 ⟨rfl, fw4⟩
  refine hK _ _ (⟨⟨hR1.1.1.keep fw4 (fun x => x), hR1.1.2.keep fw4 (fun _ _ x => x)⟩, hR1.2.1.keep fw4 (fun x => x), hR1.2.2.none fw4⟩) (fun hR_2 => ?_)
  clear hK K
  refine pl_p0 hO rfl rfl ?_ (fun w' => ?_) ?_; rotate_left 1; (focus (go_simp; ((try with_reducible rfl); done))); simp only [Act.put, List.setIfInBounds_toArray, List.set_cons_zero, List.set_cons_succ]
  refine pl_b0 hO rfl rfl rfl (fun K hK => ?_)
  refine wp_store_bk 48 (.tmp 6) (.tmp 12) rfl g _ _ (cfgC (cfgK m q b wd)) rfl rfl hR_2.2.1 rfl (by kernel_rfl) (cfgC_one _) (fun w5 hx5 hf5 => ?_)
  refine hK _ _ ?_
  clear hK K
  refine pl_nil (hQ' _ _ ?_)
  exact HK.out _ _  ⟨rfl, rfl⟩ (KpU.cons (h0.symm) (KpU.cons (h1.symm) (KpU.cons (h2.symm) (KpU.cons (h6.symm) (KpU.nil _ _))))) (rfl) ((hR_2.2.2.of_no _).trans hf5) hx5
theorem configFn (m : Mac) (q : List UInt8) (b wd : Int) (w : World) (hC : CardG m w) (hG : Glb w) (hq : q.length ≤ 100000000000) :
    Calls Tryz.prog 17 #[.string (bs q), .int .i64 b, .int .i64 wd] w fun e w' => e = .returned (.agg (cfgC (cfgK m q b wd))) ∧ Fr noB w w' := by
  go_enter Tryz.func17, Tryz.ntmps17
  refine wp_seq ?_
  refine cfR0 _ w _ ⟨rfl, rfl⟩ ?_
  intro a0 w0 hs0 k0 o6 hf0 hB0
  refine wp_seq ?_
  refine cfR1 m q b wd _ a0 w0 _ hs0 ((k0 0 (by decide)).trans rfl) ((k0 1 (by decide)).trans rfl) ((k0 2 (by decide)).trans rfl) o6 (hC.keep hf0 (fun x => x)) (hG.keep hf0 (fun _ _ x => x)) hB0 hq ?_
  intro a1 w1 hs1 k1 o6 hf1 hB1
  refine wp_ret ?_
  exact bodyPost_ret (results_cell_row rfl _ _ _ 48 _ (0, 0) _ o6 hB1 Tryz.underlying48 rfl cfgInfo) hs1.defers ⟨rfl, hf0.trans' hf1 fun b hb hx => by have hx' : b = w.heap.size := hx; omega⟩
def siF (u : Nat → Value) : Act := ⟨#[u 0, u 1, u 2, u 3, u 4, u 5, u 6, u 7, u 8, u 9, u 10, u 11, u 12, u 13, u 14, u 15, u 16, u 17, u 18, u 19, u 20, u 21, u 22, u 23, u 24, u 25, u 26, u 27, u 28, u 29, u 30, u 31, u 32, u 33, u 34, u 35, u 36, u 37, u 38, u 39, u 40, u 41, u 42, u 43, u 44, u 45, u 46, u 47, u 48, u 49, u 50, u 51, u 52, u 53, u 54, u 55, u 56, u 57, u 58, u 59, u 60, u 61, u 62, u 63, u 64, u 65, u 66, u 67, u 68, u 69, u 70, u 71, u 72, u 73, u 74, u 75, u 76, u 77, u 78, u 79, u 80, u 81, u 82, u 83, u 84, u 85, u 86, u 87, u 88, u 89, u 90, u 91, u 92, u 93, u 94, u 95, u 96, u 97, u 98, u 99, u 100, u 101, u 102, u 103, u 104, u 105, u 106, u 107, u 108, u 109, u 110, u 111, u 112, u 113, u 114, u 115, u 116, u 117, u 118, u 119, u 120], []⟩
set_option maxRecDepth 100000 in
theorem siF_eq (u : Nat → Value) : siF u = frN 121 u := rfl
theorem siF_of {a : Act} (h : Sz 121 a) : a = siF (sl a) := h.eq.trans (siF_eq _).symm
set_option maxRecDepth 20000 in
set_option maxHeartbeats 1000000 in
theorem siR0  (a : Act) (w : World) (K : Exit → Act → World → Prop) (hs : Sz 121 a)
     
    (hK : ∀ a' w', Sz 121 a' → Kp [0, 1, 5, 6, 8, 9, 10, 11, 12, 13, 37, 40, 77, 78, 105] a a' → w' = w → K .normal a' w') :
    (regionOf Tryz.f4 0).wp Tryz.prog K a w := by
  unfold Kp at hK; rw [siF_of hs]; clear hs; generalize sl a = u at *; clear a; have HK := Lib.hid hK; clear hK; conv => arg 2; whnf
  simp only [siF]
  go_wp2_with fail
  exact HK.out _ _  ⟨rfl, rfl⟩ (KpU.cons (rfl) (KpU.cons (rfl) (KpU.cons (rfl) (KpU.cons (rfl) (KpU.cons (rfl) (KpU.cons (rfl) (KpU.cons (rfl) (KpU.cons (rfl) (KpU.cons (rfl) (KpU.cons (rfl) (KpU.cons (rfl) (KpU.cons (rfl) (KpU.cons (rfl) (KpU.cons (rfl) (KpU.cons (rfl) (KpU.nil _ _))))))))))))))))  rfl
set_option maxRecDepth 20000 in
set_option maxHeartbeats 1000000 in
theorem siR1 (m : Mac) (a : Act) (w : World) (K : Exit → Act → World → Prop) (hs : Sz 121 a)
     (hC : CardG m w) (hG : Glb w)
    (hK : ∀ a' w' g, Sz 121 a' → Kp [0, 1, 6, 8, 9, 10, 11, 12, 13, 37, 40, 77, 78, 105] a a' → sl a' 5 = .pointer (some ⟨g, 0, none⟩) → Fr noB w w' → Bk w' g 48 (cfgC (cfgK m [120] 8 1)) → w.heap.size ≤ g → K .normal a' w') :
    (regionOf Tryz.f4 1).wp Tryz.prog K a w := by
  unfold Kp at hK; rw [siF_of hs]; clear hs; generalize sl a = u at *; clear a; have HK := Lib.hid hK; clear hK; conv => arg 2; whnf
  simp only [siF]
  go_wp2_with (first | (go_at_call 17; refine (configFn m [120] 8 1 _ hC hG (by decide)).mono ?_; rintro e w4 ⟨rfl, fw4⟩) | (refine wpList_store_bk rfl 48 (.tmp 5) (.tmp 14) rfl w4.heap.size _ _ (cfgC (cfgK m [120] 8 1)) rfl rfl (Bk.new w4 48 zCfg) rfl cfgInfo (cfgC_one _) ?_; intro w5 hx5 hf5))
  have hfq : Fr noB w w5 := (fw4.alloc _).trans' hf5 (fun b hb hx => by have hx' : b = w4.heap.size := hx; have := fw4.size; omega)
  exact HK.out _ _ w4.heap.size ⟨rfl, rfl⟩ (KpU.cons (rfl) (KpU.cons (rfl) (KpU.cons (rfl) (KpU.cons (rfl) (KpU.cons (rfl) (KpU.cons (rfl) (KpU.cons (rfl) (KpU.cons (rfl) (KpU.cons (rfl) (KpU.cons (rfl) (KpU.cons (rfl) (KpU.cons (rfl) (KpU.cons (rfl) (KpU.cons (rfl) (KpU.nil _ _))))))))))))))) (rfl) (hfq) hx5 fw4.size
set_option maxRecDepth 20000 in
set_option maxHeartbeats 1000000 in
theorem siR2 (m : Mac) (q : List UInt8) (b wd last : Int) (x : UInt8) (g : Nat) (a : Act) (w : World) (K : Exit → Act → World → Prop) (hs : Sz 121 a)
    (h0 : sl a 0 = .int .i64 last) (h5 : sl a 5 = .pointer (some ⟨g, 0, none⟩)) (hB : Bk w g 48 (cfgC (cfgK m q b wd))) (hx : IntKind.u8.wrap last = (x.toNat : Int))
    (hK : ∀ a' w', Sz 121 a' → Kp [0, 1, 5, 6, 8, 9, 10, 11, 12, 13, 37, 40, 77, 78, 105] a a' → Fr (oneB g) w w' → Bk w' g 48 (cfgC (cfgK (m.1, m.2.1, m.2.2.1, m.2.2.2.1, m.2.2.2.2.1, x) q b wd)) → K .normal a' w') :
    (regionOf Tryz.f4 2).wp Tryz.prog K a w := by
  unfold Kp at hK; rw [siF_of hs]; clear hs; generalize sl a = u at *; clear a; have HK := Lib.hid hK; clear hK; conv => arg 2; whnf
  simp only [siF, h0, h5]
  have hc5 := hB.cell 5
  have hfz := hB.free 5
  go_wp2_with fail
  exact HK.out _ _  ⟨rfl, rfl⟩ (KpU.cons (h0.symm) (KpU.cons (rfl) (KpU.cons (h5.symm) (KpU.cons (rfl) (KpU.cons (rfl) (KpU.cons (rfl) (KpU.cons (rfl) (KpU.cons (rfl) (KpU.cons (rfl) (KpU.cons (rfl) (KpU.cons (rfl) (KpU.cons (rfl) (KpU.cons (rfl) (KpU.cons (rfl) (KpU.cons (rfl) (KpU.nil _ _))))))))))))))))  ((Fr.refl (oneB g) w).setCell (p := ⟨g, 5, none⟩) (fun _ => rfl) _) (hB.set 5 (.int .u8 (x.toNat : Int)))
set_option maxRecDepth 20000 in
set_option maxHeartbeats 1000000 in
theorem siR3 (c : CfgI) (g : Nat) (a : Act) (w : World) (K : Exit → Act → World → Prop) (hs : Sz 121 a)
    (h5 : sl a 5 = .pointer (some ⟨g, 0, none⟩)) (hB : Bk w g 48 (cfgC c)) (hG : Glb w) (hok : c.Ok)
    (hK : ∀ a' w' L, Sz 121 a' → Kp [0, 1, 5, 8, 9, 10, 11, 12, 13, 37, 40, 77, 78, 105] a a' → sl a' 6 = .pointer (some ⟨L.p, 0, none⟩) → sl a' 7 = .int .i64 0 → BootAt w' L (stNew c) → (∀ b, own' L b → w.heap.size ≤ b) → Fr noB w w' → K .normal a' w') :
    (regionOf Tryz.f4 3).wp Tryz.prog K a w := by
  unfold Kp at hK; rw [siF_of hs]; clear hs; generalize sl a = u at *; clear a; have HK := Lib.hid hK; clear hK; conv => arg 2; whnf
  simp only [siF, h5]
  have hu := Tryz.underlying48
  have hi : (Tryz.prog.info? 48).map (·.size) = some (cfgC c).size := cfgInfo
  go_wp2_with (first | (refine wpList_load_row rfl 48 (.tmp 5) rfl g rfl 48 (cfgC c) (0, 0) _ hB hu rfl hi ?_) | (go_at_call 18; refine (bootNewL c _ hG).mono ?_; rintro e w4 hp; obtain ⟨L, rfl, hB1, ho1, hf1⟩ := hp.1 hok))
  exact HK.out _ _ L ⟨rfl, rfl⟩ (KpU.cons (rfl) (KpU.cons (rfl) (KpU.cons (h5.symm) (KpU.cons (rfl) (KpU.cons (rfl) (KpU.cons (rfl) (KpU.cons (rfl) (KpU.cons (rfl) (KpU.cons (rfl) (KpU.cons (rfl) (KpU.cons (rfl) (KpU.cons (rfl) (KpU.cons (rfl) (KpU.cons (rfl) (KpU.nil _ _))))))))))))))) (rfl) (rfl) hB1 ho1 hf1
set_option maxRecDepth 20000 in
set_option maxHeartbeats 1000000 in
theorem siR4 (p : Nat) (a : Act) (w : World) (K : Exit → Act → World → Prop) (hs : Sz 121 a)
    (h6 : sl a 6 = .pointer (some ⟨p, 0, none⟩)) (h7 : sl a 7 = .int .i64 0) 
    (hK : ∀ a' w', Sz 121 a' → Kp [0, 1, 5, 6, 8, 9, 10, 11, 12, 13, 37, 40, 77, 78, 105] a a' → sl a' 29 = .bool false → w' = w → K .normal a' w') :
    (regionOf Tryz.f4 4).wp Tryz.prog K a w := by
  unfold Kp at hK; rw [siF_of hs]; clear hs; generalize sl a = u at *; clear a; have HK := Lib.hid hK; clear hK; conv => arg 2; whnf
  simp only [siF, h6, h7]
  go_wp2_with fail
  exact HK.out _ _  ⟨rfl, rfl⟩ (KpU.cons (rfl) (KpU.cons (rfl) (KpU.cons (rfl) (KpU.cons (h6.symm) (KpU.cons (rfl) (KpU.cons (rfl) (KpU.cons (rfl) (KpU.cons (rfl) (KpU.cons (rfl) (KpU.cons (rfl) (KpU.cons (rfl) (KpU.cons (rfl) (KpU.cons (rfl) (KpU.cons (rfl) (KpU.cons (rfl) (KpU.nil _ _)))))))))))))))) (rfl) rfl
set_option maxRecDepth 20000 in
set_option maxHeartbeats 1000000 in
theorem siR6 (draw : Int) (d : Nat) (a : Act) (w : World) (K : Exit → Act → World → Prop) (hs : Sz 121 a)
    (h1 : sl a 1 = .int .i64 draw) (hd : d = pickI draw 1073741824) (b0 : -9223372036854775808 ≤ draw) (b1 : draw ≤ 9223372036854775807) (q : d < 1073741824)
    (hK : ∀ a' w', Sz 121 a' → Kp [0, 1, 5, 6, 9, 10, 11, 12, 13, 37, 40, 77, 78, 105] a a' → sl a' 8 = .int .u32 (d : Int) → w' = w → K .normal a' w') :
    (regionOf Tryz.f4 6).wp Tryz.prog K a w := by
  unfold Kp at hK; rw [siF_of hs]; clear hs; generalize sl a = u at *; clear a; have HK := Lib.hid hK; clear hK; conv => arg 2; whnf
  simp only [siF, h1]
  have Hd := Lib.hid hd
  clear hd
  go_wp2_with fail
  refine (pickK draw 1073741824 d _ Hd.out (by decide) (by decide) b0 b1).mono ?_
  rintro e w4 ⟨rfl, rfl⟩
  go_wp2_with fail
  exact HK.out _ _  ⟨rfl, rfl⟩ (KpU.cons (rfl) (KpU.cons (h1.symm) (KpU.cons (rfl) (KpU.cons (rfl) (KpU.cons (rfl) (KpU.cons (rfl) (KpU.cons (rfl) (KpU.cons (rfl) (KpU.cons (rfl) (KpU.cons (rfl) (KpU.cons (rfl) (KpU.cons (rfl) (KpU.cons (rfl) (KpU.cons (rfl) (KpU.nil _ _))))))))))))))) (congrArg (Value.int .u32) (by omega)) rfl
set_option maxRecDepth 20000 in
set_option maxHeartbeats 1000000 in
theorem siR7 (d : Nat) (j : Int) (a : Act) (w : World) (K : Exit → Act → World → Prop) (hs : Sz 121 a)
    (h8 : sl a 8 = .int .u32 (d : Int)) (q : IntKind.i64.wrap (((d : Int) % 3)) = (d : Int) % 3) (q2 : IntKind.i64.wrap ((d : Int) % 3 - 1) = j)
    (hK : ∀ a' w', Sz 121 a' → Kp [0, 1, 5, 6, 8, 10, 11, 12, 13, 37, 40, 77, 78, 105] a a' → sl a' 9 = .int .i64 j → w' = w → K .normal a' w') :
    (regionOf Tryz.f4 7).wp Tryz.prog K a w := by
  unfold Kp at hK; rw [siF_of hs]; clear hs; generalize sl a = u at *; clear a; have HK := Lib.hid hK; clear hK; conv => arg 2; whnf
  simp only [siF, h8]
  go_wp2_with fail
  exact HK.out _ _  ⟨rfl, rfl⟩ (KpU.cons (rfl) (KpU.cons (rfl) (KpU.cons (rfl) (KpU.cons (rfl) (KpU.cons (h8.symm) (KpU.cons (rfl) (KpU.cons (rfl) (KpU.cons (rfl) (KpU.cons (rfl) (KpU.cons (rfl) (KpU.cons (rfl) (KpU.cons (rfl) (KpU.cons (rfl) (KpU.cons (rfl) (KpU.nil _ _))))))))))))))) (rfl) rfl
set_option maxRecDepth 20000 in
set_option maxHeartbeats 1000000 in
theorem siR8  (a : Act) (w : World) (K : Exit → Act → World → Prop) (hs : Sz 121 a)
     
    (hK : ∀ a' w', Sz 121 a' → Kp [0, 1, 5, 6, 8, 9, 10, 11, 12, 13, 40, 77, 78, 105] a a' → sl a' 37 = .int .i64 ((0 : Nat) : Int) → w' = w → K .normal a' w') :
    (regionOf Tryz.f4 8).wp Tryz.prog K a w := by
  unfold Kp at hK; rw [siF_of hs]; clear hs; generalize sl a = u at *; clear a; have HK := Lib.hid hK; clear hK; conv => arg 2; whnf
  simp only [siF]
  go_wp2_with fail
  exact HK.out _ _  ⟨rfl, rfl⟩ (KpU.cons (rfl) (KpU.cons (rfl) (KpU.cons (rfl) (KpU.cons (rfl) (KpU.cons (rfl) (KpU.cons (rfl) (KpU.cons (rfl) (KpU.cons (rfl) (KpU.cons (rfl) (KpU.cons (rfl) (KpU.cons (rfl) (KpU.cons (rfl) (KpU.cons (rfl) (KpU.cons (rfl) (KpU.nil _ _))))))))))))))) (rfl) rfl
set_option maxRecDepth 20000 in
set_option maxHeartbeats 1000000 in
theorem siR12  (a : Act) (w : World) (K : Exit → Act → World → Prop) (hs : Sz 121 a)
     
    (hK : ∀ a' w', Sz 121 a' → Kp [0, 1, 5, 6, 8, 9, 10, 11, 12, 13, 37, 77, 78, 105] a a' → sl a' 40 = .int .i64 ((0 : Nat) : Int) → w' = w → K .normal a' w') :
    (regionOf Tryz.f4 12).wp Tryz.prog K a w := by
  unfold Kp at hK; rw [siF_of hs]; clear hs; generalize sl a = u at *; clear a; have HK := Lib.hid hK; clear hK; conv => arg 2; whnf
  simp only [siF]
  go_wp2_with fail
  exact HK.out _ _  ⟨rfl, rfl⟩ (KpU.cons (rfl) (KpU.cons (rfl) (KpU.cons (rfl) (KpU.cons (rfl) (KpU.cons (rfl) (KpU.cons (rfl) (KpU.cons (rfl) (KpU.cons (rfl) (KpU.cons (rfl) (KpU.cons (rfl) (KpU.cons (rfl) (KpU.cons (rfl) (KpU.cons (rfl) (KpU.cons (rfl) (KpU.nil _ _))))))))))))))) (rfl) rfl
set_option maxRecDepth 20000 in
set_option maxHeartbeats 1000000 in
theorem siR31  (a : Act) (w : World) (K : Exit → Act → World → Prop) (hs : Sz 121 a)
     
    (hK : ∀ a' w', Sz 121 a' → Kp [0, 1, 5, 6, 8, 9, 10, 11, 12, 13, 37, 40, 77, 78] a a' → sl a' 105 = .int .i64 ((0 : Nat) : Int) → w' = w → K .normal a' w') :
    (regionOf Tryz.f4 31).wp Tryz.prog K a w := by
  unfold Kp at hK; rw [siF_of hs]; clear hs; generalize sl a = u at *; clear a; have HK := Lib.hid hK; clear hK; conv => arg 2; whnf
  simp only [siF]
  go_wp2_with fail
  exact HK.out _ _  ⟨rfl, rfl⟩ (KpU.cons (rfl) (KpU.cons (rfl) (KpU.cons (rfl) (KpU.cons (rfl) (KpU.cons (rfl) (KpU.cons (rfl) (KpU.cons (rfl) (KpU.cons (rfl) (KpU.cons (rfl) (KpU.cons (rfl) (KpU.cons (rfl) (KpU.cons (rfl) (KpU.cons (rfl) (KpU.cons (rfl) (KpU.nil _ _))))))))))))))) (rfl) rfl
set_option maxRecDepth 20000 in
set_option maxHeartbeats 1000000 in
theorem siR9 (i : Nat) (a : Act) (w : World) (K : Exit → Act → World → Prop) (hs : Sz 121 a)
    (h37 : sl a 37 = .int .i64 (i : Int)) 
    (hK : ∀ a' w', Sz 121 a' → Kp [0, 1, 5, 6, 8, 9, 10, 11, 12, 13, 37, 40, 77, 78, 105] a a' → sl a' 38 = .bool (decide (i < 3)) → w' = w → K .normal a' w') :
    (regionOf Tryz.f4 9).wp Tryz.prog K a w := by
  unfold Kp at hK; rw [siF_of hs]; clear hs; generalize sl a = u at *; clear a; have HK := Lib.hid hK; clear hK; conv => arg 2; whnf
  simp only [siF, h37]
  go_wp2_with fail
  exact HK.out _ _  ⟨rfl, rfl⟩ (KpU.cons (rfl) (KpU.cons (rfl) (KpU.cons (rfl) (KpU.cons (rfl) (KpU.cons (rfl) (KpU.cons (rfl) (KpU.cons (rfl) (KpU.cons (rfl) (KpU.cons (rfl) (KpU.cons (rfl) (KpU.cons (h37.symm) (KpU.cons (rfl) (KpU.cons (rfl) (KpU.cons (rfl) (KpU.cons (rfl) (KpU.nil _ _)))))))))))))))) (congrArg Value.bool (decide_eq_decide.2 (by omega))) rfl
set_option maxRecDepth 20000 in
set_option maxHeartbeats 1000000 in
theorem siR13 (i : Nat) (a : Act) (w : World) (K : Exit → Act → World → Prop) (hs : Sz 121 a)
    (h40 : sl a 40 = .int .i64 (i : Int)) 
    (hK : ∀ a' w', Sz 121 a' → Kp [0, 1, 5, 6, 8, 9, 10, 11, 12, 13, 37, 40, 77, 78, 105] a a' → sl a' 41 = .bool (decide (i < 4)) → w' = w → K .normal a' w') :
    (regionOf Tryz.f4 13).wp Tryz.prog K a w := by
  unfold Kp at hK; rw [siF_of hs]; clear hs; generalize sl a = u at *; clear a; have HK := Lib.hid hK; clear hK; conv => arg 2; whnf
  simp only [siF, h40]
  go_wp2_with fail
  exact HK.out _ _  ⟨rfl, rfl⟩ (KpU.cons (rfl) (KpU.cons (rfl) (KpU.cons (rfl) (KpU.cons (rfl) (KpU.cons (rfl) (KpU.cons (rfl) (KpU.cons (rfl) (KpU.cons (rfl) (KpU.cons (rfl) (KpU.cons (rfl) (KpU.cons (rfl) (KpU.cons (h40.symm) (KpU.cons (rfl) (KpU.cons (rfl) (KpU.cons (rfl) (KpU.nil _ _)))))))))))))))) (congrArg Value.bool (decide_eq_decide.2 (by omega))) rfl
set_option maxRecDepth 20000 in
set_option maxHeartbeats 1000000 in
theorem siR32 (i : Nat) (a : Act) (w : World) (K : Exit → Act → World → Prop) (hs : Sz 121 a)
    (h105 : sl a 105 = .int .i64 (i : Int)) 
    (hK : ∀ a' w', Sz 121 a' → Kp [0, 1, 5, 6, 8, 9, 10, 11, 12, 13, 37, 40, 77, 78, 105] a a' → sl a' 106 = .bool (decide (i < 50)) → w' = w → K .normal a' w') :
    (regionOf Tryz.f4 32).wp Tryz.prog K a w := by
  unfold Kp at hK; rw [siF_of hs]; clear hs; generalize sl a = u at *; clear a; have HK := Lib.hid hK; clear hK; conv => arg 2; whnf
  simp only [siF, h105]
  go_wp2_with fail
  exact HK.out _ _  ⟨rfl, rfl⟩ (KpU.cons (rfl) (KpU.cons (rfl) (KpU.cons (rfl) (KpU.cons (rfl) (KpU.cons (rfl) (KpU.cons (rfl) (KpU.cons (rfl) (KpU.cons (rfl) (KpU.cons (rfl) (KpU.cons (rfl) (KpU.cons (rfl) (KpU.cons (rfl) (KpU.cons (rfl) (KpU.cons (rfl) (KpU.cons (h105.symm) (KpU.nil _ _)))))))))))))))) (congrArg Value.bool (decide_eq_decide.2 (by omega))) rfl
set_option maxRecDepth 20000 in
set_option maxHeartbeats 1000000 in
theorem siR10 (i : Nat) (a : Act) (w : World) (K : Exit → Act → World → Prop) (hs : Sz 121 a)
    (h37 : sl a 37 = .int .i64 (i : Int)) 
    (hK : ∀ a' w', Sz 121 a' → Kp [0, 1, 5, 6, 8, 9, 11, 12, 13, 37, 40, 77, 78, 105] a a' → sl a' 10 = .int .i64 (i : Int) → w' = w → K .normal a' w') :
    (regionOf Tryz.f4 10).wp Tryz.prog K a w := by
  unfold Kp at hK; rw [siF_of hs]; clear hs; generalize sl a = u at *; clear a; have HK := Lib.hid hK; clear hK; conv => arg 2; whnf
  simp only [siF, h37]
  go_wp2_with fail
  exact HK.out _ _  ⟨rfl, rfl⟩ (KpU.cons (rfl) (KpU.cons (rfl) (KpU.cons (rfl) (KpU.cons (rfl) (KpU.cons (rfl) (KpU.cons (rfl) (KpU.cons (rfl) (KpU.cons (rfl) (KpU.cons (rfl) (KpU.cons (h37.symm) (KpU.cons (rfl) (KpU.cons (rfl) (KpU.cons (rfl) (KpU.cons (rfl) (KpU.nil _ _))))))))))))))) (rfl) rfl
set_option maxRecDepth 20000 in
set_option maxHeartbeats 1000000 in
theorem siR14 (i : Nat) (a : Act) (w : World) (K : Exit → Act → World → Prop) (hs : Sz 121 a)
    (h40 : sl a 40 = .int .i64 (i : Int)) 
    (hK : ∀ a' w', Sz 121 a' → Kp [0, 1, 5, 6, 8, 9, 10, 11, 13, 37, 40, 77, 78, 105] a a' → sl a' 12 = .int .i64 (i : Int) → w' = w → K .normal a' w') :
    (regionOf Tryz.f4 14).wp Tryz.prog K a w := by
  unfold Kp at hK; rw [siF_of hs]; clear hs; generalize sl a = u at *; clear a; have HK := Lib.hid hK; clear hK; conv => arg 2; whnf
  simp only [siF, h40]
  go_wp2_with fail
  exact HK.out _ _  ⟨rfl, rfl⟩ (KpU.cons (rfl) (KpU.cons (rfl) (KpU.cons (rfl) (KpU.cons (rfl) (KpU.cons (rfl) (KpU.cons (rfl) (KpU.cons (rfl) (KpU.cons (rfl) (KpU.cons (rfl) (KpU.cons (rfl) (KpU.cons (h40.symm) (KpU.cons (rfl) (KpU.cons (rfl) (KpU.cons (rfl) (KpU.nil _ _))))))))))))))) (rfl) rfl
set_option maxRecDepth 20000 in
set_option maxHeartbeats 1000000 in
theorem siR11  (a : Act) (w : World) (K : Exit → Act → World → Prop) (hs : Sz 121 a)
     
    (hK : ∀ a' w', Sz 121 a' → Kp [0, 1, 5, 6, 8, 9, 10, 12, 13, 37, 40, 77, 78, 105] a a' → sl a' 11 = .string (bs []) → w' = w → K .normal a' w') :
    (regionOf Tryz.f4 11).wp Tryz.prog K a w := by
  unfold Kp at hK; rw [siF_of hs]; clear hs; generalize sl a = u at *; clear a; have HK := Lib.hid hK; clear hK; conv => arg 2; whnf
  simp only [siF]
  go_wp2_with fail
  exact HK.out _ _  ⟨rfl, rfl⟩ (KpU.cons (rfl) (KpU.cons (rfl) (KpU.cons (rfl) (KpU.cons (rfl) (KpU.cons (rfl) (KpU.cons (rfl) (KpU.cons (rfl) (KpU.cons (rfl) (KpU.cons (rfl) (KpU.cons (rfl) (KpU.cons (rfl) (KpU.cons (rfl) (KpU.cons (rfl) (KpU.cons (rfl) (KpU.nil _ _))))))))))))))) (rfl) rfl
set_option maxRecDepth 20000 in
set_option maxHeartbeats 1000000 in
theorem siR15 (w0 : World) (p : Nat) (s : St) (d : Nat) (a : Act) (w : World) (K : Exit → Act → World → Prop) (hs : Sz 121 a)
    (h6 : sl a 6 = .pointer (some ⟨p, 0, none⟩)) (h8 : sl a 8 = .int .u32 (d : Int)) (h : MSt w0 p s w) (hq : Quiet s) (hn : s.now < 4611686018427387904) (hd : d < 4294967296)
    (hK : ∀ a' w', Sz 121 a' → Kp [0, 1, 5, 6, 8, 9, 10, 11, 12, 13, 37, 40, 77, 78, 105] a a' → MSt w0 p (s.tick d) w' → K .normal a' w') :
    (regionOf Tryz.f4 15).wp Tryz.prog K a w := by
  unfold Kp at hK; rw [siF_of hs]; clear hs; generalize sl a = u at *; clear a; have HK := Lib.hid hK; clear hK; conv => arg 2; whnf
  simp only [siF, h6, h8]
  go_wp2_with fail
  refine (keepTickQ d h hq hn hd).mono ?_
  rintro e w1 ⟨rfl, h1⟩
  go_wp2_with fail
  exact HK.out _ _  ⟨rfl, rfl⟩ (KpU.cons (rfl) (KpU.cons (rfl) (KpU.cons (rfl) (KpU.cons (h6.symm) (KpU.cons (h8.symm) (KpU.cons (rfl) (KpU.cons (rfl) (KpU.cons (rfl) (KpU.cons (rfl) (KpU.cons (rfl) (KpU.cons (rfl) (KpU.cons (rfl) (KpU.cons (rfl) (KpU.cons (rfl) (KpU.cons (rfl) (KpU.nil _ _))))))))))))))))  h1
set_option maxRecDepth 20000 in
set_option maxHeartbeats 1000000 in
theorem siR22 (w0 : World) (p : Nat) (s : St) (d : Nat) (a : Act) (w : World) (K : Exit → Act → World → Prop) (hs : Sz 121 a)
    (h6 : sl a 6 = .pointer (some ⟨p, 0, none⟩)) (h8 : sl a 8 = .int .u32 (d : Int)) (h : MSt w0 p s w) (hq : Quiet s) (hn : s.now < 4611686018427387904) (hd : d < 4294967296)
    (hK : ∀ a' w', Sz 121 a' → Kp [0, 1, 5, 6, 8, 9, 10, 11, 12, 13, 37, 40, 77, 78, 105] a a' → MSt w0 p (s.tick d) w' → K .normal a' w') :
    (regionOf Tryz.f4 22).wp Tryz.prog K a w := by
  unfold Kp at hK; rw [siF_of hs]; clear hs; generalize sl a = u at *; clear a; have HK := Lib.hid hK; clear hK; conv => arg 2; whnf
  simp only [siF, h6, h8]
  go_wp2_with fail
  refine (keepTickQ d h hq hn hd).mono ?_
  rintro e w1 ⟨rfl, h1⟩
  go_wp2_with fail
  exact HK.out _ _  ⟨rfl, rfl⟩ (KpU.cons (rfl) (KpU.cons (rfl) (KpU.cons (rfl) (KpU.cons (h6.symm) (KpU.cons (h8.symm) (KpU.cons (rfl) (KpU.cons (rfl) (KpU.cons (rfl) (KpU.cons (rfl) (KpU.cons (rfl) (KpU.cons (rfl) (KpU.cons (rfl) (KpU.cons (rfl) (KpU.cons (rfl) (KpU.cons (rfl) (KpU.nil _ _))))))))))))))))  h1
set_option maxRecDepth 20000 in
set_option maxHeartbeats 1000000 in
theorem siR27 (w0 : World) (p : Nat) (s : St) (d : Nat) (a : Act) (w : World) (K : Exit → Act → World → Prop) (hs : Sz 121 a)
    (h6 : sl a 6 = .pointer (some ⟨p, 0, none⟩)) (h8 : sl a 8 = .int .u32 (d : Int)) (h : MSt w0 p s w) (hq : Quiet s) (hn : s.now < 4611686018427387904) (hd : d < 4294967296)
    (hK : ∀ a' w', Sz 121 a' → Kp [0, 1, 5, 6, 8, 9, 10, 11, 12, 13, 37, 40, 77, 78, 105] a a' → MSt w0 p (s.tick d) w' → K .normal a' w') :
    (regionOf Tryz.f4 27).wp Tryz.prog K a w := by
  unfold Kp at hK; rw [siF_of hs]; clear hs; generalize sl a = u at *; clear a; have HK := Lib.hid hK; clear hK; conv => arg 2; whnf
  simp only [siF, h6, h8]
  go_wp2_with fail
  refine (keepTickQ d h hq hn hd).mono ?_
  rintro e w1 ⟨rfl, h1⟩
  go_wp2_with fail
  exact HK.out _ _  ⟨rfl, rfl⟩ (KpU.cons (rfl) (KpU.cons (rfl) (KpU.cons (rfl) (KpU.cons (h6.symm) (KpU.cons (h8.symm) (KpU.cons (rfl) (KpU.cons (rfl) (KpU.cons (rfl) (KpU.cons (rfl) (KpU.cons (rfl) (KpU.cons (rfl) (KpU.cons (rfl) (KpU.cons (rfl) (KpU.cons (rfl) (KpU.cons (rfl) (KpU.nil _ _))))))))))))))))  h1
set_option maxRecDepth 20000 in
set_option maxHeartbeats 1000000 in
theorem siR33 (w0 : World) (p : Nat) (s : St) (d : Nat) (a : Act) (w : World) (K : Exit → Act → World → Prop) (hs : Sz 121 a)
    (h6 : sl a 6 = .pointer (some ⟨p, 0, none⟩)) (h8 : sl a 8 = .int .u32 (d : Int)) (h : MSt w0 p s w) (hq : Quiet s) (hn : s.now < 4611686018427387904) (hd : d < 4294967296)
    (hK : ∀ a' w', Sz 121 a' → Kp [0, 1, 5, 6, 8, 9, 10, 11, 12, 13, 37, 40, 77, 78, 105] a a' → MSt w0 p (s.tick d) w' → K .normal a' w') :
    (regionOf Tryz.f4 33).wp Tryz.prog K a w := by
  unfold Kp at hK; rw [siF_of hs]; clear hs; generalize sl a = u at *; clear a; have HK := Lib.hid hK; clear hK; conv => arg 2; whnf
  simp only [siF, h6, h8]
  go_wp2_with fail
  refine (keepTickQ d h hq hn hd).mono ?_
  rintro e w1 ⟨rfl, h1⟩
  go_wp2_with fail
  exact HK.out _ _  ⟨rfl, rfl⟩ (KpU.cons (rfl) (KpU.cons (rfl) (KpU.cons (rfl) (KpU.cons (h6.symm) (KpU.cons (h8.symm) (KpU.cons (rfl) (KpU.cons (rfl) (KpU.cons (rfl) (KpU.cons (rfl) (KpU.cons (rfl) (KpU.cons (rfl) (KpU.cons (rfl) (KpU.cons (rfl) (KpU.cons (rfl) (KpU.cons (rfl) (KpU.nil _ _))))))))))))))))  h1
set_option maxRecDepth 20000 in
set_option maxHeartbeats 1000000 in
theorem siR16 (w0 : World) (p : Nat) (s : St) (a : Act) (w : World) (K : Exit → Act → World → Prop) (hs : Sz 121 a)
    (h6 : sl a 6 = .pointer (some ⟨p, 0, none⟩)) (h : MSt w0 p s w) (hl : s.tx.length ≤ 16)
    (hK : ∀ a' w' A c, Sz 121 a' → Kp [0, 1, 5, 6, 8, 9, 10, 11, 12, 37, 40, 77, 78, 105] a a' → sl a' 13 = .slice A s.tx.length c → s.tx.length ≤ c → (∀ i f, s.tx[i]? = some f → ∃ g, A = some ⟨g, 0, none⟩ ∧ w'.cell? ⟨g, i, none⟩ = some (.string (bs f))) → MSt w0 p { s with tx := [] } w' → K .normal a' w') :
    (regionOf Tryz.f4 16).wp Tryz.prog K a w := by
  unfold Kp at hK; rw [siF_of hs]; clear hs; generalize sl a = u at *; clear a; have HK := Lib.hid hK; clear hK; conv => arg 2; whnf
  simp only [siF, h6]
  go_wp2_with fail
  refine (keepTaken h hl).mono ?_
  rintro e w1 ⟨A, c, rfl, hc1, hA1, h1⟩
  go_wp2_with fail
  exact HK.out _ _ A c ⟨rfl, rfl⟩ (KpU.cons (rfl) (KpU.cons (rfl) (KpU.cons (rfl) (KpU.cons (h6.symm) (KpU.cons (rfl) (KpU.cons (rfl) (KpU.cons (rfl) (KpU.cons (rfl) (KpU.cons (rfl) (KpU.cons (rfl) (KpU.cons (rfl) (KpU.cons (rfl) (KpU.cons (rfl) (KpU.cons (rfl) (KpU.nil _ _))))))))))))))) (rfl) hc1 hA1 h1
set_option maxRecDepth 20000 in
set_option maxHeartbeats 1000000 in
theorem siR17a (w0 : World) (p : Nat) (s : St) (g : Nat) (c : Nat) (a : Act) (w : World) (K : Exit → Act → World → Prop) (hs : Sz 121 a)
    (h6 : sl a 6 = .pointer (some ⟨p, 0, none⟩)) (h12 : sl a 12 = .int .i64 0) (h13 : sl a 13 = .slice (some ⟨g, 0, none⟩) 1 c) (h : MSt w0 p s w) (hl : ((s.lease : Int) != 1) = false)
    (hK : ∀ a' w', Sz 121 a' → Kp [0, 1, 5, 6, 8, 9, 10, 11, 12, 13, 37, 40, 77, 78, 105] a a' → sl a' 69 = .bool false → MSt w0 p s w' → (∀ v, w.cell? ⟨g, 0, none⟩ = some v → w'.cell? ⟨g, 0, none⟩ = some v) → K .normal a' w') :
    (regionOf Tryz.f4 17).wp Tryz.prog K a w := by
  unfold Kp at hK; rw [siF_of hs]; clear hs; generalize sl a = u at *; clear a; have HK := Lib.hid hK; clear hK; conv => arg 2; whnf
  simp only [siF, h6, h12, h13]
  have hfd : ∀ w : World, (Instr.field 59 (.agg #[.int .i64 s.now, .int .i64 (s.lease : Int), .int .i64 (s.phase : Int), .int .u32 (s.address : Int), .int .i64 s.boots, .int .i64 (s.image.length : Int), .int .i64 s.lost, .int .i64 (s.cache.length : Int)]) 1).run Tryz.prog w = .ok (.int .i64 (s.lease : Int)) w := fun _ => by kernel_rfl
  go_wp2_with fail
  refine (keepLookF h).mono ?_
  rintro e w1 ⟨rfl, h1, hf1⟩
  have hw1 : ∀ v, w.cell? ⟨g, 0, none⟩ = some v → w1.cell? ⟨g, 0, none⟩ = some v := fun v hv => (hf1.cell (a := ⟨g, 0, none⟩) (cell_ltK hv) (fun x => x)).trans hv
  unfold lookV
  go_wp2_with fail
  exact HK.out _ _  ⟨rfl, rfl⟩ (KpU.cons (rfl) (KpU.cons (rfl) (KpU.cons (rfl) (KpU.cons (h6.symm) (KpU.cons (rfl) (KpU.cons (rfl) (KpU.cons (rfl) (KpU.cons (rfl) (KpU.cons (h12.symm) (KpU.cons (h13.symm) (KpU.cons (rfl) (KpU.cons (rfl) (KpU.cons (rfl) (KpU.cons (rfl) (KpU.cons (rfl) (KpU.nil _ _)))))))))))))))) (rfl) h1 hw1
set_option maxRecDepth 20000 in
set_option maxHeartbeats 1000000 in
theorem siR17b (w0 : World) (p : Nat) (s : St) (g : Nat) (c k : Nat) (x f : List UInt8) (a : Act) (w : World) (K : Exit → Act → World → Prop) (hs : Sz 121 a)
    (h6 : sl a 6 = .pointer (some ⟨p, 0, none⟩)) (h11 : sl a 11 = .string (bs x)) (h12 : sl a 12 = .int .i64 (k : Int)) (h13 : sl a 13 = .slice (some ⟨g, 0, none⟩) 1 c) (h : MSt w0 p s w) (hl : ((s.lease : Int) != 1) = false) (hk : 0 < (k : Int)) (hf : w.cell? ⟨g, 0, none⟩ = some (.string (bs f))) (hx : ((x.length : Int) != (f.length : Int)) = false)
    (hK : ∀ a' w', Sz 121 a' → Kp [0, 1, 5, 6, 8, 9, 10, 11, 12, 13, 37, 40, 77, 78, 105] a a' → sl a' 69 = .bool false → MSt w0 p s w' → (∀ v, w.cell? ⟨g, 0, none⟩ = some v → w'.cell? ⟨g, 0, none⟩ = some v) → K .normal a' w') :
    (regionOf Tryz.f4 17).wp Tryz.prog K a w := by
  unfold Kp at hK; rw [siF_of hs]; clear hs; generalize sl a = u at *; clear a; have HK := Lib.hid hK; clear hK; conv => arg 2; whnf
  simp only [siF, h6, h11, h12, h13]
  have hfd : ∀ w : World, (Instr.field 59 (.agg #[.int .i64 s.now, .int .i64 (s.lease : Int), .int .i64 (s.phase : Int), .int .u32 (s.address : Int), .int .i64 s.boots, .int .i64 (s.image.length : Int), .int .i64 s.lost, .int .i64 (s.cache.length : Int)]) 1).run Tryz.prog w = .ok (.int .i64 (s.lease : Int)) w := fun _ => by kernel_rfl
  go_wp2_with fail
  refine (keepLookF h).mono ?_
  rintro e w1 ⟨rfl, h1, hf1⟩
  have hw1 : ∀ v, w.cell? ⟨g, 0, none⟩ = some v → w1.cell? ⟨g, 0, none⟩ = some v := fun v hv => (hf1.cell (a := ⟨g, 0, none⟩) (cell_ltK hv) (fun x => x)).trans hv
  unfold lookV
  go_wp2_with fail
  exact HK.out _ _  ⟨rfl, rfl⟩ (KpU.cons (rfl) (KpU.cons (rfl) (KpU.cons (rfl) (KpU.cons (h6.symm) (KpU.cons (rfl) (KpU.cons (rfl) (KpU.cons (rfl) (KpU.cons (h11.symm) (KpU.cons (h12.symm) (KpU.cons (h13.symm) (KpU.cons (rfl) (KpU.cons (rfl) (KpU.cons (rfl) (KpU.cons (rfl) (KpU.cons (rfl) (KpU.nil _ _)))))))))))))))) (rfl) h1 hw1
set_option maxRecDepth 20000 in
set_option maxHeartbeats 1000000 in
theorem siR19 (g : Nat) (c : Nat) (f : List UInt8) (a : Act) (w : World) (K : Exit → Act → World → Prop) (hs : Sz 121 a)
    (h13 : sl a 13 = .slice (some ⟨g, 0, none⟩) 1 c) (hf : w.cell? ⟨g, 0, none⟩ = some (.string (bs f)))
    (hK : ∀ a' w', Sz 121 a' → Kp [0, 1, 5, 6, 8, 9, 10, 12, 13, 37, 40, 77, 78, 105] a a' → sl a' 11 = .string (bs f) → w' = w → K .normal a' w') :
    (regionOf Tryz.f4 19).wp Tryz.prog K a w := by
  unfold Kp at hK; rw [siF_of hs]; clear hs; generalize sl a = u at *; clear a; have HK := Lib.hid hK; clear hK; conv => arg 2; whnf
  simp only [siF, h13]
  go_wp2_with fail
  exact HK.out _ _  ⟨rfl, rfl⟩ (KpU.cons (rfl) (KpU.cons (rfl) (KpU.cons (rfl) (KpU.cons (rfl) (KpU.cons (rfl) (KpU.cons (rfl) (KpU.cons (rfl) (KpU.cons (rfl) (KpU.cons (h13.symm) (KpU.cons (rfl) (KpU.cons (rfl) (KpU.cons (rfl) (KpU.cons (rfl) (KpU.cons (rfl) (KpU.nil _ _))))))))))))))) (rfl) rfl
set_option maxRecDepth 20000 in
set_option maxHeartbeats 1000000 in
theorem siR20_0 (j n : Int) (a : Act) (w : World) (K : Exit → Act → World → Prop) (hs : Sz 121 a)
    (h12 : sl a 12 = .int .i64 0) (h9 : sl a 9 = .int .i64 j) (q1 : IntKind.i64.wrap (2 + j) = 2 + j) (q2 : IntKind.i64.wrap (2 + j - 1) = n)
    (hK : ∀ a' w', Sz 121 a' → Kp [0, 1, 5, 6, 8, 9, 10, 11, 12, 13, 37, 40, 105] a a' → sl a' 77 = .int .i64 n → sl a' 78 = .int .i64 ((0 : Nat) : Int) → w' = w → K .normal a' w') :
    (regionOf Tryz.f4 20).wp Tryz.prog K a w := by
  unfold Kp at hK; rw [siF_of hs]; clear hs; generalize sl a = u at *; clear a; have HK := Lib.hid hK; clear hK; conv => arg 2; whnf
  simp only [siF, h12, h9]
  go_wp2_with fail
  exact HK.out _ _  ⟨rfl, rfl⟩ (KpU.cons (rfl) (KpU.cons (rfl) (KpU.cons (rfl) (KpU.cons (rfl) (KpU.cons (rfl) (KpU.cons (h9.symm) (KpU.cons (rfl) (KpU.cons (rfl) (KpU.cons (h12.symm) (KpU.cons (rfl) (KpU.cons (rfl) (KpU.cons (rfl) (KpU.cons (rfl) (KpU.nil _ _)))))))))))))) (rfl) (rfl) rfl
set_option maxRecDepth 20000 in
set_option maxHeartbeats 1000000 in
theorem siR20_1 (j n : Int) (a : Act) (w : World) (K : Exit → Act → World → Prop) (hs : Sz 121 a)
    (h12 : sl a 12 = .int .i64 1) (h9 : sl a 9 = .int .i64 j) (q1 : IntKind.i64.wrap (4 + j) = 4 + j) (q2 : IntKind.i64.wrap (4 + j - 1) = n)
    (hK : ∀ a' w', Sz 121 a' → Kp [0, 1, 5, 6, 8, 9, 10, 11, 12, 13, 37, 40, 105] a a' → sl a' 77 = .int .i64 n → sl a' 78 = .int .i64 ((0 : Nat) : Int) → w' = w → K .normal a' w') :
    (regionOf Tryz.f4 20).wp Tryz.prog K a w := by
  unfold Kp at hK; rw [siF_of hs]; clear hs; generalize sl a = u at *; clear a; have HK := Lib.hid hK; clear hK; conv => arg 2; whnf
  simp only [siF, h12, h9]
  go_wp2_with fail
  exact HK.out _ _  ⟨rfl, rfl⟩ (KpU.cons (rfl) (KpU.cons (rfl) (KpU.cons (rfl) (KpU.cons (rfl) (KpU.cons (rfl) (KpU.cons (h9.symm) (KpU.cons (rfl) (KpU.cons (rfl) (KpU.cons (h12.symm) (KpU.cons (rfl) (KpU.cons (rfl) (KpU.cons (rfl) (KpU.cons (rfl) (KpU.nil _ _)))))))))))))) (rfl) (rfl) rfl
set_option maxRecDepth 20000 in
set_option maxHeartbeats 1000000 in
theorem siR20_2 (j n : Int) (a : Act) (w : World) (K : Exit → Act → World → Prop) (hs : Sz 121 a)
    (h12 : sl a 12 = .int .i64 2) (h9 : sl a 9 = .int .i64 j) (q1 : IntKind.i64.wrap (8 + j) = 8 + j) (q2 : IntKind.i64.wrap (8 + j - 1) = n)
    (hK : ∀ a' w', Sz 121 a' → Kp [0, 1, 5, 6, 8, 9, 10, 11, 12, 13, 37, 40, 105] a a' → sl a' 77 = .int .i64 n → sl a' 78 = .int .i64 ((0 : Nat) : Int) → w' = w → K .normal a' w') :
    (regionOf Tryz.f4 20).wp Tryz.prog K a w := by
  unfold Kp at hK; rw [siF_of hs]; clear hs; generalize sl a = u at *; clear a; have HK := Lib.hid hK; clear hK; conv => arg 2; whnf
  simp only [siF, h12, h9]
  go_wp2_with fail
  exact HK.out _ _  ⟨rfl, rfl⟩ (KpU.cons (rfl) (KpU.cons (rfl) (KpU.cons (rfl) (KpU.cons (rfl) (KpU.cons (rfl) (KpU.cons (h9.symm) (KpU.cons (rfl) (KpU.cons (rfl) (KpU.cons (h12.symm) (KpU.cons (rfl) (KpU.cons (rfl) (KpU.cons (rfl) (KpU.cons (rfl) (KpU.nil _ _)))))))))))))) (rfl) (rfl) rfl
set_option maxRecDepth 20000 in
set_option maxHeartbeats 1000000 in
theorem siR20_3 (j n : Int) (a : Act) (w : World) (K : Exit → Act → World → Prop) (hs : Sz 121 a)
    (h12 : sl a 12 = .int .i64 3) (h9 : sl a 9 = .int .i64 j) (q1 : IntKind.i64.wrap (16 + j) = 16 + j) (q2 : IntKind.i64.wrap (16 + j - 1) = n)
    (hK : ∀ a' w', Sz 121 a' → Kp [0, 1, 5, 6, 8, 9, 10, 11, 12, 13, 37, 40, 105] a a' → sl a' 77 = .int .i64 n → sl a' 78 = .int .i64 ((0 : Nat) : Int) → w' = w → K .normal a' w') :
    (regionOf Tryz.f4 20).wp Tryz.prog K a w := by
  unfold Kp at hK; rw [siF_of hs]; clear hs; generalize sl a = u at *; clear a; have HK := Lib.hid hK; clear hK; conv => arg 2; whnf
  simp only [siF, h12, h9]
  go_wp2_with fail
  exact HK.out _ _  ⟨rfl, rfl⟩ (KpU.cons (rfl) (KpU.cons (rfl) (KpU.cons (rfl) (KpU.cons (rfl) (KpU.cons (rfl) (KpU.cons (h9.symm) (KpU.cons (rfl) (KpU.cons (rfl) (KpU.cons (h12.symm) (KpU.cons (rfl) (KpU.cons (rfl) (KpU.cons (rfl) (KpU.cons (rfl) (KpU.nil _ _)))))))))))))) (rfl) (rfl) rfl
set_option maxRecDepth 20000 in
set_option maxHeartbeats 1000000 in
theorem siR21 (i n : Nat) (a : Act) (w : World) (K : Exit → Act → World → Prop) (hs : Sz 121 a)
    (h77 : sl a 77 = .int .i64 (n : Int)) (h78 : sl a 78 = .int .i64 (i : Int)) 
    (hK : ∀ a' w', Sz 121 a' → Kp [0, 1, 5, 6, 8, 9, 10, 11, 12, 13, 37, 40, 77, 78, 105] a a' → sl a' 79 = .bool (decide (i < n)) → w' = w → K .normal a' w') :
    (regionOf Tryz.f4 21).wp Tryz.prog K a w := by
  unfold Kp at hK; rw [siF_of hs]; clear hs; generalize sl a = u at *; clear a; have HK := Lib.hid hK; clear hK; conv => arg 2; whnf
  simp only [siF, h77, h78]
  go_wp2_with fail
  exact HK.out _ _  ⟨rfl, rfl⟩ (KpU.cons (rfl) (KpU.cons (rfl) (KpU.cons (rfl) (KpU.cons (rfl) (KpU.cons (rfl) (KpU.cons (rfl) (KpU.cons (rfl) (KpU.cons (rfl) (KpU.cons (rfl) (KpU.cons (rfl) (KpU.cons (rfl) (KpU.cons (rfl) (KpU.cons (h77.symm) (KpU.cons (h78.symm) (KpU.cons (rfl) (KpU.nil _ _)))))))))))))))) (congrArg Value.bool (decide_eq_decide.2 (by omega))) rfl
set_option maxRecDepth 20000 in
set_option maxHeartbeats 1000000 in
theorem siR23 (w0 : World) (p : Nat) (s : St) (a : Act) (w : World) (K : Exit → Act → World → Prop) (hs : Sz 121 a)
    (h6 : sl a 6 = .pointer (some ⟨p, 0, none⟩)) (h : MSt w0 p s w) (hl : s.tx = [])
    (hK : ∀ a' w', Sz 121 a' → Kp [0, 1, 5, 6, 8, 9, 10, 11, 12, 13, 37, 40, 77, 78, 105] a a' → sl a' 86 = .bool false → MSt w0 p s w' → K .normal a' w') :
    (regionOf Tryz.f4 23).wp Tryz.prog K a w := by
  unfold Kp at hK; rw [siF_of hs]; clear hs; generalize sl a = u at *; clear a; have HK := Lib.hid hK; clear hK; conv => arg 2; whnf
  simp only [siF, h6]
  go_wp2_with fail
  refine (keepTaken h (by rw [hl]; decide)).mono ?_
  rintro e w1 ⟨A, c, rfl, hc1, hA1, h1⟩
  rw [tx_none hl] at h1
  rw [hl]
  go_wp2_with fail
  exact HK.out _ _  ⟨rfl, rfl⟩ (KpU.cons (rfl) (KpU.cons (rfl) (KpU.cons (rfl) (KpU.cons (h6.symm) (KpU.cons (rfl) (KpU.cons (rfl) (KpU.cons (rfl) (KpU.cons (rfl) (KpU.cons (rfl) (KpU.cons (rfl) (KpU.cons (rfl) (KpU.cons (rfl) (KpU.cons (rfl) (KpU.cons (rfl) (KpU.cons (rfl) (KpU.nil _ _)))))))))))))))) (rfl) h1
set_option maxRecDepth 20000 in
set_option maxHeartbeats 1000000 in
theorem siR25 (i j : Nat) (a : Act) (w : World) (K : Exit → Act → World → Prop) (hs : Sz 121 a)
    (h78 : sl a 78 = .int .i64 (i : Int)) (q : IntKind.i64.wrap ((i : Int) + 1) = (j : Int))
    (hK : ∀ a' w', Sz 121 a' → Kp [0, 1, 5, 6, 8, 9, 10, 11, 12, 13, 37, 40, 77, 105] a a' → sl a' 78 = .int .i64 (j : Int) → w' = w → K .normal a' w') :
    (regionOf Tryz.f4 25).wp Tryz.prog K a w := by
  unfold Kp at hK; rw [siF_of hs]; clear hs; generalize sl a = u at *; clear a; have HK := Lib.hid hK; clear hK; conv => arg 2; whnf
  simp only [siF, h78]
  clear h78
  go_wp2_with fail
  exact HK.out _ _  ⟨rfl, rfl⟩ (KpU.cons (rfl) (KpU.cons (rfl) (KpU.cons (rfl) (KpU.cons (rfl) (KpU.cons (rfl) (KpU.cons (rfl) (KpU.cons (rfl) (KpU.cons (rfl) (KpU.cons (rfl) (KpU.cons (rfl) (KpU.cons (rfl) (KpU.cons (rfl) (KpU.cons (rfl) (KpU.cons (rfl) (KpU.nil _ _))))))))))))))) (rfl) rfl
set_option maxRecDepth 20000 in
set_option maxHeartbeats 1000000 in
theorem siR26 (i j : Nat) (a : Act) (w : World) (K : Exit → Act → World → Prop) (hs : Sz 121 a)
    (h40 : sl a 40 = .int .i64 (i : Int)) (q : IntKind.i64.wrap ((i : Int) + 1) = (j : Int))
    (hK : ∀ a' w', Sz 121 a' → Kp [0, 1, 5, 6, 8, 9, 10, 11, 12, 13, 37, 77, 78, 105] a a' → sl a' 40 = .int .i64 (j : Int) → w' = w → K .normal a' w') :
    (regionOf Tryz.f4 26).wp Tryz.prog K a w := by
  unfold Kp at hK; rw [siF_of hs]; clear hs; generalize sl a = u at *; clear a; have HK := Lib.hid hK; clear hK; conv => arg 2; whnf
  simp only [siF, h40]
  clear h40
  go_wp2_with fail
  exact HK.out _ _  ⟨rfl, rfl⟩ (KpU.cons (rfl) (KpU.cons (rfl) (KpU.cons (rfl) (KpU.cons (rfl) (KpU.cons (rfl) (KpU.cons (rfl) (KpU.cons (rfl) (KpU.cons (rfl) (KpU.cons (rfl) (KpU.cons (rfl) (KpU.cons (rfl) (KpU.cons (rfl) (KpU.cons (rfl) (KpU.cons (rfl) (KpU.nil _ _))))))))))))))) (rfl) rfl
set_option maxRecDepth 20000 in
set_option maxHeartbeats 1000000 in
theorem siR30 (i j : Nat) (a : Act) (w : World) (K : Exit → Act → World → Prop) (hs : Sz 121 a)
    (h37 : sl a 37 = .int .i64 (i : Int)) (q : IntKind.i64.wrap ((i : Int) + 1) = (j : Int))
    (hK : ∀ a' w', Sz 121 a' → Kp [0, 1, 5, 6, 8, 9, 10, 11, 12, 13, 40, 77, 78, 105] a a' → sl a' 37 = .int .i64 (j : Int) → w' = w → K .normal a' w') :
    (regionOf Tryz.f4 30).wp Tryz.prog K a w := by
  unfold Kp at hK; rw [siF_of hs]; clear hs; generalize sl a = u at *; clear a; have HK := Lib.hid hK; clear hK; conv => arg 2; whnf
  simp only [siF, h37]
  clear h37
  go_wp2_with fail
  exact HK.out _ _  ⟨rfl, rfl⟩ (KpU.cons (rfl) (KpU.cons (rfl) (KpU.cons (rfl) (KpU.cons (rfl) (KpU.cons (rfl) (KpU.cons (rfl) (KpU.cons (rfl) (KpU.cons (rfl) (KpU.cons (rfl) (KpU.cons (rfl) (KpU.cons (rfl) (KpU.cons (rfl) (KpU.cons (rfl) (KpU.cons (rfl) (KpU.nil _ _))))))))))))))) (rfl) rfl
set_option maxRecDepth 20000 in
set_option maxHeartbeats 1000000 in
theorem siR34 (i j : Nat) (a : Act) (w : World) (K : Exit → Act → World → Prop) (hs : Sz 121 a)
    (h105 : sl a 105 = .int .i64 (i : Int)) (q : IntKind.i64.wrap ((i : Int) + 1) = (j : Int))
    (hK : ∀ a' w', Sz 121 a' → Kp [0, 1, 5, 6, 8, 9, 10, 11, 12, 13, 37, 40, 77, 78] a a' → sl a' 105 = .int .i64 (j : Int) → w' = w → K .normal a' w') :
    (regionOf Tryz.f4 34).wp Tryz.prog K a w := by
  unfold Kp at hK; rw [siF_of hs]; clear hs; generalize sl a = u at *; clear a; have HK := Lib.hid hK; clear hK; conv => arg 2; whnf
  simp only [siF, h105]
  clear h105
  go_wp2_with fail
  exact HK.out _ _  ⟨rfl, rfl⟩ (KpU.cons (rfl) (KpU.cons (rfl) (KpU.cons (rfl) (KpU.cons (rfl) (KpU.cons (rfl) (KpU.cons (rfl) (KpU.cons (rfl) (KpU.cons (rfl) (KpU.cons (rfl) (KpU.cons (rfl) (KpU.cons (rfl) (KpU.cons (rfl) (KpU.cons (rfl) (KpU.cons (rfl) (KpU.nil _ _))))))))))))))) (rfl) rfl
set_option maxRecDepth 20000 in
set_option maxHeartbeats 1000000 in
theorem siR28 (w0 : World) (p : Nat) (s : St) (r : Nat) (a : Act) (w : World) (K : Exit → Act → World → Prop) (hs : Sz 121 a)
    (h6 : sl a 6 = .pointer (some ⟨p, 0, none⟩)) (h10 : sl a 10 = .int .i64 (r : Int)) (h : MSt w0 p s w) (hl : s.tx = []) (q : IntKind.i64.wrap ((r : Int) + 1) = (r : Int) + 1) (hb : (s.boots != ((r : Int) + 1)) = false)
    (hK : ∀ a' w', Sz 121 a' → Kp [0, 1, 5, 6, 8, 9, 10, 11, 12, 13, 37, 40, 77, 78, 105] a a' → sl a' 103 = .bool false → MSt w0 p s w' → K .normal a' w') :
    (regionOf Tryz.f4 28).wp Tryz.prog K a w := by
  unfold Kp at hK; rw [siF_of hs]; clear hs; generalize sl a = u at *; clear a; have HK := Lib.hid hK; clear hK; conv => arg 2; whnf
  simp only [siF, h6, h10]
  have hfd : ∀ w : World, (Instr.field 59 (.agg #[.int .i64 s.now, .int .i64 (s.lease : Int), .int .i64 (s.phase : Int), .int .u32 (s.address : Int), .int .i64 s.boots, .int .i64 (s.image.length : Int), .int .i64 s.lost, .int .i64 (s.cache.length : Int)]) 4).run Tryz.prog w = .ok (.int .i64 s.boots) w := fun _ => by kernel_rfl
  go_wp2_with fail
  refine (keepTaken h (by rw [hl]; decide)).mono ?_
  rintro e w1 ⟨A, c, rfl, hc1, hA1, h1⟩
  rw [tx_none hl] at h1
  rw [hl]
  go_wp2_with fail
  refine (keepLook h1).mono ?_
  rintro e w2 ⟨rfl, h2⟩
  unfold lookV
  go_wp2_with fail
  exact HK.out _ _  ⟨rfl, rfl⟩ (KpU.cons (rfl) (KpU.cons (rfl) (KpU.cons (rfl) (KpU.cons (h6.symm) (KpU.cons (rfl) (KpU.cons (rfl) (KpU.cons (h10.symm) (KpU.cons (rfl) (KpU.cons (rfl) (KpU.cons (rfl) (KpU.cons (rfl) (KpU.cons (rfl) (KpU.cons (rfl) (KpU.cons (rfl) (KpU.cons (rfl) (KpU.nil _ _)))))))))))))))) (rfl) h2
set_option maxRecDepth 20000 in
set_option maxHeartbeats 1000000 in
theorem siR35 (w0 : World) (p : Nat) (s : St) (a : Act) (w : World) (K : Exit → Act → World → Prop) (hs : Sz 121 a)
    (h6 : sl a 6 = .pointer (some ⟨p, 0, none⟩)) (h : MSt w0 p s w) (hl : s.tx = []) (hb : ((s.phase : Int) == 4) = true)
    (hK : ∀ a' w', Sz 121 a' → Kp [0, 1, 5, 6, 8, 9, 10, 11, 12, 13, 37, 40, 77, 78, 105] a a' → sl a' 4 = .bool true → MSt w0 p s w' → K .normal a' w') :
    (regionOf Tryz.f4 35).wp Tryz.prog K a w := by
  unfold Kp at hK; rw [siF_of hs]; clear hs; generalize sl a = u at *; clear a; have HK := Lib.hid hK; clear hK; conv => arg 2; whnf
  simp only [siF, h6]
  have hfd : ∀ w : World, (Instr.field 59 (.agg #[.int .i64 s.now, .int .i64 (s.lease : Int), .int .i64 (s.phase : Int), .int .u32 (s.address : Int), .int .i64 s.boots, .int .i64 (s.image.length : Int), .int .i64 s.lost, .int .i64 (s.cache.length : Int)]) 2).run Tryz.prog w = .ok (.int .i64 (s.phase : Int)) w := fun _ => by kernel_rfl
  go_wp2_with fail
  refine (keepTaken h (by rw [hl]; decide)).mono ?_
  rintro e w1 ⟨A, c, rfl, hc1, hA1, h1⟩
  rw [tx_none hl] at h1
  rw [hl]
  go_wp2_with fail
  refine (keepLook h1).mono ?_
  rintro e w2 ⟨rfl, h2⟩
  unfold lookV
  go_wp2_with fail
  exact HK.out _ _  ⟨rfl, rfl⟩ (KpU.cons (rfl) (KpU.cons (rfl) (KpU.cons (rfl) (KpU.cons (h6.symm) (KpU.cons (rfl) (KpU.cons (rfl) (KpU.cons (rfl) (KpU.cons (rfl) (KpU.cons (rfl) (KpU.cons (rfl) (KpU.cons (rfl) (KpU.cons (rfl) (KpU.cons (rfl) (KpU.cons (rfl) (KpU.cons (rfl) (KpU.nil _ _)))))))))))))))) (rfl) h2
theorem siInner (w0 : World) (p : Nat) (c : CfgD) (d : Nat) (b t : Int) (k n : Nat) (ag : Int) (s0 : St) (hd : d < 4294967296) (h0 : 0 ≤ t) (h1 : t ≤ 10000) (hn : n ≤ 100) (hag : ag = t + n + 1) (hS : Sel c d b t k ag s0)
    (a : Act) (w : World) (K : Exit → Act → World → Prop) (hs : Sz 121 a) (h6 : sl a 6 = .pointer (some ⟨p, 0, none⟩)) (h8 : sl a 8 = .int .u32 (d : Int)) (h77 : sl a 77 = .int .i64 (n : Int)) (h78 : sl a 78 = .int .i64 ((0 : Nat) : Int)) (hM : MSt w0 p s0 w)
    (hK : ∀ a' w' s', Sz 121 a' → Kp [6, 8, 9, 10, 11, 37, 40] a a' → MSt w0 p s' w' → Sel c d b (t + n) k ag s' → K .normal a' w') : (Code.block 4 (((regionOf Tryz.f4 21).seq ((Code.cond (.tmp 79) .skip (.exit 4)).seq ((Code.block 5 ((regionOf Tryz.f4 22).seq ((regionOf Tryz.f4 23).seq (.cond (.tmp 86) ((regionOf Tryz.f4 24).seq .ret) .skip)))).seq (regionOf Tryz.f4 25)))).loop)).wp Tryz.prog K a w := by
  refine wp_block ?_
  refine wp_loop_sz 121 (fun a' w' => ∃ (i : Nat) (s' : St), i ≤ n ∧ sl a' 78 = .int .i64 (i : Int) ∧ Kp [6, 8, 9, 10, 11, 37, 40, 77] a a' ∧ MSt w0 p s' w' ∧ Sel c d b (t + i) k ag s') (fun a' _ => n - (intOf (sl a' 78)).toNat)
    hs ⟨0, s0, Nat.zero_le _, h78, Kp.refl _ _, hM, by simpa using hS⟩ ?_
  rintro a1 w1 hs1 ⟨i, s1, hi, i78, k1, hM1, hS1⟩
  refine wp_seq ?_
  refine siR21 i n a1 w1 _ hs1 ((k1 77 (by decide)).trans h77) i78 ?_
  intro a2 w2 hs2 k2 o79 hw; subst w2
  refine wp_seq ?_
  refine wp_if o79 (fun hb => ?_) (fun hb => ?_)
  rotate_left
  · have hin : i = n := by have := of_decide_eq_false hb; omega
    subst hin
    refine wp_exit (then_exit (then_exit (inBlock_self ?_)))
    exact hK a2 w1 s1 hs2 (fun i hi => ((k2 i (by revert hi; revert i; decide)).trans (k1 i (by revert hi; revert i; decide)))) hM1 hS1
  have hlt := of_decide_eq_true hb
  refine wp_skip ?_
  have z6 := (k2 6 (by decide)).trans ((k1 6 (by decide)).trans h6)
  have z8 := (k2 8 (by decide)).trans ((k1 8 (by decide)).trans h8)
  refine wp_seq (wp_block (wp_seq ?_))
  refine siR22 w0 p s1 d a2 w1 _ hs2 z6 z8 hM1 hS1.quiet (by rw [hS1.now]; omega) hd ?_
  intro a3 w3 hs3 k3 hM3
  obtain ⟨htx, hS3⟩ := hS1.early (by omega) (by omega) (by omega)
  have z6 := (k3 6 (by decide)).trans z6
  refine wp_seq ?_
  refine siR23 w0 p _ a3 w3 _ hs3 z6 hM3 htx ?_
  intro a4 w4 hs4 k4 o86 hM4
  refine wp_if o86 (fun hb => by cases hb) (fun _ => ?_)
  refine wp_skip ?_
  refine siR25 i (i + 1) a4 w4 _ hs4 ((k4 78 (by decide)).trans ((k3 78 (by decide)).trans ((k2 78 (by decide)).trans i78))) ((IntWalk.i64_in _ (by omega)).trans (by omega)) ?_
  intro a5 w5 hs5 k5 o78 hw; subst w5
  refine ⟨hs5, ⟨i + 1, _, by omega, o78, (fun i hi => ((k5 i (by revert hi; revert i; decide)).trans ((k4 i (by revert hi; revert i; decide)).trans ((k3 i (by revert hi; revert i; decide)).trans ((k2 i (by revert hi; revert i; decide)).trans (k1 i (by revert hi; revert i; decide))))))), hM4, by rw [show t + ((i + 1 : Nat) : Int) = t + i + 1 by omega]; exact hS3⟩, ?_⟩
  rw [o78, i78]; simp only [intOf]; omega
theorem siRound (w0 : World) (p : Nat) (c : CfgD) (d r : Nat) (t0 : Int) (s0 : St) (hd : d < 4294967296) (hc : c.tx ≠ 0) (h0 : 0 ≤ t0) (h1 : t0 ≤ 5000) (hF : Fresh c r t0 s0)
    (a : Act) (w : World) (K : Exit → Act → World → Prop) (hs : Sz 121 a) (h6 : sl a 6 = .pointer (some ⟨p, 0, none⟩)) (h8 : sl a 8 = .int .u32 (d : Int)) (h9 : sl a 9 = .int .i64 ((d % 3 : Nat) - 1 : Int)) (h11 : sl a 11 = .string (bs [])) (h40 : sl a 40 = .int .i64 ((0 : Nat) : Int)) (hM : MSt w0 p s0 w)
    (hK : ∀ a' w' s' t', Sz 121 a' → Kp [6, 8, 9, 10, 37] a a' → MSt w0 p s' w' → t' ≤ t0 + 180 → 0 ≤ t' → Sel c d r t' 4 (t' + 1) s' → K .normal a' w') : (Code.block 2 (((regionOf Tryz.f4 13).seq ((Code.cond (.tmp 41) .skip (.exit 2)).seq ((Code.block 3 ((regionOf Tryz.f4 14).seq ((regionOf Tryz.f4 15).seq ((regionOf Tryz.f4 16).seq (((regionOf Tryz.f4 17).seq (.cond (.tmp 69) ((regionOf Tryz.f4 18).seq .ret) .skip)).seq ((regionOf Tryz.f4 19).seq ((regionOf Tryz.f4 20).seq (Code.block 4 (((regionOf Tryz.f4 21).seq ((Code.cond (.tmp 79) .skip (.exit 4)).seq ((Code.block 5 ((regionOf Tryz.f4 22).seq ((regionOf Tryz.f4 23).seq (.cond (.tmp 86) ((regionOf Tryz.f4 24).seq .ret) .skip)))).seq (regionOf Tryz.f4 25)))).loop))))))))).seq (regionOf Tryz.f4 26)))).loop)).wp Tryz.prog K a w := by
  have hj := Nat.mod_lt d (by omega : 0 < 3)
  refine wp_block ?_
  refine wp_loop_sz 121 (fun a' w' => ∃ (k : Nat) (s' : St) (t : Int) (x : List UInt8), k ≤ 4 ∧ sl a' 40 = .int .i64 (k : Int) ∧ sl a' 11 = .string (bs x) ∧ (0 < k → x.length = (askF c d 0).length) ∧ Kp [6, 8, 9, 10, 37] a a' ∧ MSt w0 p s' w' ∧ t0 ≤ t ∧ t ≤ t0 + 45 * k ∧ Ready c d r t k s') (fun a' _ => 4 - (intOf (sl a' 40)).toNat)
    hs ⟨0, s0, t0, [], Nat.zero_le _, h40, h11, fun h => absurd h (by decide), Kp.refl _ _, hM, by omega, by omega, .inl ⟨rfl, hF⟩⟩ ?_
  rintro a1 w1 hs1 ⟨k, s1, t, x, hk, i40, i11, hx, k1, hM1, ht0, ht1, hR1⟩
  refine wp_seq ?_
  refine siR13 k a1 w1 _ hs1 i40 ?_
  intro a2 w2 hs2 k2 o41 hw; subst w2
  refine wp_seq ?_
  refine wp_if o41 (fun hb => ?_) (fun hb => ?_)
  rotate_left
  · have hk4 : k = 4 := by have := of_decide_eq_false hb; omega
    subst hk4
    refine wp_exit (then_exit (then_exit (inBlock_self ?_)))
    rcases hR1 with ⟨hz, _⟩ | ⟨_, hS⟩
    · cases hz
    · exact hK a2 w1 s1 t hs2 (fun i hi => ((k2 i (by revert hi; revert i; decide)).trans (k1 i (by revert hi; revert i; decide)))) hM1 (by omega) (by omega) hS
  have hk4 := of_decide_eq_true hb
  refine wp_skip ?_
  refine wp_seq (wp_block (wp_seq ?_))
  have z6 := (k2 6 (by decide)).trans ((k1 6 (by decide)).trans h6)
  have z8 := (k2 8 (by decide)).trans ((k1 8 (by decide)).trans h8)
  have z9 := (k2 9 (by decide)).trans ((k1 9 (by decide)).trans h9)
  have z40 := (k2 40 (by decide)).trans i40
  have z11 := (k2 11 (by decide)).trans i11
  have k12 : Kp [6, 8, 9, 10, 37] a a2 := (fun i hi => ((k2 i (by revert hi; revert i; decide)).trans (k1 i (by revert hi; revert i; decide))))
  clear k1 k2
  refine siR14 k a2 w1 _ hs2 z40 ?_
  intro a3 w3 hs3 k3 o12 hw; subst w3
  refine wp_seq ?_
  refine siR15 w0 p s1 d a3 w1 _ hs3 ((k3 6 (by decide)).trans z6) ((k3 8 (by decide)).trans z8) hM1 hR1.quiet (by rw [hR1.now]; omega) hd ?_
  intro a4 w4 hs4 k4 hM4
  obtain ⟨htx, hS4⟩ := hR1.tick hk4 hc (by omega) (by omega)
  obtain ⟨f, hf⟩ : ∃ f, askF c d s1.id = f := ⟨_, rfl⟩
  have hfl : f.length = (askF c d 0).length := by rw [← hf]; exact askF_len _ _ _ _
  rw [hf] at htx
  clear hf
  refine wp_seq ?_
  refine siR16 w0 p _ a4 w4 _ hs4 ((k4 6 (by decide)).trans ((k3 6 (by decide)).trans z6)) hM4 (by rw [htx]; show 1 ≤ 16; decide) ?_
  intro a5 w5 A cc hs5 k5 o13 hcc hA5 hM5
  obtain ⟨g, rfl, hcell⟩ := hA5 0 f (by rw [htx]; rfl)
  rw [htx] at o13 hcc
  have y6 := (k5 6 (by decide)).trans ((k4 6 (by decide)).trans ((k3 6 (by decide)).trans z6))
  have y12 := (k5 12 (by decide)).trans ((k4 12 (by decide)).trans o12)
  have y11 := (k5 11 (by decide)).trans ((k4 11 (by decide)).trans ((k3 11 (by decide)).trans z11))
  have k15 : Kp [6, 8, 9, 10, 37] a a5 := (fun i hi => ((k5 i (by revert hi; revert i; decide)).trans ((k4 i (by revert hi; revert i; decide)).trans ((k3 i (by revert hi; revert i; decide)).trans (k12 i (by revert hi; revert i; decide))))))
  have z40 := (k5 40 (by decide)).trans ((k4 40 (by decide)).trans ((k3 40 (by decide)).trans z40))
  clear k12 k3 k4 k5
  have hl1 : ((({ s1.tick d with tx := [] } : St).lease : Int) != 1) = false := by rw [hS4.lease]; rfl
  obtain ⟨s5, hs5e⟩ : ∃ s5, ({ s1.tick d with tx := [] } : St) = s5 := ⟨_, rfl⟩
  rw [hs5e] at hS4 hM5 hl1
  clear hs5e
  refine wp_seq (wp_seq ?_)
  have key : ∀ J : Exit → Act → World → Prop, (∀ a' w', Sz 121 a' → Kp [6, 8, 9, 10, 12, 13, 37, 40] a5 a' → sl a' 69 = .bool false → MSt w0 p s5 w' → w'.cell? ⟨g, 0, none⟩ = some (.string (bs f)) → J .normal a' w') → (regionOf Tryz.f4 17).wp Tryz.prog J a5 w5 := fun J hJ => by
    rcases Nat.eq_zero_or_pos k with hk0 | hk0
    · subst hk0
      refine siR17a w0 p s5 g cc a5 w5 J hs5 y6 y12 o13 hM5 hl1 ?_
      intro a6 w6 hs6 k6 o69 hM6 hw6
      exact hJ a6 w6 hs6 (fun i hi => k6 i (by revert hi; revert i; decide)) o69 hM6 (hw6 _ hcell)
    · refine siR17b w0 p s5 g cc k x f a5 w5 J hs5 y6 y11 y12 o13 hM5 hl1 (by omega) hcell (by rw [hx hk0, hfl]; simp) ?_
      intro a6 w6 hs6 k6 o69 hM6 hw6
      exact hJ a6 w6 hs6 (fun i hi => k6 i (by revert hi; revert i; decide)) o69 hM6 (hw6 _ hcell)
  refine key _ ?_
  intro a6 w6 hs6 k6 o69 hM6 hcell6
  refine wp_if o69 (fun hb => by cases hb) (fun _ => ?_)
  refine wp_skip ?_
  refine wp_seq ?_
  refine siR19 g cc f a6 w6 _ hs6 ((k6 13 (by decide)).trans o13) hcell6 ?_
  intro a7 w7 hs7 k7 o11 hw; subst w7
  have k17 : Kp [6, 8, 9, 10, 37] a a7 := (fun i hi => ((k7 i (by revert hi; revert i; decide)).trans ((k6 i (by revert hi; revert i; decide)).trans (k15 i (by revert hi; revert i; decide)))))
  have y12 := (k7 12 (by decide)).trans ((k6 12 (by decide)).trans y12)
  have z40 := (k7 40 (by decide)).trans ((k6 40 (by decide)).trans z40)
  clear k15 k6 k7
  have y9 := (k17 9 (by decide)).trans h9
  refine wp_seq ?_
  obtain ⟨n, hn⟩ : ∃ n : Nat, (n : Int) = Wt d k - 1 := ⟨(Wt d k - 1).toNat, by have := Wt_le d k (by omega); omega⟩
  have hnl : n ≤ 40 := by have := Wt_le d k (by omega); omega
  have key2 : ∀ J : Exit → Act → World → Prop, (∀ a' w', Sz 121 a' → Kp [6, 8, 9, 10, 11, 37, 40] a7 a' → sl a' 77 = .int .i64 (n : Int) → sl a' 78 = .int .i64 ((0 : Nat) : Int) → w' = w6 → J .normal a' w') → (regionOf Tryz.f4 20).wp Tryz.prog J a7 w6 := fun J hJ => by
    have hn' := hn
    unfold Wt at hn'
    match k, hk4, y12, hn' with
    | 0, _, y12, hn' =>
      refine siR20_0 _ n a7 w6 J hs7 y12 y9 (IntWalk.i64_in _ (by omega)) ((IntWalk.i64_in _ (by omega)).trans (by omega)) ?_
      intro a8 w8 hs8 k8 o77 o78 hw
      exact hJ a8 w8 hs8 (fun i hi => k8 i (by revert hi; revert i; decide)) o77 o78 hw
    | 1, _, y12, hn' =>
      refine siR20_1 _ n a7 w6 J hs7 y12 y9 (IntWalk.i64_in _ (by omega)) ((IntWalk.i64_in _ (by omega)).trans (by omega)) ?_
      intro a8 w8 hs8 k8 o77 o78 hw
      exact hJ a8 w8 hs8 (fun i hi => k8 i (by revert hi; revert i; decide)) o77 o78 hw
    | 2, _, y12, hn' =>
      refine siR20_2 _ n a7 w6 J hs7 y12 y9 (IntWalk.i64_in _ (by omega)) ((IntWalk.i64_in _ (by omega)).trans (by omega)) ?_
      intro a8 w8 hs8 k8 o77 o78 hw
      exact hJ a8 w8 hs8 (fun i hi => k8 i (by revert hi; revert i; decide)) o77 o78 hw
    | 3, _, y12, hn' =>
      refine siR20_3 _ n a7 w6 J hs7 y12 y9 (IntWalk.i64_in _ (by omega)) ((IntWalk.i64_in _ (by omega)).trans (by omega)) ?_
      intro a8 w8 hs8 k8 o77 o78 hw
      exact hJ a8 w8 hs8 (fun i hi => k8 i (by revert hi; revert i; decide)) o77 o78 hw
  refine key2 _ ?_
  intro a8 w8 hs8 k8 o77 o78 hw; subst w8
  have k18 : Kp [6, 8, 9, 10, 37] a a8 := (fun i hi => ((k8 i (by revert hi; revert i; decide)).trans (k17 i (by revert hi; revert i; decide))))
  refine siInner w0 p c d r (t + 1) (k + 1) n _ s5 hd (by omega) (by omega) (by omega) (by omega) hS4 a8 w6 _ hs8 ((k18 6 (by decide)).trans h6) ((k18 8 (by decide)).trans h8) o77 o78 hM6 ?_
  intro a9 w9 s9 hs9 k9 hM9 hS9
  refine siR26 k (k + 1) a9 w9 _ hs9 ((k9 40 (by decide)).trans ((k8 40 (by decide)).trans z40)) ((IntWalk.i64_in _ (by omega)).trans (by omega)) ?_
  intro b1 v1 hs10 k10 o40 hw; subst v1
  refine ⟨hs10, ⟨k + 1, s9, t + 1 + n, f, by omega, o40, (k10 11 (by decide)).trans ((k9 11 (by decide)).trans ((k8 11 (by decide)).trans o11)), fun _ => hfl, (fun i hi => ((k10 i (by revert hi; revert i; decide)).trans ((k9 i (by revert hi; revert i; decide)).trans (k18 i (by revert hi; revert i; decide))))), hM9, by omega, by omega, .inr ⟨by omega, by rw [show t + 1 + n + 1 = t + 1 + Wt d k by omega]; exact hS9⟩⟩, ?_⟩
  rw [o40, i40]; simp only [intOf]; omega
end Go.Proofs.YtcbkaiakdhiloabGreatDoor
