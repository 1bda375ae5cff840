/- Parts of the walk; written by programs, merged. -/
import Derived.Test.YtcbkaiakdhiloabGreatDoorMad
import Derived.Test.YtcbkaiakdhiloabGreatDoorMah
import Derived.Test.YtcbkaiakdhiloabGreatDoorMak
import Derived.Test.YtcbkaiakdhiloabGreatDoorProg
import Derived.Test.YtcbkaiakdhiloabGreatDoorShelf
import Derived.WalkKit
import Derived.WalkLawsBesides
import Derived.WalkSpells
import Derived.Deep.AppendLies
import Derived.Deep.DrawnRows
import Derived.Maps.AppendAt
import Derived.StillTailTactics
import Derived.Lib.Hide
import Derived.Lib.AppendStr
import Derived.Lib.Strings
import Derived.Laws.MakeOwn
import Derived.Laws.OwnMore
import Derived.Laws.BitsAllLaws
import Derived.Orders
import Derived.Deep.MidRow
import Derived.Deep.DeepMust
import Derived.Deep.RegionHeld3
import Derived.Deep.RegionLaw
import Derived.Deep.LoopGhost
import Derived.Deep.Cut
import Derived.Deep.CutRange
import Derived.Deep.QuietTactic
import Derived.BigQuiet
import Derived.Lib.ConvBytes
import Derived.Lib.LazyBuf
import Derived.Recover
import Derived.OrdersHeld
import Derived.Lib.MapLaws
import Derived.Lib.TrimAscii
import Derived.Lib.LaidTab
import Derived.Lib.ItoaNum
import Derived.Maps.Own
import Derived.Maps.OwnOps
import Derived.Maps.OwnSet
import Derived.Maps.Views
import Derived.Maps.RangeWalk
import Derived.Deep.CutBlock
import Derived.Laws.StructEq
import Derived.DeepKeys
import Derived.Laws.RangeString
import Derived.Lib.OthersKept
set_option linter.unusedSimpArgs false
set_option linter.unusedVariables false
set_option maxRecDepth 20000
set_option maxHeartbeats 8000000
set_option maxRecDepth 20000
namespace Go.Proofs.YtcbkaiakdhiloabGreatDoor
open Go.RowKit Go.Proofs
attribute [local go_sem] bs_size bs_append bs_extract bs_toList
theorem refWithin (n lo hi : Int) (w : World) (b : Bool) (hb : decide (lo ≤ n ∧ n ≤ hi) = b) : Calls Tryz.prog 143 #[.int .i64 n, .int .i64 lo, .int .i64 hi] w fun e w' => e = .returned (.bool b) ∧ w' = w := by
  subst hb
  by_cases h1 : lo ≤ n
  · have hd : decide (lo ≤ n ∧ n ≤ hi) = decide (n ≤ hi) := decide_eq_decide.2 ⟨fun x => x.2, fun x => ⟨h1, x⟩⟩
    rw [hd]
    go_enter Tryz.func143, Tryz.ntmps143
    go_wp2_with fail
    exact bodyPost_ret (results_tmp rfl _ _ _) rfl ⟨rfl, rfl⟩
  · have hd : decide (lo ≤ n ∧ n ≤ hi) = false := decide_eq_false fun x => h1 x.1
    rw [hd]
    go_enter Tryz.func143, Tryz.ntmps143
    go_wp2_with fail
    exact bodyPost_ret (results_tmp rfl _ _ _) rfl ⟨rfl, rfl⟩
def rnF (u : Nat → Value) : Act := ⟨#[u 0, u 1, u 2, u 3, u 4, u 5, u 6, u 7, u 8, u 9, u 10, u 11, u 12, u 13, u 14, u 15, u 16, u 17, u 18, u 19, u 20, u 21, u 22, u 23, u 24, u 25, u 26, u 27, u 28, u 29, u 30, u 31, u 32, u 33, u 34, u 35, u 36, u 37, u 38, u 39, u 40, u 41, u 42, u 43, u 44, u 45, u 46, u 47, u 48, u 49, u 50, u 51, u 52, u 53, u 54, u 55, u 56, u 57, u 58, u 59, u 60, u 61, u 62, u 63, u 64, u 65, u 66, u 67], []⟩
set_option maxRecDepth 100000 in
theorem rnF_eq (u : Nat → Value) : rnF u = frN 68 u := rfl
theorem rnF_of {a : Act} (h : Sz 68 a) : a = rnF (sl a) := h.eq.trans (rnF_eq _).symm
theorem rnR0 (c : CfgI) (a : Act) (w : World) (K : Exit → Act → World → Prop) (hs : Sz 68 a)
    (h1 : sl a 1 = .agg (cfgC c)) 
    (hK : ∀ a' w', Sz 68 a' → Kp [0, 1, 6] a a' → sl a' 3 = .pointer (some ⟨w.heap.size, 0, none⟩) → Fr noB w w' → Bk w' w.heap.size 48 (cfgC c) → K .normal a' w') :
    (regionOf Tryz.f99 0).wp Tryz.prog K a w := by
  unfold Kp at hK; rw [rnF_of hs]; clear hs; generalize sl a = u at *; clear a; have HK := Lib.hid hK; clear hK; conv => arg 2; whnf
  simp only [rnF, h1]
  unfold cfgC
  go_wp2_with fail
  exact HK.out _ _  ⟨rfl, rfl⟩ (KpU.cons (rfl) (KpU.cons (h1.symm) (KpU.cons (rfl) (KpU.nil _ _)))) (rfl) ((Fr.refl _ _).alloc _) (Bk.new _ _ _)
theorem rnR1_0 (c : CfgI) (g : Nat) (a : Act) (w : World) (K : Exit → Act → World → Prop) (hs : Sz 68 a)
    (h3 : sl a 3 = .pointer (some ⟨g, 0, none⟩)) (hG : Bk w g 48 (cfgC c)) (q0 : decide ((1 : Int) ≤ (c.name.length : Int) ∧ (c.name.length : Int) ≤ 20) = false)
    (hK : ∀ a' w', Sz 68 a' → Kp [0, 1, 3, 4, 5] a a' → sl a' 6 = .bool false → w' = w → K .normal a' w') :
    (regionOf Tryz.f99 1).wp Tryz.prog K a w := by
  unfold Kp at hK; rw [rnF_of hs]; clear hs; generalize sl a = u at *; clear a; have HK := Lib.hid hK; clear hK; conv => arg 2; whnf
  simp only [rnF, h3]
  have hGc := hG.cells
  unfold cfgC at hGc
  go_wp2_with fail
  refine (refWithin (c.name.length : Int) 1 20 _ false q0).mono ?_
  rintro e w4 ⟨rfl, rfl⟩
  go_wp2_with fail
  exact HK.out _ _  ⟨rfl, rfl⟩ (KpU.cons (rfl) (KpU.cons (rfl) (KpU.cons (h3.symm) (KpU.cons (rfl) (KpU.cons (rfl) (KpU.nil _ _)))))) (rfl) rfl
theorem rnR1_1 (c : CfgI) (g : Nat) (a : Act) (w : World) (K : Exit → Act → World → Prop) (hs : Sz 68 a)
    (h3 : sl a 3 = .pointer (some ⟨g, 0, none⟩)) (hG : Bk w g 48 (cfgC c)) (hnl : c.name.length ≤ 4611686018427387904) (q0 : decide ((1 : Int) ≤ (c.name.length : Int) ∧ (c.name.length : Int) ≤ 20) = true) (q1 : wordB c.name = false)
    (hK : ∀ a' w', Sz 68 a' → Kp [0, 1, 3, 4, 5] a a' → sl a' 6 = .bool false → w' = w → K .normal a' w') :
    (regionOf Tryz.f99 1).wp Tryz.prog K a w := by
  unfold Kp at hK; rw [rnF_of hs]; clear hs; generalize sl a = u at *; clear a; have HK := Lib.hid hK; clear hK; conv => arg 2; whnf
  simp only [rnF, h3]
  have hGc := hG.cells
  unfold cfgC at hGc
  go_wp2_with fail
  refine (refWithin (c.name.length : Int) 1 20 _ true q0).mono ?_
  rintro e w4 ⟨rfl, rfl⟩
  go_wp2_with fail
  refine (refWord c.name _ hnl).mono ?_
  rintro e w4 ⟨rfl, rfl⟩
  rw [q1]
  go_wp2_with fail
  exact HK.out _ _  ⟨rfl, rfl⟩ (KpU.cons (rfl) (KpU.cons (rfl) (KpU.cons (h3.symm) (KpU.cons (rfl) (KpU.cons (rfl) (KpU.nil _ _)))))) (rfl) rfl
theorem rnR1_2 (c : CfgI) (g : Nat) (a : Act) (w : World) (K : Exit → Act → World → Prop) (hs : Sz 68 a)
    (h3 : sl a 3 = .pointer (some ⟨g, 0, none⟩)) (hG : Bk w g 48 (cfgC c)) (hnl : c.name.length ≤ 4611686018427387904) (q0 : decide ((1 : Int) ≤ (c.name.length : Int) ∧ (c.name.length : Int) ≤ 20) = true) (q1 : wordB c.name = true) (q2 : ((c.digest.length : Int) == 32) = false)
    (hK : ∀ a' w', Sz 68 a' → Kp [0, 1, 3, 4, 5] a a' → sl a' 6 = .bool false → w' = w → K .normal a' w') :
    (regionOf Tryz.f99 1).wp Tryz.prog K a w := by
  unfold Kp at hK; rw [rnF_of hs]; clear hs; generalize sl a = u at *; clear a; have HK := Lib.hid hK; clear hK; conv => arg 2; whnf
  simp only [rnF, h3]
  have hGc := hG.cells
  unfold cfgC at hGc
  go_wp2_with fail
  refine (refWithin (c.name.length : Int) 1 20 _ true q0).mono ?_
  rintro e w4 ⟨rfl, rfl⟩
  go_wp2_with fail
  refine (refWord c.name _ hnl).mono ?_
  rintro e w4 ⟨rfl, rfl⟩
  rw [q1]
  go_wp2_with fail
  exact HK.out _ _  ⟨rfl, rfl⟩ (KpU.cons (rfl) (KpU.cons (rfl) (KpU.cons (h3.symm) (KpU.cons (rfl) (KpU.cons (rfl) (KpU.nil _ _)))))) (rfl) rfl
theorem rnR1_3 (c : CfgI) (g : Nat) (a : Act) (w : World) (K : Exit → Act → World → Prop) (hs : Sz 68 a)
    (h3 : sl a 3 = .pointer (some ⟨g, 0, none⟩)) (hG : Bk w g 48 (cfgC c)) (hnl : c.name.length ≤ 4611686018427387904) (q0 : decide ((1 : Int) ≤ (c.name.length : Int) ∧ (c.name.length : Int) ≤ 20) = true) (q1 : wordB c.name = true) (q2 : ((c.digest.length : Int) == 32) = true) (q3 : decide ((1 : Int) ≤ c.cap ∧ c.cap ≤ 600000) = false)
    (hK : ∀ a' w', Sz 68 a' → Kp [0, 1, 3, 4, 5] a a' → sl a' 6 = .bool false → w' = w → K .normal a' w') :
    (regionOf Tryz.f99 1).wp Tryz.prog K a w := by
  unfold Kp at hK; rw [rnF_of hs]; clear hs; generalize sl a = u at *; clear a; have HK := Lib.hid hK; clear hK; conv => arg 2; whnf
  simp only [rnF, h3]
  have hGc := hG.cells
  unfold cfgC at hGc
  go_wp2_with fail
  refine (refWithin (c.name.length : Int) 1 20 _ true q0).mono ?_
  rintro e w4 ⟨rfl, rfl⟩
  go_wp2_with fail
  refine (refWord c.name _ hnl).mono ?_
  rintro e w4 ⟨rfl, rfl⟩
  rw [q1]
  go_wp2_with fail
  refine (refWithin c.cap 1 600000 _ false q3).mono ?_
  rintro e w4 ⟨rfl, rfl⟩
  go_wp2_with fail
  exact HK.out _ _  ⟨rfl, rfl⟩ (KpU.cons (rfl) (KpU.cons (rfl) (KpU.cons (h3.symm) (KpU.cons (rfl) (KpU.cons (rfl) (KpU.nil _ _)))))) (rfl) rfl
theorem rnR1_4 (c : CfgI) (g : Nat) (a : Act) (w : World) (K : Exit → Act → World → Prop) (hs : Sz 68 a)
    (h3 : sl a 3 = .pointer (some ⟨g, 0, none⟩)) (hG : Bk w g 48 (cfgC c)) (hnl : c.name.length ≤ 4611686018427387904) (q0 : decide ((1 : Int) ≤ (c.name.length : Int) ∧ (c.name.length : Int) ≤ 20) = true) (q1 : wordB c.name = true) (q2 : ((c.digest.length : Int) == 32) = true) (q3 : decide ((1 : Int) ≤ c.cap ∧ c.cap ≤ 600000) = true) (q4 : decide ((8 : Int) ≤ c.block ∧ c.block ≤ 1024) = false)
    (hK : ∀ a' w', Sz 68 a' → Kp [0, 1, 3, 4, 5] a a' → sl a' 6 = .bool false → w' = w → K .normal a' w') :
    (regionOf Tryz.f99 1).wp Tryz.prog K a w := by
  unfold Kp at hK; rw [rnF_of hs]; clear hs; generalize sl a = u at *; clear a; have HK := Lib.hid hK; clear hK; conv => arg 2; whnf
  simp only [rnF, h3]
  have hGc := hG.cells
  unfold cfgC at hGc
  go_wp2_with fail
  refine (refWithin (c.name.length : Int) 1 20 _ true q0).mono ?_
  rintro e w4 ⟨rfl, rfl⟩
  go_wp2_with fail
  refine (refWord c.name _ hnl).mono ?_
  rintro e w4 ⟨rfl, rfl⟩
  rw [q1]
  go_wp2_with fail
  refine (refWithin c.cap 1 600000 _ true q3).mono ?_
  rintro e w4 ⟨rfl, rfl⟩
  go_wp2_with fail
  refine (refWithin c.block 8 1024 _ false q4).mono ?_
  rintro e w4 ⟨rfl, rfl⟩
  go_wp2_with fail
  exact HK.out _ _  ⟨rfl, rfl⟩ (KpU.cons (rfl) (KpU.cons (rfl) (KpU.cons (h3.symm) (KpU.cons (rfl) (KpU.cons (rfl) (KpU.nil _ _)))))) (rfl) rfl
theorem rnR1_5 (c : CfgI) (g : Nat) (b : Bool) (a : Act) (w : World) (K : Exit → Act → World → Prop) (hs : Sz 68 a)
    (h3 : sl a 3 = .pointer (some ⟨g, 0, none⟩)) (hG : Bk w g 48 (cfgC c)) (hnl : c.name.length ≤ 4611686018427387904) (q0 : decide ((1 : Int) ≤ (c.name.length : Int) ∧ (c.name.length : Int) ≤ 20) = true) (q1 : wordB c.name = true) (q2 : ((c.digest.length : Int) == 32) = true) (q3 : decide ((1 : Int) ≤ c.cap ∧ c.cap ≤ 600000) = true) (q4 : decide ((8 : Int) ≤ c.block ∧ c.block ≤ 1024) = true) (q5 : decide ((1 : Int) ≤ c.window ∧ c.window ≤ 8) = b)
    (hK : ∀ a' w', Sz 68 a' → Kp [0, 1, 3, 4, 5] a a' → sl a' 6 = .bool b → w' = w → K .normal a' w') :
    (regionOf Tryz.f99 1).wp Tryz.prog K a w := by
  unfold Kp at hK; rw [rnF_of hs]; clear hs; generalize sl a = u at *; clear a; have HK := Lib.hid hK; clear hK; conv => arg 2; whnf
  simp only [rnF, h3]
  have hGc := hG.cells
  unfold cfgC at hGc
  go_wp2_with fail
  refine (refWithin (c.name.length : Int) 1 20 _ true q0).mono ?_
  rintro e w4 ⟨rfl, rfl⟩
  go_wp2_with fail
  refine (refWord c.name _ hnl).mono ?_
  rintro e w4 ⟨rfl, rfl⟩
  rw [q1]
  go_wp2_with fail
  refine (refWithin c.cap 1 600000 _ true q3).mono ?_
  rintro e w4 ⟨rfl, rfl⟩
  go_wp2_with fail
  refine (refWithin c.block 8 1024 _ true q4).mono ?_
  rintro e w4 ⟨rfl, rfl⟩
  go_wp2_with fail
  refine (refWithin c.window 1 8 _ b q5).mono ?_
  rintro e w4 ⟨rfl, rfl⟩
  go_wp2_with fail
  exact HK.out _ _  ⟨rfl, rfl⟩ (KpU.cons (rfl) (KpU.cons (rfl) (KpU.cons (h3.symm) (KpU.cons (rfl) (KpU.cons (rfl) (KpU.nil _ _)))))) (rfl) rfl
theorem rnR2_0 (c : CfgI) (g : Nat) (a : Act) (w : World) (K : Exit → Act → World → Prop) (hs : Sz 68 a)
    (h3 : sl a 3 = .pointer (some ⟨g, 0, none⟩)) (h6 : sl a 6 = .bool false) (hG : Bk w g 48 (cfgC c))
    (hK : ∀ a' w', Sz 68 a' → Kp [0, 1, 3, 4, 5, 6] a a' → sl a' 63 = .bool true → w' = w → K .normal a' w') :
    (regionOf Tryz.f99 2).wp Tryz.prog K a w := by
  unfold Kp at hK; rw [rnF_of hs]; clear hs; generalize sl a = u at *; clear a; have HK := Lib.hid hK; clear hK; conv => arg 2; whnf
  simp only [rnF, h3, h6]
  have hGc := hG.cells
  unfold cfgC at hGc
  go_wp2_with fail
  exact HK.out _ _  ⟨rfl, rfl⟩ (KpU.cons (rfl) (KpU.cons (rfl) (KpU.cons (h3.symm) (KpU.cons (rfl) (KpU.cons (rfl) (KpU.cons (h6.symm) (KpU.nil _ _))))))) (rfl) rfl
theorem rnR2_1 (c : CfgI) (g : Nat) (a : Act) (w : World) (K : Exit → Act → World → Prop) (hs : Sz 68 a)
    (h3 : sl a 3 = .pointer (some ⟨g, 0, none⟩)) (h6 : sl a 6 = .bool true) (hG : Bk w g 48 (cfgC c)) (q1 : decide ((1 : Int) ≤ c.rx ∧ c.rx ≤ 16) = false)
    (hK : ∀ a' w', Sz 68 a' → Kp [0, 1, 3, 4, 5, 6] a a' → sl a' 63 = .bool true → w' = w → K .normal a' w') :
    (regionOf Tryz.f99 2).wp Tryz.prog K a w := by
  unfold Kp at hK; rw [rnF_of hs]; clear hs; generalize sl a = u at *; clear a; have HK := Lib.hid hK; clear hK; conv => arg 2; whnf
  simp only [rnF, h3, h6]
  have hGc := hG.cells
  unfold cfgC at hGc
  go_wp2_with fail
  refine (refWithin c.rx 1 16 _ false q1).mono ?_
  rintro e w4 ⟨rfl, rfl⟩
  go_wp2_with fail
  exact HK.out _ _  ⟨rfl, rfl⟩ (KpU.cons (rfl) (KpU.cons (rfl) (KpU.cons (h3.symm) (KpU.cons (rfl) (KpU.cons (rfl) (KpU.cons (h6.symm) (KpU.nil _ _))))))) (rfl) rfl
theorem rnR2_2 (c : CfgI) (g : Nat) (a : Act) (w : World) (K : Exit → Act → World → Prop) (hs : Sz 68 a)
    (h3 : sl a 3 = .pointer (some ⟨g, 0, none⟩)) (h6 : sl a 6 = .bool true) (hG : Bk w g 48 (cfgC c)) (q1 : decide ((1 : Int) ≤ c.rx ∧ c.rx ≤ 16) = true) (q2 : decide ((1 : Int) ≤ c.tx ∧ c.tx ≤ 16) = false)
    (hK : ∀ a' w', Sz 68 a' → Kp [0, 1, 3, 4, 5, 6] a a' → sl a' 63 = .bool true → w' = w → K .normal a' w') :
    (regionOf Tryz.f99 2).wp Tryz.prog K a w := by
  unfold Kp at hK; rw [rnF_of hs]; clear hs; generalize sl a = u at *; clear a; have HK := Lib.hid hK; clear hK; conv => arg 2; whnf
  simp only [rnF, h3, h6]
  have hGc := hG.cells
  unfold cfgC at hGc
  go_wp2_with fail
  refine (refWithin c.rx 1 16 _ true q1).mono ?_
  rintro e w4 ⟨rfl, rfl⟩
  go_wp2_with fail
  refine (refWithin c.tx 1 16 _ false q2).mono ?_
  rintro e w4 ⟨rfl, rfl⟩
  go_wp2_with fail
  exact HK.out _ _  ⟨rfl, rfl⟩ (KpU.cons (rfl) (KpU.cons (rfl) (KpU.cons (h3.symm) (KpU.cons (rfl) (KpU.cons (rfl) (KpU.cons (h6.symm) (KpU.nil _ _))))))) (rfl) rfl
attribute [-go_sem] run_eql_struct run_neq_struct run_equalIn_agg in
theorem rnR2_3 (c : CfgI) (g : Nat) (a : Act) (w : World) (K : Exit → Act → World → Prop) (hs : Sz 68 a)
    (h3 : sl a 3 = .pointer (some ⟨g, 0, none⟩)) (h6 : sl a 6 = .bool true) (hG : Bk w g 48 (cfgC c)) (qz : decide (c.card = zMac) = true) (q1 : decide ((1 : Int) ≤ c.rx ∧ c.rx ≤ 16) = true) (q2 : decide ((1 : Int) ≤ c.tx ∧ c.tx ≤ 16) = true)
    (hK : ∀ a' w', Sz 68 a' → Kp [0, 1, 3, 4, 5, 6] a a' → sl a' 63 = .bool true → w' = w → K .normal a' w') :
    (regionOf Tryz.f99 2).wp Tryz.prog K a w := by
  unfold Kp at hK; rw [rnF_of hs]; clear hs; generalize sl a = u at *; clear a; have HK := Lib.hid hK; clear hK; conv => arg 2; whnf
  simp only [rnF, h3, h6]
  have hGc := hG.cells
  unfold cfgC at hGc
  have hE : ∀ w, (binOp .eql 23 (.agg #[.int .u8 (c.card.1.toNat : Int), .int .u8 (c.card.2.1.toNat : Int), .int .u8 (c.card.2.2.1.toNat : Int), .int .u8 (c.card.2.2.2.1.toNat : Int), .int .u8 (c.card.2.2.2.2.1.toNat : Int), .int .u8 (c.card.2.2.2.2.2.toNat : Int)]) (.agg #[.int .u8 0, .int .u8 0, .int .u8 0, .int .u8 0, .int .u8 0, .int .u8 0])).run Tryz.prog w = .ok (.bool true) w := fun w => (mac_eql c.card zMac w).trans (by rw [qz])
  have hGd := mac_guard
  go_wp2_with fail
  refine (refWithin c.rx 1 16 _ true q1).mono ?_
  rintro e w4 ⟨rfl, rfl⟩
  go_wp2_with fail
  refine (refWithin c.tx 1 16 _ true q2).mono ?_
  rintro e w4 ⟨rfl, rfl⟩
  go_wp2_with fail
  exact HK.out _ _  ⟨rfl, rfl⟩ (KpU.cons (rfl) (KpU.cons (rfl) (KpU.cons (h3.symm) (KpU.cons (rfl) (KpU.cons (rfl) (KpU.cons (h6.symm) (KpU.nil _ _))))))) (rfl) rfl
attribute [-go_sem] run_eql_struct run_neq_struct run_equalIn_agg in
theorem rnR2_4 (c : CfgI) (g : Nat) (b : Bool) (a : Act) (w : World) (K : Exit → Act → World → Prop) (hs : Sz 68 a)
    (h3 : sl a 3 = .pointer (some ⟨g, 0, none⟩)) (h6 : sl a 6 = .bool true) (hG : Bk w g 48 (cfgC c)) (qz : decide (c.card = zMac) = false) (qb : ((((c.card.1.toNat % 2 : Nat) : Int)) == 1) = b) (q1 : decide ((1 : Int) ≤ c.rx ∧ c.rx ≤ 16) = true) (q2 : decide ((1 : Int) ≤ c.tx ∧ c.tx ≤ 16) = true)
    (hK : ∀ a' w', Sz 68 a' → Kp [0, 1, 3, 4, 5, 6] a a' → sl a' 63 = .bool b → w' = w → K .normal a' w') :
    (regionOf Tryz.f99 2).wp Tryz.prog K a w := by
  unfold Kp at hK; rw [rnF_of hs]; clear hs; generalize sl a = u at *; clear a; have HK := Lib.hid hK; clear hK; conv => arg 2; whnf
  simp only [rnF, h3, h6]
  have hGc := hG.cells
  unfold cfgC at hGc
  have hE : ∀ w, (binOp .eql 23 (.agg #[.int .u8 (c.card.1.toNat : Int), .int .u8 (c.card.2.1.toNat : Int), .int .u8 (c.card.2.2.1.toNat : Int), .int .u8 (c.card.2.2.2.1.toNat : Int), .int .u8 (c.card.2.2.2.2.1.toNat : Int), .int .u8 (c.card.2.2.2.2.2.toNat : Int)]) (.agg #[.int .u8 0, .int .u8 0, .int .u8 0, .int .u8 0, .int .u8 0, .int .u8 0])).run Tryz.prog w = .ok (.bool false) w := fun w => (mac_eql c.card zMac w).trans (by rw [qz])
  have hGd := mac_guard
  go_wp2_with fail
  refine (refWithin c.rx 1 16 _ true q1).mono ?_
  rintro e w4 ⟨rfl, rfl⟩
  go_wp2_with fail
  refine (refWithin c.tx 1 16 _ true q2).mono ?_
  rintro e w4 ⟨rfl, rfl⟩
  go_wp2_with fail
  exact HK.out _ _  ⟨rfl, rfl⟩ (KpU.cons (rfl) (KpU.cons (rfl) (KpU.cons (h3.symm) (KpU.cons (rfl) (KpU.cons (rfl) (KpU.cons (h6.symm) (KpU.nil _ _))))))) (congrArg Value.bool (by rw [← qb, Bool.eq_iff_iff]; simp)) rfl
theorem rnR3  (a : Act) (w : World) (K : Exit → Act → World → Prop) (hs : Sz 68 a)
     
    (hK : ∀ a' w', Sz 68 a' → Kp [0, 1, 3, 6] a a' → sl a' 4 = .pointer none → sl a' 5 = .bool false → w' = w → K .normal a' w') :
    (regionOf Tryz.f99 3).wp Tryz.prog K a w := by
  unfold Kp at hK; rw [rnF_of hs]; clear hs; generalize sl a = u at *; clear a; have HK := Lib.hid hK; clear hK; conv => arg 2; whnf
  simp only [rnF]
  go_wp2_with fail
  exact HK.out _ _  ⟨rfl, rfl⟩ (KpU.cons (rfl) (KpU.cons (rfl) (KpU.cons (rfl) (KpU.cons (rfl) (KpU.nil _ _))))) (rfl) (rfl) rfl
theorem cfg_info : (Tryz.prog.info? 48).map (·.size) = some 13 := by kernel_rfl
def modN (c : CfgI) (T : Nat) : Array Value := #[.pointer (some ⟨T, 0, none⟩), .int .u8 (c.card.1.toNat : Int), .int .u8 (c.card.2.1.toNat : Int), .int .u8 (c.card.2.2.1.toNat : Int), .int .u8 (c.card.2.2.2.1.toNat : Int), .int .u8 (c.card.2.2.2.2.1.toNat : Int), .int .u8 (c.card.2.2.2.2.2.toNat : Int), .string (bs c.name), .int .i64 c.cap, .string (bs c.digest), .int .i64 c.block, .int .i64 c.window, .int .i64 c.rx, .int .i64 c.tx, .slice none 0 0, .slice none 0 0, .int .i64 0, .int .u32 0, .int .i64 0, .int .i64 0, .int .i64 0, .slice none 0 0, .int .i64 0, .int .u32 0, .int .u32 0, .int .u32 0, .int .u32 0, .int .u32 0, .int .u32 0, .int .i64 0, .int .i64 0, .int .i64 0, .int .i64 0, .int .i64 0, .int .i64 0, .int .i64 0, .int .i64 0, .int .i64 0, .int .i64 0, .int .i64 0, .int .i64 0, .int .i64 0, .int .i64 0, .int .i64 0, .string ⟨#[]⟩, .slice none 0 0]
theorem wpList_val {P : Program} {ops : Array Oper} {rest : List Oper} {o : Oper} {a : Act} {w : World} {Q : Exit → Act → World → Prop} (hgd : o.guard = none) (v : Value) (hv : (execOp a.eval o).run P w = .ok (.value v) w) (h : wpList P ops Q rest (a.put o.dst v) w) : wpList P ops Q (o :: rest) a w :=
  wpList_plain hgd fun K hK => by unfold Oper.wp; rw [hv]; exact hK _ _ h
theorem new_cells (c : CfgI) (T : Nat) (h : c.Ok) : modN c T = modC (stNew c) T ⟨none, 0, none, 0, none, 0, none, 0⟩ := by
  have h2 : c.Ok2 := h.2.2.1
  unfold CfgI.Ok2 at h2
  obtain ⟨⟨b1, b2⟩, ⟨b3, b4⟩, ⟨b5, b6⟩, ⟨b7, b8⟩, b9, b10⟩ := h2
  have e1 : ((c.cap.toNat : Nat) : Int) = c.cap := by omega
  have e2 : ((c.block.toNat : Nat) : Int) = c.block := by omega
  have e3 : ((c.window.toNat : Nat) : Int) = c.window := by omega
  have e4 : ((c.rx.toNat : Nat) : Int) = c.rx := by omega
  have e5 : ((c.tx.toNat : Nat) : Int) = c.tx := by omega
  unfold modN modC stNew CfgI.cfg
  have hz : wrap64 ((0 : Nat) : Int) = 0 := by unfold wrap64; omega
  simp only [e1, e2, e3, e4, e5, hz]
  rfl
theorem rnR4 (c : CfgI) (g T : Nat) (a : Act) (w : World) (K : Exit → Act → World → Prop) (hs : Sz 68 a)
    (h0 : sl a 0 = .pointer (some ⟨T, 0, none⟩)) (h3 : sl a 3 = .pointer (some ⟨g, 0, none⟩)) (hG : Bk w g 48 (cfgC c)) (hok : c.Ok)
    (hK : ∀ a' w' p, Sz 68 a' → Kp [0, 1, 3, 6] a a' → sl a' 4 = .pointer (some ⟨p, 0, none⟩) → sl a' 5 = .bool true → Fr noB w w' → Bk w' p 174 (modC (stNew c) T ⟨none, 0, none, 0, none, 0, none, 0⟩) → w.heap.size ≤ p → K .normal a' w') :
    (regionOf Tryz.f99 4).wp Tryz.prog K a w := by
  unfold Kp at hK; rw [rnF_of hs]; clear hs; generalize sl a = u at *; clear a; have HK := Lib.hid hK; clear hK; conv => arg 2; whnf
  simp only [rnF, h0, h3]
  have hu := Tryz.underlying48
  have hi : (Tryz.prog.info? 48).map (·.size) = some (cfgC c).size := cfg_info
  have hce := new_cells c T hok
  have Hok := Lib.hid hok
  clear hok
  go_wp2_with (first | (refine wpList_load_row rfl 48 (.tmp 3) rfl g rfl 48 (cfgC c) (0, 0) _ hG hu rfl hi ?_; refine wpList_val rfl (.agg (modN c T)) (by kernel_rfl) ?_))
  exact HK.out _ _ _ ⟨rfl, rfl⟩ (KpU.cons (h0.symm) (KpU.cons (rfl) (KpU.cons (h3.symm) (KpU.cons (rfl) (KpU.nil _ _))))) (rfl) (rfl) ((Fr.refl _ _).alloc _) (hce ▸ Bk.new _ _ _) (Nat.le_refl _)
def CfgI.R1 (c : CfgI) : Prop := (1 ≤ c.name.length ∧ c.name.length ≤ 20) ∧ wordB c.name = true ∧ c.digest.length = 32 ∧ (1 ≤ c.cap ∧ c.cap ≤ 600000) ∧ (8 ≤ c.block ∧ c.block ≤ 1024) ∧ (1 ≤ c.window ∧ c.window ≤ 8)
instance (c : CfgI) : Decidable c.R1 := by unfold CfgI.R1; infer_instance
theorem CfgI.ok_iff (c : CfgI) : c.Ok ↔ c.R1 ∧ (1 ≤ c.rx ∧ c.rx ≤ 16) ∧ (1 ≤ c.tx ∧ c.tx ≤ 16) ∧ c.card ≠ zMac ∧ c.card.1.toNat % 2 ≠ 1 := by
  unfold CfgI.Ok CfgI.R1 CfgI.Ok1 CfgI.Ok2 wordB
  simp only [Bool.and_eq_true, decide_eq_true_eq]
  constructor
  · rintro ⟨⟨a1, a2, a3⟩, b, ⟨c1, c2, c3, c4, c5⟩, d⟩
    exact ⟨⟨⟨a1, a2⟩, ⟨b, by omega⟩, a3, c1, c2, c3⟩, c4, c5, d⟩
  · rintro ⟨⟨⟨a1, a2⟩, ⟨b, _⟩, a3, c1, c2, c3⟩, c4, c5, d⟩
    exact ⟨⟨a1, a2, a3⟩, b, ⟨c1, c2, c3, c4, c5⟩, d⟩
theorem rnR1 (c : CfgI) (g : Nat) (a : Act) (w : World) (K : Exit → Act → World → Prop) (hs : Sz 68 a) (h3 : sl a 3 = .pointer (some ⟨g, 0, none⟩)) (hG : Bk w g 48 (cfgC c))
    (hK : ∀ a', Sz 68 a' → Kp [0, 3] a a' → sl a' 6 = .bool (decide c.R1) → K .normal a' w) : (regionOf Tryz.f99 1).wp Tryz.prog K a w := by
  have kk : ∀ {l : List Nat} {a' : Act}, Kp l a a' → (∀ x ∈ [0, 3], x ∈ l) → Kp [0, 3] a a' := fun k hl i hi => k i (hl i hi)
  by_cases q0 : 1 ≤ c.name.length ∧ c.name.length ≤ 20
  rotate_left
  · exact rnR1_0 c g a w K hs h3 hG  (decide_eq_false (by omega)) fun a' w' hs' k' o e => by subst e; exact hK a' hs' (kk k' (by decide)) (o.trans (by rw [decide_eq_false (fun x : c.R1 => q0 x.1)]))
  by_cases q1 : wordB c.name = true
  rotate_left
  · exact rnR1_1 c g a w K hs h3 hG (by omega) (decide_eq_true (by omega)) (by simpa using q1) fun a' w' hs' k' o e => by subst e; exact hK a' hs' (kk k' (by decide)) (o.trans (by rw [decide_eq_false (fun x : c.R1 => q1 x.2.1)]))
  by_cases q2 : c.digest.length = 32
  rotate_left
  · exact rnR1_2 c g a w K hs h3 hG (by omega) (decide_eq_true (by omega)) q1 (by rw [beq_eq_false_iff_ne]; omega) fun a' w' hs' k' o e => by subst e; exact hK a' hs' (kk k' (by decide)) (o.trans (by rw [decide_eq_false (fun x : c.R1 => q2 x.2.2.1)]))
  by_cases q3 : 1 ≤ c.cap ∧ c.cap ≤ 600000
  rotate_left
  · exact rnR1_3 c g a w K hs h3 hG (by omega) (decide_eq_true (by omega)) q1 (by rw [q2]; rfl) (decide_eq_false q3) fun a' w' hs' k' o e => by subst e; exact hK a' hs' (kk k' (by decide)) (o.trans (by rw [decide_eq_false (fun x : c.R1 => q3 x.2.2.2.1)]))
  by_cases q4 : 8 ≤ c.block ∧ c.block ≤ 1024
  rotate_left
  · exact rnR1_4 c g a w K hs h3 hG (by omega) (decide_eq_true (by omega)) q1 (by rw [q2]; rfl) (decide_eq_true q3) (decide_eq_false q4) fun a' w' hs' k' o e => by subst e; exact hK a' hs' (kk k' (by decide)) (o.trans (by rw [decide_eq_false (fun x : c.R1 => q4 x.2.2.2.2.1)]))
  refine rnR1_5 c g (decide c.R1) a w K hs h3 hG (by omega) (decide_eq_true (by omega)) q1 (by rw [q2]; rfl) (decide_eq_true q3) (decide_eq_true q4) (decide_eq_decide.2 ⟨fun x => ⟨q0, q1, q2, q3, q4, x⟩, fun x => x.2.2.2.2.2⟩) fun a' w' hs' k' o e => ?_
  subst e; exact hK a' hs' (kk k' (by decide)) o
theorem rnR2 (c : CfgI) (g : Nat) (a : Act) (w : World) (K : Exit → Act → World → Prop) (hs : Sz 68 a) (h3 : sl a 3 = .pointer (some ⟨g, 0, none⟩)) (h6 : sl a 6 = .bool (decide c.R1)) (hG : Bk w g 48 (cfgC c))
    (hK : ∀ a', Sz 68 a' → Kp [0, 3] a a' → sl a' 63 = .bool (!decide c.Ok) → K .normal a' w) : (regionOf Tryz.f99 2).wp Tryz.prog K a w := by
  have kk : ∀ {l : List Nat} {a' : Act}, Kp l a a' → (∀ x ∈ [0, 3], x ∈ l) → Kp [0, 3] a a' := fun k hl i hi => k i (hl i hi)
  have no : ∀ a' w', ¬ c.Ok → Sz 68 a' → Kp [0, 3] a a' → sl a' 63 = .bool true → w' = w → K .normal a' w' := fun a' w' hn hs' k' o e => by
    subst e; exact hK a' hs' k' (o.trans (by rw [decide_eq_false hn]; rfl))
  by_cases q0 : c.R1
  rotate_left
  · rw [decide_eq_false q0] at h6
    exact rnR2_0 c g a w K hs h3 h6 hG fun a' w' hs' k' o e => no a' w' (fun x => q0 (c.ok_iff.1 x).1) hs' (kk k' (by decide)) o e
  rw [decide_eq_true q0] at h6
  by_cases q1 : 1 ≤ c.rx ∧ c.rx ≤ 16
  rotate_left
  · exact rnR2_1 c g a w K hs h3 h6 hG (decide_eq_false q1) fun a' w' hs' k' o e => no a' w' (fun x => q1 (c.ok_iff.1 x).2.1) hs' (kk k' (by decide)) o e
  by_cases q2 : 1 ≤ c.tx ∧ c.tx ≤ 16
  rotate_left
  · exact rnR2_2 c g a w K hs h3 h6 hG (decide_eq_true q1) (decide_eq_false q2) fun a' w' hs' k' o e => no a' w' (fun x => q2 (c.ok_iff.1 x).2.2.1) hs' (kk k' (by decide)) o e
  by_cases q3 : c.card = zMac
  · exact rnR2_3 c g a w K hs h3 h6 hG (decide_eq_true q3) (decide_eq_true q1) (decide_eq_true q2) fun a' w' hs' k' o e => no a' w' (fun x => (c.ok_iff.1 x).2.2.2.1 q3) hs' (kk k' (by decide)) o e
  · refine rnR2_4 c g (!decide c.Ok) a w K hs h3 h6 hG (decide_eq_false q3) ?_ (decide_eq_true q1) (decide_eq_true q2) fun a' w' hs' k' o e => by subst e; exact hK a' hs' (kk k' (by decide)) o
    have : c.Ok ↔ c.card.1.toNat % 2 ≠ 1 := ⟨fun x => (c.ok_iff.1 x).2.2.2.2, fun x => c.ok_iff.2 ⟨q0, q1, q2, q3, x⟩⟩
    rw [Bool.eq_iff_iff]; simp only [beq_iff_eq, Bool.not_eq_true', decide_eq_false_iff_not, this]; omega
def refNewPost (c : CfgI) (T : Nat) (w : World) (e : Ending) (w' : World) : Prop :=
  (c.Ok → ∃ p, e = .returned (.tuple #[.pointer (some ⟨p, 0, none⟩), .bool true]) ∧ ModelAt w' p T ⟨none, 0, none, 0, none, 0, none, 0⟩ (stNew c) ∧ w.heap.size ≤ p ∧ Fr noB w w') ∧
  (¬ c.Ok → e = .returned (.tuple #[.pointer none, .bool false]) ∧ Fr noB w w')
theorem refNew (c : CfgI) (T : Nat) (w : World) (hall : RowG w 4 #[.int .u8 255, .int .u8 255, .int .u8 255, .int .u8 255, .int .u8 255, .int .u8 255]) :
    Calls Tryz.prog 99 #[.pointer (some ⟨T, 0, none⟩), .agg (cfgC c)] w (refNewPost c T w) := by
  go_enter Tryz.func99, Tryz.ntmps99
  refine wp_seq ?_
  refine rnR0 c _ w _ ⟨rfl, rfl⟩ rfl ?_
  intro a0 w0 hs0 k0 o3 hf0 hG0
  have e0 : sl a0 0 = .pointer (some ⟨T, 0, none⟩) := (k0 0 (by decide)).trans rfl
  clear k0
  refine wp_seq ?_
  refine rnR1 c _ a0 w0 _ hs0 o3 hG0 ?_
  intro a1 hs1 k1 o6
  have e0 := (k1 0 (by decide)).trans e0
  have o3 := (k1 3 (by decide)).trans o3
  refine wp_seq (wp_seq ?_)
  refine rnR2 c _ a1 w0 _ hs1 o3 o6 hG0 ?_
  intro a2 hs2 k2 o63
  have e0 := (k2 0 (by decide)).trans e0
  have o3 := (k2 3 (by decide)).trans o3
  refine wp_if o63 (fun hb => ?_) (fun hb => ?_)
  · have hno : ¬ c.Ok := by simpa using hb
    refine wp_seq ?_
    refine rnR3 a2 w0 _ hs2 ?_
    intro a3 w3 hs3 k3 o4 o5 hw; subst w3
    refine wp_ret ?_
    refine bodyPost_ret (results_tmp2 rfl _ _ _) hs3.defers ⟨fun h => absurd h hno, fun _ => ⟨?_, hf0⟩⟩
    rw [show a3.tmps.getD 4 undef = .pointer none from o4, show a3.tmps.getD 5 undef = .bool false from o5]
  have hok : c.Ok := by simpa using hb
  refine wp_skip ?_
  refine wp_seq ?_
  refine rnR4 c _ T a2 w0 _ hs2 e0 o3 hG0 hok ?_
  intro a3 w3 p hs3 k3 o4 o5 hf3 hB hle
  refine wp_ret ?_
  have hfw := hf0.none hf3
  refine bodyPost_ret (results_tmp2 rfl _ _ _) hs3.defers ⟨fun _ => ⟨p, ?_, ?_, Nat.le_trans hf0.size hle, hfw⟩, fun h => absurd hok h⟩
  · rw [show a3.tmps.getD 4 undef = _ from o4, show a3.tmps.getD 5 undef = _ from o5]
  · have hal := hall.keep hfw (fun x => x)
    have hla := hall.1
    have hsz := hf0.size
    exact ⟨hB, ⟨rfl, .inl ⟨rfl, rfl⟩⟩, ⟨rfl, .inl ⟨rfl, rfl⟩⟩, ⟨rfl, .inl ⟨rfl, rfl⟩⟩, ⟨rfl, .inl ⟨rfl, rfl⟩⟩, by constructor <;> simp [blkA], new_ok hok, Nat.zero_le _, Nat.zero_le _, hal, fun b hb => by simp [mown, mblocks, blkA] at hb; omega, by simp [stNew], by simp [stNew]⟩
end Go.Proofs.YtcbkaiakdhiloabGreatDoor
set_option maxRecDepth 20000
namespace Go.Proofs.YtcbkaiakdhiloabGreatDoor
open Go.RowKit Go.Proofs
attribute [local go_sem] bs_size bs_append bs_extract bs_toList
theorem sl_blk {A : Option Addr} {n c g : Nat} (h : (Value.slice A n c).ownBlock = some g) : g ∈ blkA A := by
  cases A with
  | none => simp [Value.ownBlock] at h
  | some a => simp [Value.ownBlock] at h; simp [blkA, h]
theorem blk_sl {A : Option Addr} {n c b : Nat} (h : b ∈ blkA A) : (Value.slice A n c).ownBlock = some b := by
  cases A with
  | none => cases h
  | some a => simp [blkA] at h; simp [Value.ownBlock, h]
theorem strV_app (l : List (List UInt8)) (f : List UInt8) : strV (l ++ [f]) = strV l ++ [.string (bs f)] := by simp [strV]
def msF (u : Nat → Value) : Act := ⟨#[u 0, u 1, u 2, u 3, u 4, u 5, u 6, u 7, u 8, u 9, u 10, u 11, u 12, u 13, u 14, u 15, u 16, u 17, u 18, u 19, u 20, u 21, u 22, u 23, u 24, u 25, u 26, u 27, u 28, u 29, u 30, u 31, u 32, u 33, u 34, u 35, u 36, u 37, u 38, u 39, u 40, u 41, u 42, u 43, u 44, u 45, u 46, u 47, u 48, u 49, u 50], []⟩
set_option maxRecDepth 100000 in
theorem msF_eq (u : Nat → Value) : msF u = frN 51 u := rfl
theorem msF_of {a : Act} (h : Sz 51 a) : a = msF (sl a) := h.eq.trans (msF_eq _).symm
theorem msR0 (m0 m1 m2 m3 m4 m5 : UInt8) (a : Act) (w : World) (K : Exit → Act → World → Prop) (hs : Sz 51 a)
    (h1 : sl a 1 = .agg #[.int .u8 (m0.toNat : Int), .int .u8 (m1.toNat : Int), .int .u8 (m2.toNat : Int), .int .u8 (m3.toNat : Int), .int .u8 (m4.toNat : Int), .int .u8 (m5.toNat : Int)]) 
    (hK : ∀ a' w', Sz 51 a' → Kp [0, 2, 3, 8] a a' → sl a' 5 = .pointer (some ⟨w.heap.size, 0, none⟩) → Fr noB w w' → Bk w' w.heap.size 23 #[.int .u8 (m0.toNat : Int), .int .u8 (m1.toNat : Int), .int .u8 (m2.toNat : Int), .int .u8 (m3.toNat : Int), .int .u8 (m4.toNat : Int), .int .u8 (m5.toNat : Int)] → K .normal a' w') :
    (regionOf Tryz.f213 0).wp Tryz.prog K a w := by
  unfold Kp at hK; rw [msF_of hs]; clear hs; generalize sl a = u at *; clear a; have HK := Lib.hid hK; clear hK; conv => arg 2; whnf
  simp only [msF, h1]
  go_wp2_with fail
  exact HK.out _ _  ⟨rfl, rfl⟩ (Kc rfl (Kc rfl (Kc rfl (Kc rfl (Kn _ _))))) (rfl) ((Fr.refl _ _).alloc _) (Bk.new _ _ _)
theorem msR1 (p T : Nat) (M : MLay) (s : St) (g kind : Nat) (ld : List UInt8) (m0 m1 m2 m3 m4 m5 : UInt8) (a : Act) (w : World) (K : Exit → Act → World → Prop) (hs : Sz 51 a)
    (h0 : sl a 0 = .pointer (some ⟨p, 0, none⟩)) (h2 : sl a 2 = .int .u16 (kind : Int)) (h3 : sl a 3 = .string (bs ld)) (h5 : sl a 5 = .pointer (some ⟨g, 0, none⟩)) (h : ModelAt w p T M s) (hG : Bk w g 23 #[.int .u8 (m0.toNat : Int), .int .u8 (m1.toNat : Int), .int .u8 (m2.toNat : Int), .int .u8 (m3.toNat : Int), .int .u8 (m4.toNat : Int), .int .u8 (m5.toNat : Int)]) (hkd : kind < 65536) (hld : ld.length ≤ 9223372036854775807)
    (hK : ∀ a' w', Sz 51 a' → Kp [0, 2, 3, 5] a a' → sl a' 8 = .string (bs (wrEther (m0, m1, m2, m3, m4, m5) s.c.card kind ld).1) → ModelAt w' p T M s → Fr noB w w' → K .normal a' w') :
    (regionOf Tryz.f213 1).wp Tryz.prog K a w := by
  unfold Kp at hK; rw [msF_of hs]; clear hs; generalize sl a = u at *; clear a; have HK := Lib.hid hK; clear hK; conv => arg 2; whnf
  simp only [msF, h0, h2, h3, h5]
  refine wp_region_pls (by kernel_rfl) (fun w' => ModelAt w' p T M s ∧ Bk w' g 23 #[.int .u8 (m0.toNat : Int), .int .u8 (m1.toNat : Int), .int .u8 (m2.toNat : Int), .int .u8 (m3.toNat : Int), .int .u8 (m4.toNat : Int), .int .u8 (m5.toNat : Int)] ∧ Fr noB w w') [] (.p 1 (.p 2 (.p 3 (.p 4 (.p 6 (.p 7 (.q 0 (.q 5 (.p 8 (.e 9 (.p 10 (.p 11 (.p 12 (.p 13 (.p 14 .nil))))))))))))))) (by kernel_rfl) (⟨h.drew, hG.drew, (Fr.refl _ _).drew⟩) ?_
  intro ops Q' hO hQ' wr1 hR1
  iterate 6 (refine pl_p0 hO rfl rfl ?_ (fun w' => ?_) ?_; rotate_left 1; (focus (go_simp; ((try with_reducible rfl); done))); simp only [Act.put, List.setIfInBounds_toArray, List.set_cons_zero, List.set_cons_succ])
  iterate 2 (refine pl_q0 hO rfl rfl ?_ (fun w' hS => ?_) ?_; rotate_left 1; (focus (obtain ⟨hB, hG, hF⟩ := hS; have hGc := hG.cells; have c1 := hB.g1; have c2 := hB.g2; have c3 := hB.g3; have c4 := hB.g4; have c5 := hB.g5; have c6 := hB.g6; go_simp; ((try with_reducible rfl); done))); simp only [Act.put, List.setIfInBounds_toArray, List.set_cons_zero, List.set_cons_succ])
  refine pl_p0 hO rfl rfl ?_ (fun w' => ?_) ?_; rotate_left 1; (focus (go_simp; ((try with_reducible rfl); done))); simp only [Act.put, List.setIfInBounds_toArray, List.set_cons_zero, List.set_cons_succ]
  refine pl_e0 hO rfl rfl rfl (fun K hK => ?_)
  go_simp
  refine (refWriteEther kind ld m0 m1 m2 m3 m4 m5 s.c.card.1 s.c.card.2.1 s.c.card.2.2.1 s.c.card.2.2.2.1 s.c.card.2.2.2.2.1 s.c.card.2.2.2.2.2 _ hkd hld).mono ?_
  rintro e w2 ⟨rfl, f2⟩
  refine hK _ _ (⟨hR1.1.none f2, hR1.2.1.keep f2 (fun x => x), hR1.2.2.none f2⟩) (fun hR_9 => ?_)
  clear hK K
  iterate 5 (refine pl_p0 hO rfl rfl ?_ (fun w' => ?_) ?_; rotate_left 1; (focus (go_simp; ((try with_reducible rfl); done))); simp only [Act.put, List.setIfInBounds_toArray, List.set_cons_zero, List.set_cons_succ])
  refine pl_nil (hQ' _ _ ?_)
  exact HK.out _ _  ⟨rfl, rfl⟩ (Kc h0.symm (Kc h2.symm (Kc h3.symm (Kc h5.symm (Kn _ _))))) (rfl) hR_9.1 hR_9.2.2
theorem msR2 (p T : Nat) (M : MLay) (s : St) (b : Bool) (a : Act) (w : World) (K : Exit → Act → World → Prop) (hs : Sz 51 a)
    (h0 : sl a 0 = .pointer (some ⟨p, 0, none⟩)) (h : ModelAt w p T M s) (hb : ((s.tx.length : Int) == (s.c.tx : Int)) = b)
    (hK : ∀ a' w', Sz 51 a' → Kp [0, 2, 3, 5, 8] a a' → sl a' 33 = .bool b → ModelAt w' p T M s → Fr noB w w' → K .normal a' w') :
    (regionOf Tryz.f213 2).wp Tryz.prog K a w := by
  unfold Kp at hK; rw [msF_of hs]; clear hs; generalize sl a = u at *; clear a; have HK := Lib.hid hK; clear hK; conv => arg 2; whnf
  simp only [msF, h0]
  refine wp_region_pls (by kernel_rfl) (fun w' => ModelAt w' p T M s ∧ Fr noB w w') [] (.p 0 (.p 1 (.p 2 (.p 5 (.p 6 (.p 7 (.p 8 (.q 3 (.p 4 (.q 9 (.p 10 .nil))))))))))) (by kernel_rfl) (⟨h.drew, (Fr.refl _ _).drew⟩) ?_
  intro ops Q' hO hQ' wr1 hR1
  iterate 7 (refine pl_p0 hO rfl rfl ?_ (fun w' => ?_) ?_; rotate_left 1; (focus (go_simp; ((try with_reducible rfl); done))); simp only [Act.put, List.setIfInBounds_toArray, List.set_cons_zero, List.set_cons_succ])
  refine pl_q0 hO rfl rfl ?_ (fun w' hS => ?_) ?_; rotate_left 1; (focus (obtain ⟨hB, hF⟩ := hS; have c13 := hB.g13; have c15 := hB.g15; go_simp; ((try with_reducible rfl); done))); simp only [Act.put, List.setIfInBounds_toArray, List.set_cons_zero, List.set_cons_succ]
  refine pl_p0 hO rfl rfl ?_ (fun w' => ?_) ?_; rotate_left 1; (focus (go_simp; ((try with_reducible rfl); done))); simp only [Act.put, List.setIfInBounds_toArray, List.set_cons_zero, List.set_cons_succ]
  refine pl_q0 hO rfl rfl ?_ (fun w' hS => ?_) ?_; rotate_left 1; (focus (obtain ⟨hB, hF⟩ := hS; have c13 := hB.g13; have c15 := hB.g15; go_simp; ((try with_reducible rfl); done))); simp only [Act.put, List.setIfInBounds_toArray, List.set_cons_zero, List.set_cons_succ]
  refine pl_p0 hO rfl rfl ?_ (fun w' => ?_) ?_; rotate_left 1; (focus (go_simp; ((try with_reducible rfl); done))); simp only [Act.put, List.setIfInBounds_toArray, List.set_cons_zero, List.set_cons_succ]
  refine pl_nil (hQ' _ _ ?_)
  exact HK.out _ _  ⟨rfl, rfl⟩ (Kc h0.symm (Kc rfl (Kc rfl (Kc rfl (Kc rfl (Kn _ _)))))) (rfl) hR1.1 hR1.2
theorem msR3 (p T : Nat) (M : MLay) (s : St) (a : Act) (w : World) (K : Exit → Act → World → Prop) (hs : Sz 51 a)
    (h0 : sl a 0 = .pointer (some ⟨p, 0, none⟩)) (h : ModelAt w p T M s)
    (hK : ∀ a' w', Sz 51 a' → Kp [0, 2, 3, 5, 8] a a' → MNow p T M w { s with lost := wrap64 (s.lost + 1) } w' → K .normal a' w') :
    (regionOf Tryz.f213 3).wp Tryz.prog K a w := by
  unfold Kp at hK; rw [msF_of hs]; clear hs; generalize sl a = u at *; clear a; have HK := Lib.hid hK; clear hK; conv => arg 2; whnf
  simp only [msF, h0]
  have qw := i64w (s.lost + 1)
  have c19 := h.g19
  have hfz := h.fr
  go_wp2_with fail
  exact HK.out _ _  ⟨rfl, rfl⟩ (Kc h0.symm (Kc rfl (Kc rfl (Kc rfl (Kc rfl (Kn _ _))))))  (MNow.of (h.set1 19 _ { s with lost := wrap64 (s.lost + 1) } rfl rfl rfl rfl rfl rfl { h.ok with }) (fr_mset p M w 19 _))
theorem msR4 (p T : Nat) (M : MLay) (s : St) (f : List UInt8) (a : Act) (w : World) (K : Exit → Act → World → Prop) (hs : Sz 51 a)
    (h0 : sl a 0 = .pointer (some ⟨p, 0, none⟩)) (h8 : sl a 8 = .string (bs f)) (h : ModelAt w p T M s) (hlt : s.tx.length < s.c.tx)
    (hK : ∀ a' w', Sz 51 a' → Kp [0, 2, 3, 5, 8] a a' → MNow p T M w { s with tx := s.tx ++ [f] } w' → K .normal a' w') :
    (regionOf Tryz.f213 4).wp Tryz.prog K a w := by
  unfold Kp at hK; rw [msF_of hs]; clear hs; generalize sl a = u at *; clear a; have HK := Lib.hid hK; clear hK; conv => arg 2; whnf
  simp only [msF, h0, h8]
  obtain ⟨i0, hi, hz0, hz1, hz2⟩ := info_parts strInfo
  have hA1 := h.none ((Fr.refl noB w).alloc (.cells #[.string (bs f)] 9))
  have c15 := h.g15
  have ow := hA1.tx
  have hl1 := h.txl
  have hl2 := h.ok.tx1
  go_wp2_with (at_builtin; refine wpList_append_own_at _ rfl _ _ 54 rfl 0 9 i0 (.string ⟨#[]⟩) 1 16 Tryz.underlying54 hi hz0 hz1 hz2 rfl (by decide) _ _ _ rfl ow ⟨w.heap.size, 0, none⟩ 1 1 [.string (bs f)] rfl rfl (cell_one_new _ _ _) (by simp [Value.oneCell']) (by unfold maxLen; omega) (by omega) (Nat.zero_le _) ?_; intro v' w3 hown' hg3 hnil3 hbk3; obtain ⟨g', c', hv', hown2⟩ := own_cut hown'; subst hv'; have hf3 : Fr (fun b => b ∈ blkA M.tx) (w.alloc (.cells #[.string (bs f)] 9)) w3 := (Fr.refl _ _).grown hg3 (fun g h _ => sl_blk h); have hB3 := hA1.bk.keep hf3 (fun hx => hA1.nd.pt hx); have cc := hB3.cell 15; have hfz := hB3.frees)
  have hb : ∀ b ∈ blkA (some ⟨g', 0, none⟩), b ∈ blkA M.tx ∨ (w.alloc (.cells #[.string (bs f)] 9)).heap.size ≤ b := fun b hb => by
    have hb1 := blk_sl (n := s.tx.length + 1) (c := c') hb
    rcases hbk3 with e | e
    · exact .inl (sl_blk (e.symm.trans hb1))
    · exact .inr (by rw [e] at hb1; injection hb1 with hb1; omega)
  have hl : (s.tx ++ [f]).length = s.tx.length + 1 := by simp
  have hq := hA1.txTurn (q := s.tx ++ [f]) (A := some ⟨g', 0, none⟩) (c := c') hf3 (by rw [hl, strV_app]; exact hown2) hb (by omega)
  rw [hl] at hq
  exact HK.out _ _  ⟨rfl, rfl⟩ (Kc h0.symm (Kc rfl (Kc rfl (Kc rfl (Kc h8.symm (Kn _ _))))))  (MNow.pre ((Fr.refl noB w).alloc _) hq)
theorem modSend (p T : Nat) (M : MLay) (s : St) (m0 m1 m2 m3 m4 m5 : UInt8) (kind : Nat) (ld : List UInt8) (w : World) (h : ModelAt w p T M s) (hkd : kind < 65536) (hld : ld.length ≤ 9223372036854775807) :
    Calls Tryz.prog 213 #[.pointer (some ⟨p, 0, none⟩), .agg #[.int .u8 (m0.toNat : Int), .int .u8 (m1.toNat : Int), .int .u8 (m2.toNat : Int), .int .u8 (m3.toNat : Int), .int .u8 (m4.toNat : Int), .int .u8 (m5.toNat : Int)], .int .u16 (kind : Int), .string (bs ld)] w fun e w' => e = .returned (.tuple #[]) ∧ MNow p T M w (s.send (m0, m1, m2, m3, m4, m5) kind ld) w' := by
  go_enter Tryz.func213, Tryz.ntmps213
  refine wp_seq ?_
  refine msR0 m0 m1 m2 m3 m4 m5 _ w _ ⟨rfl, rfl⟩ rfl ?_
  intro a1 w1 hs1 k1 o5 hf1 hG1
  refine wp_seq ?_
  refine msR1 p T M s _ kind ld m0 m1 m2 m3 m4 m5 a1 w1 _ hs1 ((k1 0 (by decide)).trans rfl) ((k1 2 (by decide)).trans rfl) ((k1 3 (by decide)).trans rfl) o5 (h.none hf1) hG1 hkd hld ?_
  intro a2 w2 hs2 k2 o8 h2 hf2
  have e0 : sl a2 0 = .pointer (some ⟨p, 0, none⟩) := (k2 0 (by decide)).trans ((k1 0 (by decide)).trans rfl)
  refine wp_seq ?_
  refine msR2 p T M s (decide (s.tx.length = s.c.tx)) a2 w2 _ hs2 e0 h2 (by rw [Bool.eq_iff_iff]; simp only [beq_iff_eq, decide_eq_true_eq]; omega) ?_
  intro a3 w3 hs3 k3 o33 h3 hf3
  have hF := (hf1.none hf2).none hf3
  unfold St.send
  refine wp_if o33 (fun hb => ?_) (fun hb => ?_)
  · rw [if_pos (of_decide_eq_true hb)]
    refine msR3 p T M s a3 w3 _ hs3 ((k3 0 (by decide)).trans e0) h3 ?_
    intro a4 w4 hs4 k4 hN
    exact bodyPost_end (results_none rfl _ _ _) hs4.defers ⟨rfl, MNow.pre hF hN⟩
  · rw [if_neg (of_decide_eq_false hb)]
    refine msR4 p T M s _ a3 w3 _ hs3 ((k3 0 (by decide)).trans e0) ((k3 8 (by decide)).trans o8) h3 (by have := h3.txl; have := of_decide_eq_false hb; omega) ?_
    intro a4 w4 hs4 k4 hN
    exact bodyPost_end (results_none rfl _ _ _) hs4.defers ⟨rfl, MNow.pre hF hN⟩
def mpF (u : Nat → Value) : Act := ⟨#[u 0, u 1, u 2, u 3, u 4, u 5, u 6, u 7, u 8, u 9, u 10, u 11, u 12, u 13, u 14, u 15, u 16, u 17, u 18, u 19, u 20, u 21, u 22, u 23, u 24, u 25, u 26, u 27, u 28, u 29, u 30, u 31, u 32, u 33, u 34, u 35, u 36, u 37, u 38, u 39, u 40, u 41, u 42, u 43, u 44, u 45, u 46, u 47, u 48, u 49], []⟩
set_option maxRecDepth 100000 in
theorem mpF_eq (u : Nat → Value) : mpF u = frN 50 u := rfl
theorem mpF_of {a : Act} (h : Sz 50 a) : a = mpF (sl a) := h.eq.trans (mpF_eq _).symm
theorem mpR0  (a : Act) (w : World) (K : Exit → Act → World → Prop) (hs : Sz 50 a)
     
    (hK : ∀ a' w', Sz 50 a' → Kp [0, 1, 2, 3, 4, 11, 13] a a' → w' = w → K .normal a' w') :
    (regionOf Tryz.f218 0).wp Tryz.prog K a w := by
  unfold Kp at hK; rw [mpF_of hs]; clear hs; generalize sl a = u at *; clear a; have HK := Lib.hid hK; clear hK; conv => arg 2; whnf
  simp only [mpF]
  go_wp2_with fail
  exact HK.out _ _  ⟨rfl, rfl⟩ (Kc rfl (Kc rfl (Kc rfl (Kc rfl (Kc rfl (Kc rfl (Kc rfl (Kn _ _))))))))  rfl
theorem mpR1 (p T : Nat) (M : MLay) (s : St) (dst fm port : Nat) (ld : List UInt8) (a : Act) (w : World) (K : Exit → Act → World → Prop) (hs : Sz 50 a)
    (h0 : sl a 0 = .pointer (some ⟨p, 0, none⟩)) (h1 : sl a 1 = .int .u32 (dst : Int)) (h2 : sl a 2 = .int .i64 (fm : Int)) (h3 : sl a 3 = .int .i64 (port : Int)) (h4 : sl a 4 = .string (bs ld)) (h : ModelAt w p T M s) (hdst : dst < 4294967296) (hfm : fm < 65536) (hport : port < 65536) (hld : ld.length ≤ 4611686018427387000)
    (hK : ∀ a' w', Sz 50 a' → Kp [0, 1, 2, 3, 4, 10, 13] a a' → sl a' 11 = .string (bs (wrUDP fm port s.address dst ld).1) → Fr noB w w' → K .normal a' w') :
    (regionOf Tryz.f218 1).wp Tryz.prog K a w := by
  unfold Kp at hK; rw [mpF_of hs]; clear hs; generalize sl a = u at *; clear a; have HK := Lib.hid hK; clear hK; conv => arg 2; whnf
  simp only [mpF, h0, h1, h2, h3, h4]
  have hadl : s.address < 4294967296 := by unfold St.address; split; exact h.ok.addr; omega
  have qa : IntKind.u16.wrap (fm : Int) = (fm : Int) := IntWalk.u16_in _ ⟨by omega, by omega⟩
  have qb : IntKind.u16.wrap (port : Int) = (port : Int) := IntWalk.u16_in _ ⟨by omega, by omega⟩
  go_wp2_with fail
  refine (modAddress p T M s _ h).mono ?_
  rintro e w1 ⟨rfl, rfl⟩
  go_wp2_with fail
  refine (refWriteUDP fm port s.address dst ld _ hfm hport hadl hdst hld).mono ?_
  rintro e w2 ⟨rfl, f2⟩
  go_wp2_with fail
  exact HK.out _ _  ⟨rfl, rfl⟩ (Kc h0.symm (Kc h1.symm (Kc h2.symm (Kc h3.symm (Kc h4.symm (Kc rfl (Kc rfl (Kn _ _)))))))) (rfl) f2
theorem mpR2 (p T : Nat) (M : MLay) (s : St) (dst : Nat) (u1 : List UInt8) (a : Act) (w : World) (K : Exit → Act → World → Prop) (hs : Sz 50 a)
    (h0 : sl a 0 = .pointer (some ⟨p, 0, none⟩)) (h1 : sl a 1 = .int .u32 (dst : Int)) (h11 : sl a 11 = .string (bs u1)) (h : ModelAt w p T M s) (hdst : dst < 4294967296) (hu1 : u1.length ≤ 9223372036854775807)
    (hK : ∀ a' w', Sz 50 a' → Kp [0, 1, 2, 3, 4, 10, 11] a a' → sl a' 13 = .string (bs (wrIP (s.id % 65536) 64 17 s.address dst u1).1) → ModelAt w' p T M s → Fr noB w w' → K .normal a' w') :
    (regionOf Tryz.f218 2).wp Tryz.prog K a w := by
  unfold Kp at hK; rw [mpF_of hs]; clear hs; generalize sl a = u at *; clear a; have HK := Lib.hid hK; clear hK; conv => arg 2; whnf
  have hadl : s.address < 4294967296 := by unfold St.address; split; exact h.ok.addr; omega
  have qi : IntKind.u16.wrap (wrap64 (s.id : Int)) = ((s.id % 65536 : Nat) : Int) := by rw [IntKind.wrap_u16]; unfold wrap64; omega
  simp only [mpF, h0, h1, h11]
  refine wp_region_pls (by kernel_rfl) (fun w' => ModelAt w' p T M s ∧ Fr noB w w') [] (.p 0 (.p 1 (.p 2 (.p 5 (.p 7 (.p 8 (.q 3 (.p 4 (.e 6 (.p 9 (.e 10 (.p 11 (.p 12 (.p 13 (.p 14 (.p 15 .nil)))))))))))))))) (by kernel_rfl) (⟨h.drew, (Fr.refl _ _).drew⟩) ?_
  intro ops Q' hO hQ' wr1 hR1
  iterate 6 (refine pl_p0 hO rfl rfl ?_ (fun w' => ?_) ?_; rotate_left 1; (focus (go_simp; ((try with_reducible rfl); done))); simp only [Act.put, List.setIfInBounds_toArray, List.set_cons_zero, List.set_cons_succ])
  refine pl_q0 hO rfl rfl ?_ (fun w' hS => ?_) ?_; rotate_left 1; (focus (obtain ⟨hB, hF⟩ := hS; have c20 := hB.g20; go_simp; ((try with_reducible rfl); done))); simp only [Act.put, List.setIfInBounds_toArray, List.set_cons_zero, List.set_cons_succ]
  refine pl_p0 hO rfl rfl ?_ (fun w' => ?_) ?_; rotate_left 1; (focus (go_simp; ((try with_reducible rfl); done))); simp only [Act.put, List.setIfInBounds_toArray, List.set_cons_zero, List.set_cons_succ]
  refine pl_e0 hO rfl rfl rfl (fun K hK => ?_)
  go_simp
  refine (modAddress p T M s _ hR1.1).mono ?_
  rintro e w2 ⟨rfl, rfl⟩
  refine hK _ _ (hR1) (fun hR_6 => ?_)
  clear hK K
  refine pl_p0 hO rfl rfl ?_ (fun w' => ?_) ?_; rotate_left 1; (focus (go_simp; ((try with_reducible rfl); done))); simp only [Act.put, List.setIfInBounds_toArray, List.set_cons_zero, List.set_cons_succ]
  refine pl_e0 hO rfl rfl rfl (fun K hK => ?_)
  go_simp
  refine (refWriteIP (s.id % 65536) s.address dst 64 17 u1 _ (Nat.mod_lt _ (by decide)) hadl hdst hu1).mono ?_
  rintro e w3 ⟨rfl, f3⟩
  refine hK _ _ (⟨hR_6.1.none f3, hR_6.2.none f3⟩) (fun hR_10 => ?_)
  clear hK K
  iterate 5 (refine pl_p0 hO rfl rfl ?_ (fun w' => ?_) ?_; rotate_left 1; (focus (go_simp; ((try with_reducible rfl); done))); simp only [Act.put, List.setIfInBounds_toArray, List.set_cons_zero, List.set_cons_succ])
  refine pl_nil (hQ' _ _ ?_)
  exact HK.out _ _  ⟨rfl, rfl⟩ (Kc h0.symm (Kc h1.symm (Kc rfl (Kc rfl (Kc rfl (Kc rfl (Kc h11.symm (Kn _ _)))))))) (rfl) hR_10.1 hR_10.2
theorem mpR3 (p T : Nat) (M : MLay) (s : St) (a : Act) (w : World) (K : Exit → Act → World → Prop) (hs : Sz 50 a)
    (h0 : sl a 0 = .pointer (some ⟨p, 0, none⟩)) (h : ModelAt w p T M s)
    (hK : ∀ a' w', Sz 50 a' → Kp [0, 1, 2, 3, 4, 10, 11, 13] a a' → ModelAt w' p T M s.took → Fr (mown p M) w w' → K .normal a' w') :
    (regionOf Tryz.f218 3).wp Tryz.prog K a w := by
  unfold Kp at hK; rw [mpF_of hs]; clear hs; generalize sl a = u at *; clear a; have HK := Lib.hid hK; clear hK; conv => arg 2; whnf
  simp only [mpF, h0]
  have qw : IntKind.i64.wrap (wrap64 (s.id : Int) + 1) = wrap64 ((s.id + 1 : Nat) : Int) := by rw [i64w]; unfold wrap64; omega
  have c20 := h.g20
  have hfz := h.fr
  go_wp2_with fail
  exact HK.out _ _  ⟨rfl, rfl⟩ (Kc h0.symm (Kc rfl (Kc rfl (Kc rfl (Kc rfl (Kc rfl (Kc rfl (Kc rfl (Kn _ _)))))))))  (h.set1 20 (.int .i64 (wrap64 ((s.id + 1 : Nat) : Int))) s.took rfl rfl rfl rfl rfl rfl { h.ok with }) (fr_mset p M w 20 _)
theorem mpR4 (x : List UInt8) (a : Act) (w : World) (K : Exit → Act → World → Prop) (hs : Sz 50 a)
    (h13 : sl a 13 = .string (bs x)) 
    (hK : ∀ a' w', Sz 50 a' → Kp [0, 1, 2, 3, 4, 11, 13] a a' → sl a' 10 = .string (bs x) → w' = w → K .normal a' w') :
    (regionOf Tryz.f218 4).wp Tryz.prog K a w := by
  unfold Kp at hK; rw [mpF_of hs]; clear hs; generalize sl a = u at *; clear a; have HK := Lib.hid hK; clear hK; conv => arg 2; whnf
  simp only [mpF, h13]
  go_wp2_with fail
  exact HK.out _ _  ⟨rfl, rfl⟩ (Kc rfl (Kc rfl (Kc rfl (Kc rfl (Kc rfl (Kc rfl (Kc h13.symm (Kn _ _)))))))) (rfl) rfl
theorem modPacket (p T : Nat) (M : MLay) (s : St) (dst fm port : Nat) (ld : List UInt8) (w : World) (h : ModelAt w p T M s) (hdst : dst < 4294967296) (hfm : fm < 65536) (hport : port < 65536) (hld : ld.length ≤ 4611686018427387000) :
    Calls Tryz.prog 218 #[.pointer (some ⟨p, 0, none⟩), .int .u32 (dst : Int), .int .i64 (fm : Int), .int .i64 (port : Int), .string (bs ld)] w fun e w' => e = .returned (.string (bs (s.packet dst fm port ld))) ∧ MNow p T M w s.took w' := by
  go_enter Tryz.func218, Tryz.ntmps218
  refine wp_seq ?_
  refine mpR0 _ w _ ⟨rfl, rfl⟩ ?_
  intro a0 w0 hs0 k0 hw; subst hw
  refine wp_seq ?_
  refine mpR1 p T M s dst fm port ld a0 w0 _ hs0 ((k0 0 (by decide)).trans rfl) ((k0 1 (by decide)).trans rfl) ((k0 2 (by decide)).trans rfl) ((k0 3 (by decide)).trans rfl) ((k0 4 (by decide)).trans rfl) h hdst hfm hport hld ?_
  intro a1 w1 hs1 k1 o11 hf1
  have e0 : sl a1 0 = .pointer (some ⟨p, 0, none⟩) := (k1 0 (by decide)).trans ((k0 0 (by decide)).trans rfl)
  refine wp_seq ?_
  refine mpR2 p T M s dst _ a1 w1 _ hs1 e0 ((k1 1 (by decide)).trans ((k0 1 (by decide)).trans rfl)) o11 (h.none hf1) hdst (by have := wrUDP_len fm port s.address dst ld; omega) ?_
  intro a2 w2 hs2 k2 o13 h2 hf2
  refine wp_seq ?_
  refine mpR3 p T M s a2 w2 _ hs2 ((k2 0 (by decide)).trans e0) h2 ?_
  intro a3 w3 hs3 k3 h3 hf3
  refine wp_seq ?_
  refine mpR4 _ a3 w3 _ hs3 ((k3 13 (by decide)).trans o13) ?_
  intro a4 w4 hs4 k4 o10 hw; subst hw
  refine wp_ret ?_
  refine bodyPost_ret (results_tmp rfl _ _ _) hs4.defers ⟨?_, MNow.pre (hf1.none hf2) (MNow.of h3 hf3)⟩
  rw [show a4.tmps.getD 10 undef = _ from o10]; rfl
end Go.Proofs.YtcbkaiakdhiloabGreatDoor
set_option maxRecDepth 20000
namespace Go.Proofs.YtcbkaiakdhiloabGreatDoor
open Go.RowKit Go.Proofs
attribute [local go_sem] bs_size bs_append bs_extract bs_toList
theorem own_cut0 {w : World} {e : TypeId} {size n : Nat} {v : Value} {xs : List Value} (h : w.ownsRow 0 e size v n xs) : ∃ A c, v = .slice A n c ∧ w.ownsRow 0 e size (.slice A n c) n xs := by
  rcases h.2 with ⟨hv, h0⟩ | ⟨g, c, cur, hv, _⟩
  · subst hv; subst h0; exact ⟨none, 0, rfl, h⟩
  · subst hv; exact ⟨_, c, rfl, h⟩
theorem own_some {w : World} {e : TypeId} {size n c : Nat} {A : Option Addr} {xs : List Value} (h : w.ownsRow 0 e size (.slice A (n + 1) c) (n + 1) xs) : ∃ g, A = some ⟨g, 0, none⟩ ∧ n + 1 ≤ c ∧ ∀ j u, xs[j]? = some u → w.cell? ⟨g, j, none⟩ = some u := by
  rcases h.2 with ⟨_, h0⟩ | ⟨g, cc, cur, hv, _, _, hc, _⟩
  · omega
  · injection hv with e1 e2 e3
    subst e1; subst e3
    exact ⟨g, rfl, hc, fun j u hj => by have := h.cells (g := g) rfl j u hj; cases j <;> simpa [Addr.add] using this⟩
def mkF (u : Nat → Value) : Act := ⟨#[u 0, u 1, u 2, u 3, u 4, u 5, u 6, u 7, u 8, u 9, u 10, u 11, u 12, u 13, u 14, u 15, u 16, u 17, u 18, u 19, u 20, u 21, u 22, u 23, u 24, u 25, u 26], []⟩
set_option maxRecDepth 100000 in
theorem mkF_eq (u : Nat → Value) : mkF u = frN 27 u := rfl
theorem mkF_of {a : Act} (h : Sz 27 a) : a = mkF (sl a) := h.eq.trans (mkF_eq _).symm
theorem mkR0  (a : Act) (w : World) (K : Exit → Act → World → Prop) (hs : Sz 27 a)
     
    (hK : ∀ a' w', Sz 27 a' → Kp [0, 4] a a' → sl a' 2 = .string ⟨#[]⟩ → sl a' 3 = .bool false → w' = w → K .normal a' w') :
    (regionOf Tryz.f102 0).wp Tryz.prog K a w := by
  unfold Kp at hK; rw [mkF_of hs]; clear hs; generalize sl a = u at *; clear a; have HK := Lib.hid hK; clear hK; conv => arg 2; whnf
  simp only [mkF]
  go_wp2_with fail
  exact HK.out _ _  ⟨rfl, rfl⟩ (Kc rfl (Kc rfl (Kn _ _))) (rfl) (rfl) rfl
theorem mkR1 (p T : Nat) (M : MLay) (s : St) (b : Bool) (a : Act) (w : World) (K : Exit → Act → World → Prop) (hs : Sz 27 a)
    (h0 : sl a 0 = .pointer (some ⟨p, 0, none⟩)) (h : ModelAt w p T M s) (hb : ((s.tx.length : Int) == 0) = b)
    (hK : ∀ a' w', Sz 27 a' → Kp [0, 2, 3, 4] a a' → sl a' 10 = .bool b → w' = w → K .normal a' w') :
    (regionOf Tryz.f102 1).wp Tryz.prog K a w := by
  unfold Kp at hK; rw [mkF_of hs]; clear hs; generalize sl a = u at *; clear a; have HK := Lib.hid hK; clear hK; conv => arg 2; whnf
  simp only [mkF, h0]
  have c15 := h.g15
  go_wp2_with fail
  exact HK.out _ _  ⟨rfl, rfl⟩ (Kc h0.symm (Kc rfl (Kc rfl (Kc rfl (Kn _ _))))) (rfl) rfl
theorem mkR2  (a : Act) (w : World) (K : Exit → Act → World → Prop) (hs : Sz 27 a)
     
    (hK : ∀ a' w', Sz 27 a' → Kp [0, 4] a a' → sl a' 2 = .string ⟨#[]⟩ → sl a' 3 = .bool false → w' = w → K .normal a' w') :
    (regionOf Tryz.f102 2).wp Tryz.prog K a w := by
  unfold Kp at hK; rw [mkF_of hs]; clear hs; generalize sl a = u at *; clear a; have HK := Lib.hid hK; clear hK; conv => arg 2; whnf
  simp only [mkF]
  go_wp2_with fail
  exact HK.out _ _  ⟨rfl, rfl⟩ (Kc rfl (Kc rfl (Kn _ _))) (rfl) (rfl) rfl
theorem mkR3 (p T : Nat) (M : MLay) (s : St) (f : List UInt8) (r : List (List UInt8)) (a : Act) (w : World) (K : Exit → Act → World → Prop) (hs : Sz 27 a)
    (h0 : sl a 0 = .pointer (some ⟨p, 0, none⟩)) (h : ModelAt w p T M s) (ht : s.tx = f :: r)
    (hK : ∀ a' w', Sz 27 a' → Kp [0, 2, 3] a a' → sl a' 4 = .string (bs f) → w' = w → K .normal a' w') :
    (regionOf Tryz.f102 3).wp Tryz.prog K a w := by
  unfold Kp at hK; rw [mkF_of hs]; clear hs; generalize sl a = u at *; clear a; have HK := Lib.hid hK; clear hK; conv => arg 2; whnf
  simp only [mkF, h0]
  have c15 := h.g15
  have ow := h.tx
  rw [ht] at c15 ow
  obtain ⟨g, hA, hc, hat⟩ := own_some (n := r.length) ow
  rw [hA] at c15
  have q0 := hat 0 _ rfl
  clear hat ow
  go_wp2_with fail
  exact HK.out _ _  ⟨rfl, rfl⟩ (Kc h0.symm (Kc rfl (Kc rfl (Kn _ _)))) (rfl) rfl
theorem mkR4a (p T : Nat) (M : MLay) (s : St) (f : List UInt8) (a : Act) (w : World) (K : Exit → Act → World → Prop) (hs : Sz 27 a)
    (h0 : sl a 0 = .pointer (some ⟨p, 0, none⟩)) (h : ModelAt w p T M s) (ht : s.tx = [f]) (hne : M.txc = 1)
    (hK : ∀ a' w', Sz 27 a' → Kp [0, 2, 3, 4] a a' → MNow p T M w { s with tx := [] } w' → K .normal a' w') :
    (regionOf Tryz.f102 4).wp Tryz.prog K a w := by
  unfold Kp at hK; rw [mkF_of hs]; clear hs; generalize sl a = u at *; clear a; have HK := Lib.hid hK; clear hK; conv => arg 2; whnf
  simp only [mkF, h0]
  have c15 := h.g15
  have hfz := h.fr
  have ow := h.tx
  rw [ht] at c15 ow
  obtain ⟨g, hA, hc, hat⟩ := own_some (n := 0) ow
  rw [hA, hne] at c15
  have q0 := hat 0 _ rfl
  clear hat ow
  obtain ⟨i0, hi, hz0, hz1, hz2⟩ := info_parts strInfo
  have hap : ∀ w, (Builtin.append_ #[54, 54] 54 #[.slice none 0 0, .slice (some ⟨g, 0, none⟩) 0 0]).run Tryz.prog w = .ok (.slice none 0 0) w := fun w => by
    simp [Builtin.append_, run_underlying Tryz.underlying54, sizeOf, typeInfo, hi, Builtin.lenOf, Builtin.firstCells, loadCells, loadCellsFrom]
  go_wp2_with fail
  have hq := h.txTurn (q := []) (A := none) (c := 0) (Fr.refl _ _) (World.ownsRow_nil _ _ _ _) (fun b hb => by cases hb) (Nat.zero_le _)
  exact HK.out _ _  ⟨rfl, rfl⟩ (Kc h0.symm (Kc rfl (Kc rfl (Kc rfl (Kn _ _)))))  hq
theorem mkR4b (p T : Nat) (M : MLay) (s : St) (f : List UInt8) (r : List (List UInt8)) (a : Act) (w : World) (K : Exit → Act → World → Prop) (hs : Sz 27 a)
    (h0 : sl a 0 = .pointer (some ⟨p, 0, none⟩)) (h : ModelAt w p T M s) (ht : s.tx = f :: r) (hne : M.txc ≠ 1)
    (hK : ∀ a' w', Sz 27 a' → Kp [0, 2, 3, 4] a a' → MNow p T M w { s with tx := r } w' → K .normal a' w') :
    (regionOf Tryz.f102 4).wp Tryz.prog K a w := by
  unfold Kp at hK; rw [mkF_of hs]; clear hs; generalize sl a = u at *; clear a; have HK := Lib.hid hK; clear hK; conv => arg 2; whnf
  simp only [mkF, h0]
  have c15 := h.g15
  have ow := h.tx
  rw [ht] at c15 ow
  obtain ⟨g, hA, hc, hat⟩ := own_some (n := r.length) ow
  have htl := h.txl
  have ht1 := h.ok.tx1
  rw [ht, List.length_cons] at htl
  rw [hA] at c15
  obtain ⟨i0, hi, hz0, hz1, hz2⟩ := info_parts strInfo
  have hat1 : ∀ j u, (strV r)[j]? = some u → w.cell? ((⟨g, 1, none⟩ : Addr).add j) = some u := fun j u hj => by
    have := hat (j + 1) u (by simpa [strV] using hj)
    rw [show (⟨g, 1, none⟩ : Addr).add j = ⟨g, j + 1, none⟩ by simp [Addr.add, Nat.add_comm]]
    exact this
  clear hat ow
  rw [List.length_cons] at c15
  go_wp2_with (at_builtin; refine wpList_append_own_at _ rfl _ _ 54 rfl 0 9 i0 (.string ⟨#[]⟩) 1 16 Tryz.underlying54 hi hz0 hz1 hz2 rfl (by decide) _ 0 [] rfl (World.ownsRow_nil _ _ _ _) ⟨g, 1, none⟩ r.length (M.txc - 1) (strV r) rfl (by simp [strV]) hat1 (by simp [strV, Value.oneCell']) (by unfold maxLen; omega) (by omega) (Nat.zero_le _) ?_; intro v' w3 hown' hg3 hnil3 hbk3; obtain ⟨A', c', hv', hown2⟩ := own_cut0 hown'; subst hv'; have hf3 : Fr noB w w3 := (Fr.refl _ _).grown hg3 (fun g h _ => by cases h); have hB3 := h.none hf3; have cc := hB3.g15; have hfz := hB3.fr; skip)
  have hq := h.txTurn (q := r) (A := A') (c := c') (hf3.of_no _) (by simpa using hown2) (fun b hb => by
    have hb1 := blk_sl (n := 0 + r.length) (c := c') hb
    rcases hbk3 with e | e
    · rw [e] at hb1; cases hb1
    · exact .inr (by rw [e] at hb1; injection hb1 with hb1; omega)) (by omega)
  exact HK.out _ _  ⟨rfl, rfl⟩ (Kc h0.symm (Kc rfl (Kc rfl (Kc rfl (Kn _ _)))))  hq
theorem mkR5 (f : List UInt8) (a : Act) (w : World) (K : Exit → Act → World → Prop) (hs : Sz 27 a)
    (h4 : sl a 4 = .string (bs f)) 
    (hK : ∀ a' w', Sz 27 a' → Kp [0, 4] a a' → sl a' 2 = .string (bs f) → sl a' 3 = .bool true → w' = w → K .normal a' w') :
    (regionOf Tryz.f102 5).wp Tryz.prog K a w := by
  unfold Kp at hK; rw [mkF_of hs]; clear hs; generalize sl a = u at *; clear a; have HK := Lib.hid hK; clear hK; conv => arg 2; whnf
  simp only [mkF, h4]
  go_wp2_with fail
  exact HK.out _ _  ⟨rfl, rfl⟩ (Kc rfl (Kc h4.symm (Kn _ _))) (rfl) (rfl) rfl
theorem modTake (p T : Nat) (M : MLay) (s : St) (w : World) (h : ModelAt w p T M s) :
    Calls Tryz.prog 102 #[.pointer (some ⟨p, 0, none⟩)] w fun e w' => e = .returned (.tuple #[.string (bs (s.take.2.getD [])), .bool s.take.2.isSome]) ∧ MNow p T M w s.take.1 w' := by
  go_enter Tryz.func102, Tryz.ntmps102
  refine wp_seq ?_
  refine mkR0 _ w _ ⟨rfl, rfl⟩ ?_
  intro a0 w0 hs0 k0 o2 o3 hw; subst w0
  have e0 : sl a0 0 = .pointer (some ⟨p, 0, none⟩) := (k0 0 (by decide)).trans rfl
  refine wp_seq ?_
  refine wp_seq ?_
  refine mkR1 p T M s (decide (s.tx = [])) a0 w _ hs0 e0 h (by cases s.tx <;> simp; omega) ?_
  intro a1 w1 hs1 k1 o10 hw; subst w1
  have e1 := (k1 0 (by decide)).trans e0
  cases hq : s.tx with
  | nil =>
    rw [hq] at o10
    refine wp_if o10 (fun hb => ?_) (fun hb => by cases hb)
    refine wp_seq ?_
    refine mkR2 a1 w _ hs1 ?_
    intro a2 w2 hs2 k2 o2 o3 hw; subst w2
    refine wp_ret ?_
    refine bodyPost_ret (P := Tryz.prog) (fn := Tryz.f102) (R := fun e w' => e = .returned (.tuple #[.string (bs (s.take.2.getD [])), .bool s.take.2.isSome]) ∧ MNow p T M w s.take.1 w') (results_tmp2 rfl _ _ _) hs2.defers (by rw [show s.take = (s, none) by unfold St.take; rw [hq]]; exact ⟨by rw [show a2.tmps.getD 2 undef = _ from o2, show a2.tmps.getD 3 undef = _ from o3]; rfl, MNow.at_ h⟩)
  | cons f r =>
    rw [hq] at o10
    refine wp_if o10 (fun hb => by cases hb) (fun hb => ?_)
    refine wp_skip ?_
    refine wp_seq ?_
    refine mkR3 p T M s f r a1 w _ hs1 e1 h hq ?_
    intro a2 w2 hs2 k2 o4 hw; subst w2
    refine wp_seq ?_
    have e2 := (k2 0 (by decide)).trans e1
    have key : ∀ K : Exit → Act → World → Prop, (∀ a' w', Sz 27 a' → Kp [0, 2, 3, 4] a2 a' → MNow p T M w { s with tx := r } w' → K .normal a' w') → (regionOf Tryz.f102 4).wp Tryz.prog K a2 w := fun K hK => by
      by_cases hc : M.txc = 1
      · have hr : r = [] := by
          have ow := h.tx
          rw [hq] at ow
          obtain ⟨g, hA, hcc, _⟩ := own_some (n := r.length) ow
          exact List.length_eq_zero_iff.1 (by omega)
        subst hr
        exact mkR4a p T M s f a2 w K hs2 e2 h hq hc hK
      · exact mkR4b p T M s f r a2 w K hs2 e2 h hq hc hK
    refine key _ ?_
    intro a3 w3 hs3 k3 hN
    refine wp_seq ?_
    refine mkR5 f a3 w3 _ hs3 ((k3 4 (by decide)).trans o4) ?_
    intro a4 w4 hs4 k4 o2 o3 hw; subst w4
    refine wp_ret ?_
    refine bodyPost_ret (P := Tryz.prog) (fn := Tryz.f102) (R := fun e w' => e = .returned (.tuple #[.string (bs (s.take.2.getD [])), .bool s.take.2.isSome]) ∧ MNow p T M w s.take.1 w') (results_tmp2 rfl _ _ _) hs4.defers (by rw [show s.take = ({ s with tx := r }, some f) by unfold St.take; rw [hq]]; exact ⟨by rw [show a4.tmps.getD 2 undef = _ from o2, show a4.tmps.getD 3 undef = _ from o3]; rfl, hN⟩)
def mlF (u : Nat → Value) : Act := ⟨#[u 0, u 1, u 2, u 3, u 4, u 5, u 6, u 7, u 8, u 9, u 10, u 11, u 12, u 13, u 14, u 15, u 16, u 17, u 18, u 19, u 20, u 21, u 22, u 23, u 24, u 25, u 26, u 27, u 28, u 29, u 30, u 31, u 32, u 33, u 34, u 35], []⟩
set_option maxRecDepth 100000 in
theorem mlF_eq (u : Nat → Value) : mlF u = frN 36 u := rfl
theorem mlF_of {a : Act} (h : Sz 36 a) : a = mlF (sl a) := h.eq.trans (mlF_eq _).symm
theorem mlR0  (a : Act) (w : World) (K : Exit → Act → World → Prop) (hs : Sz 36 a)
     
    (hK : ∀ a' w', Sz 36 a' → Kp [0] a a' → sl a' 2 = .pointer (some ⟨w.heap.size, 0, none⟩) → Fr noB w w' → Bk w' w.heap.size 59 #[.int .i64 0, .int .i64 0, .int .i64 0, .int .u32 0, .int .i64 0, .int .i64 0, .int .i64 0, .int .i64 0] → K .normal a' w') :
    (regionOf Tryz.f106 0).wp Tryz.prog K a w := by
  unfold Kp at hK; rw [mlF_of hs]; clear hs; generalize sl a = u at *; clear a; have HK := Lib.hid hK; clear hK; conv => arg 2; whnf
  simp only [mlF]
  go_wp2_with fail
  exact HK.out _ _  ⟨rfl, rfl⟩ (Kc rfl (Kn _ _)) (rfl) ((Fr.refl _ _).alloc _) (Bk.new _ _ _)
theorem mlR1 (p T : Nat) (M : MLay) (s : St) (g : Nat) (a : Act) (w : World) (K : Exit → Act → World → Prop) (hs : Sz 36 a)
    (h0 : sl a 0 = .pointer (some ⟨p, 0, none⟩)) (h2 : sl a 2 = .pointer (some ⟨g, 0, none⟩)) (h : ModelAt w p T M s) (hG : Bk w g 59 #[.int .i64 0, .int .i64 0, .int .i64 0, .int .u32 0, .int .i64 0, .int .i64 0, .int .i64 0, .int .i64 0])
    (hK : ∀ a' w', Sz 36 a' → Kp [0, 2] a a' → Bk w' g 59 #[.int .i64 s.now, .int .i64 (s.lease : Int), .int .i64 (s.phase : Int), .int .u32 (s.address : Int), .int .i64 s.boots, .int .i64 (s.image.length : Int), .int .i64 s.lost, .int .i64 (s.cache.length : Int)] → Fr (oneB g) w w' → K .normal a' w') :
    (regionOf Tryz.f106 1).wp Tryz.prog K a w := by
  unfold Kp at hK; rw [mlF_of hs]; clear hs; generalize sl a = u at *; clear a; have HK := Lib.hid hK; clear hK; conv => arg 2; whnf
  simp only [mlF, h0, h2]
  refine wp_region_pls (by kernel_rfl) (fun w' => ModelAt w' p T M s ∧ Bk w' g 59 #[.int .i64 0, .int .i64 0, .int .i64 0, .int .u32 0, .int .i64 0, .int .i64 0, .int .i64 0, .int .i64 0] ∧ Fr noB w w') [33] (.p 0 (.p 1 (.p 2 (.p 4 (.p 5 (.p 6 (.p 8 (.p 9 (.p 10 (.p 12 (.p 14 (.p 15 (.p 16 (.p 18 (.p 19 (.p 20 (.p 23 (.p 24 (.p 25 (.p 27 (.p 28 (.p 29 (.q 3 (.q 7 (.q 11 (.q 17 (.q 21 (.p 22 (.q 26 (.q 30 (.p 31 (.e 13 (.p 32 (.e 33 (.nil))))))))))))))))))))))))))))))))))) (by kernel_rfl) (⟨h.drew, hG.drew, (Fr.refl _ _).drew⟩) ?_
  intro ops Q' hO hQ' wr1 hR1
  iterate 22 (refine pl_p0 hO rfl rfl ?_ (fun w' => ?_) ?_; rotate_left 1; (focus (go_simp; ((try with_reducible rfl); done))); simp only [Act.put, List.setIfInBounds_toArray, List.set_cons_zero, List.set_cons_succ])
  iterate 5 (refine pl_q0 hO rfl rfl ?_ (fun w' hS => ?_) ?_; rotate_left 1; (focus (obtain ⟨hB, hG, hF⟩ := hS; have c16 := hB.g16; have c18 := hB.g18; have c19 := hB.g19; have c21 := hB.g21; have c22 := hB.g22; have c34 := hB.g34; have c45 := hB.g45; go_simp; ((try with_reducible rfl); done))); simp only [Act.put, List.setIfInBounds_toArray, List.set_cons_zero, List.set_cons_succ])
  refine pl_p0 hO rfl rfl ?_ (fun w' => ?_) ?_; rotate_left 1; (focus (go_simp; ((try with_reducible rfl); done))); simp only [Act.put, List.setIfInBounds_toArray, List.set_cons_zero, List.set_cons_succ]
  iterate 2 (refine pl_q0 hO rfl rfl ?_ (fun w' hS => ?_) ?_; rotate_left 1; (focus (obtain ⟨hB, hG, hF⟩ := hS; have c16 := hB.g16; have c18 := hB.g18; have c19 := hB.g19; have c21 := hB.g21; have c22 := hB.g22; have c34 := hB.g34; have c45 := hB.g45; go_simp; ((try with_reducible rfl); done))); simp only [Act.put, List.setIfInBounds_toArray, List.set_cons_zero, List.set_cons_succ])
  refine pl_p0 hO rfl rfl ?_ (fun w' => ?_) ?_; rotate_left 1; (focus (go_simp; ((try with_reducible rfl); done))); simp only [Act.put, List.setIfInBounds_toArray, List.set_cons_zero, List.set_cons_succ]
  refine pl_e0 hO rfl rfl rfl (fun K hK => ?_)
  go_simp
  refine (modAddress p T M s _ hR1.1).mono ?_
  rintro e w2 ⟨rfl, h2⟩
  subst h2
  refine hK _ _ (hR1) (fun hR_13 => ?_)
  clear hK K
  refine pl_p0 hO rfl rfl ?_ (fun w' => ?_) ?_; rotate_left 1; (focus (go_simp; ((try with_reducible rfl); done))); simp only [Act.put, List.setIfInBounds_toArray, List.set_cons_zero, List.set_cons_succ]
  refine pl_b0 hO rfl rfl rfl (fun K hK => ?_)
  refine wp_store_bk 59 (.tmp 2) (.tmp 35) rfl g _ _ #[.int .i64 s.now, .int .i64 (s.lease : Int), .int .i64 (s.phase : Int), .int .u32 (s.address : Int), .int .i64 s.boots, .int .i64 (s.image.length : Int), .int .i64 s.lost, .int .i64 (s.cache.length : Int)] rfl rfl hR_13.2.1 rfl (by kernel_rfl) (by kernel_rfl) ?_
  intro w9 hx9 hf9
  refine hK _ _ ?_
  clear hK K
  refine pl_nil (hQ' _ _ ?_)
  exact HK.out _ _  ⟨rfl, rfl⟩ (Kc h0.symm (Kc h2.symm (Kn _ _)))  hx9 ((hR_13.2.2.of_no _).trans hf9)
theorem modLook (p T : Nat) (M : MLay) (s : St) (w : World) (h : ModelAt w p T M s) :
    Calls Tryz.prog 106 #[.pointer (some ⟨p, 0, none⟩)] w fun e w' => e = .returned (.agg #[.int .i64 s.now, .int .i64 (s.lease : Int), .int .i64 (s.phase : Int), .int .u32 (s.address : Int), .int .i64 s.boots, .int .i64 (s.image.length : Int), .int .i64 s.lost, .int .i64 (s.cache.length : Int)]) ∧ MNow p T M w s w' := by
  go_enter Tryz.func106, Tryz.ntmps106
  refine wp_seq ?_
  refine mlR0 _ w _ ⟨rfl, rfl⟩ ?_
  intro a1 w1 hs1 k1 o2 hf1 hG1
  refine wp_seq ?_
  refine mlR1 p T M s _ a1 w1 _ hs1 ((k1 0 (by decide)).trans rfl) o2 (h.none hf1) hG1 ?_
  intro a2 w2 hs2 k2 hG2 hf2
  have hF : Fr noB w w2 := hf1.trans' hf2 (fun b hb e => by have e' : b = w.heap.size := e; omega)
  refine wp_ret ?_
  exact bodyPost_ret (results_cell_row Tryz.results106 _ w2 _ _ _ _ _ ((k2 2 (by decide)).trans o2) hG2 Tryz.underlying59 rfl (by kernel_rfl)) hs2.defers ⟨rfl, MNow.of (h.none hF) (hF.of_no _)⟩
end Go.Proofs.YtcbkaiakdhiloabGreatDoor
