/- Parts of the walk; written by programs, merged. -/
import Derived.Test.YtcbkaiakdhiloabGreatDoorRas
set_option linter.unusedSimpArgs false
set_option linter.unusedVariables false
set_option maxRecDepth 20000
set_option maxHeartbeats 8000000
set_option maxRecDepth 20000
namespace Go.Proofs.YtcbkaiakdhiloabGreatDoor
open Go.RowKit Go.Proofs
attribute [local go_sem] bs_size bs_append bs_extract bs_toList
def dpF (u : Nat → Value) : Act := ⟨#[u 0, u 1, u 2, u 3, u 4, u 5, u 6, u 7, u 8, u 9, u 10, u 11, u 12, u 13, u 14, u 15, u 16, u 17, u 18, u 19, u 20, u 21, u 22, u 23, u 24, u 25, u 26, u 27, u 28, u 29, u 30, u 31, u 32, u 33, u 34, u 35, u 36, u 37, u 38, u 39, u 40, u 41, u 42, u 43, u 44, u 45, u 46, u 47, u 48, u 49, u 50, u 51, u 52, u 53, u 54, u 55, u 56, u 57, u 58, u 59, u 60, u 61, u 62, u 63, u 64, u 65, u 66, u 67, u 68, u 69, u 70, u 71, u 72, u 73, u 74, u 75, u 76, u 77, u 78, u 79, u 80, u 81, u 82, u 83, u 84, u 85, u 86, u 87, u 88, u 89, u 90, u 91, u 92, u 93], []⟩
set_option maxRecDepth 100000 in
theorem dpF_eq (u : Nat → Value) : dpF u = frN 94 u := rfl
theorem dpF_of {a : Act} (h : Sz 94 a) : a = dpF (sl a) := h.eq.trans (dpF_eq _).symm
theorem dpR0 (d : DhcD) (A : Option Addr) (cap n : Nat) (a : Act) (w : World) (K : Exit → Act → World → Prop) (hs : Sz 94 a)
    (h1 : sl a 1 = .agg #[.bool d.reply, .int .u32 (d.xid : Int), .int .u32 (d.client : Int), .int .u32 (d.yours : Int), .int .u32 (d.next : Int), .int .u8 (d.mac.1.toNat : Int), .int .u8 (d.mac.2.1.toNat : Int), .int .u8 (d.mac.2.2.1.toNat : Int), .int .u8 (d.mac.2.2.2.1.toNat : Int), .int .u8 (d.mac.2.2.2.2.1.toNat : Int), .int .u8 (d.mac.2.2.2.2.2.toNat : Int), .slice A n cap]) 
    (hK : ∀ a' w', Sz 94 a' → Kp [0, 4, 6, 7, 8, 9, 44] a a' → sl a' 3 = .pointer (some ⟨w.heap.size, 0, none⟩) → Fr noB w w' → Bk w' w.heap.size 75 #[.bool d.reply, .int .u32 (d.xid : Int), .int .u32 (d.client : Int), .int .u32 (d.yours : Int), .int .u32 (d.next : Int), .int .u8 (d.mac.1.toNat : Int), .int .u8 (d.mac.2.1.toNat : Int), .int .u8 (d.mac.2.2.1.toNat : Int), .int .u8 (d.mac.2.2.2.1.toNat : Int), .int .u8 (d.mac.2.2.2.2.1.toNat : Int), .int .u8 (d.mac.2.2.2.2.2.toNat : Int), .slice A n cap] → K .normal a' w') :
    (regionOf Tryz.f186 0).wp Tryz.prog K a w := by
  unfold Kp at hK; rw [dpF_of hs]; clear hs; generalize sl a = u at *; clear a; have HK := Lib.hid hK; clear hK; conv => arg 2; whnf
  simp only [dpF, h1]
  go_wp2_with fail
  exact HK.out _ _  ⟨rfl, rfl⟩ (KpU.cons (rfl) (KpU.cons (rfl) (KpU.cons (rfl) (KpU.cons (rfl) (KpU.cons (rfl) (KpU.cons (rfl) (KpU.cons (rfl) (KpU.nil _ _)))))))) (rfl) ((Fr.refl _ _).alloc _) (Bk.new _ _ _)
theorem dpR1 (p : Nat) (M : MLay) (d : DhcD) (A : Option Addr) (cap n g : Nat) (a : Act) (w : World) (K : Exit → Act → World → Prop) (hs : Sz 94 a)
    (h3 : sl a 3 = .pointer (some ⟨g, 0, none⟩))  (hD : DmAt w p M d A cap n g)
    (hK : ∀ a' w', Sz 94 a' → Kp [0, 3, 6, 7, 8, 9, 44] a a' → sl a' 4 = .string (bs ((optOf d.os 53).getD [])) → Fr noB w w' → K .normal a' w') :
    (regionOf Tryz.f186 1).wp Tryz.prog K a w := by
  unfold Kp at hK; rw [dpF_of hs]; clear hs; generalize sl a = u at *; clear a; have HK := Lib.hid hK; clear hK; conv => arg 2; whnf
  simp only [dpF, h3]
  have x11 := hD.bk.cell 11
  have hol := wtO_len d.os
  have hwt := hD.wt
  have hnn := hD.hn
  have hcall := refOption noB A n cap d.os 53 w (hD.sl.sub fun b _ x => x.elim) (by omega)
  have Hcall := Lib.hid hcall
  clear hcall hol hwt hnn
  go_wp2_with fail
  refine Hcall.out.mono ?_
  rintro e w1 ⟨rfl, f1⟩
  go_wp2_with fail
  exact HK.out _ _  ⟨rfl, rfl⟩ (KpU.cons (rfl) (KpU.cons (h3.symm) (KpU.cons (rfl) (KpU.cons (rfl) (KpU.cons (rfl) (KpU.cons (rfl) (KpU.cons (rfl) (KpU.nil _ _)))))))) (rfl) f1
theorem dpR2 (p : Nat) (M : MLay) (d : DhcD) (A : Option Addr) (cap n g : Nat) (a : Act) (w : World) (K : Exit → Act → World → Prop) (hs : Sz 94 a)
    (h3 : sl a 3 = .pointer (some ⟨g, 0, none⟩))  (hD : DmAt w p M d A cap n g)
    (hK : ∀ a' w', Sz 94 a' → Kp [0, 3, 4, 8, 9, 44] a a' → sl a' 6 = .int .i64 (((St.number d.os 54).getD 0 : Nat) : Int) → sl a' 7 = .bool (St.number d.os 54).isSome → Fr noB w w' → K .normal a' w') :
    (regionOf Tryz.f186 2).wp Tryz.prog K a w := by
  unfold Kp at hK; rw [dpF_of hs]; clear hs; generalize sl a = u at *; clear a; have HK := Lib.hid hK; clear hK; conv => arg 2; whnf
  simp only [dpF, h3]
  have hGc := hD.bk.cells
  have hcall := modNumber d A cap n 54 w hD.hn (hD.sl.sub fun b _ x => x.elim) hD.wt
  have Hcall := Lib.hid hcall
  clear hcall
  go_wp2_with fail
  refine Hcall.out.mono ?_
  rintro e w1 ⟨rfl, hf1⟩
  go_wp2_with fail
  exact HK.out _ _  ⟨rfl, rfl⟩ (KpU.cons (rfl) (KpU.cons (h3.symm) (KpU.cons (rfl) (KpU.cons (rfl) (KpU.cons (rfl) (KpU.cons (rfl) (KpU.nil _ _))))))) (rfl) (rfl) hf1
theorem dpR3a (x : List UInt8) (a : Act) (w : World) (K : Exit → Act → World → Prop) (hs : Sz 94 a)
    (h4 : sl a 4 = .string (bs x)) (hx : ((x.length : Int) != 1) = true)
    (hK : ∀ a' w', Sz 94 a' → Kp [0, 3, 4, 6, 7, 8, 9, 44] a a' → sl a' 27 = .bool true → w' = w → K .normal a' w') :
    (regionOf Tryz.f186 3).wp Tryz.prog K a w := by
  unfold Kp at hK; rw [dpF_of hs]; clear hs; generalize sl a = u at *; clear a; have HK := Lib.hid hK; clear hK; conv => arg 2; whnf
  simp only [dpF, h4]
  go_wp2_with fail
  exact HK.out _ _  ⟨rfl, rfl⟩ (KpU.cons (rfl) (KpU.cons (rfl) (KpU.cons (h4.symm) (KpU.cons (rfl) (KpU.cons (rfl) (KpU.cons (rfl) (KpU.cons (rfl) (KpU.cons (rfl) (KpU.nil _ _))))))))) (rfl) rfl
theorem dpR3b (x : List UInt8) (b : Bool) (a : Act) (w : World) (K : Exit → Act → World → Prop) (hs : Sz 94 a)
    (h4 : sl a 4 = .string (bs x)) (h7 : sl a 7 = .bool b) (hx : ((x.length : Int) != 1) = false)
    (hK : ∀ a' w', Sz 94 a' → Kp [0, 3, 4, 6, 7, 8, 9, 44] a a' → sl a' 27 = .bool (!b) → w' = w → K .normal a' w') :
    (regionOf Tryz.f186 3).wp Tryz.prog K a w := by
  unfold Kp at hK; rw [dpF_of hs]; clear hs; generalize sl a = u at *; clear a; have HK := Lib.hid hK; clear hK; conv => arg 2; whnf
  simp only [dpF, h4, h7]
  go_wp2_with fail
  exact HK.out _ _  ⟨rfl, rfl⟩ (KpU.cons (rfl) (KpU.cons (rfl) (KpU.cons (h4.symm) (KpU.cons (rfl) (KpU.cons (h7.symm) (KpU.cons (rfl) (KpU.cons (rfl) (KpU.cons (rfl) (KpU.nil _ _))))))))) (rfl) rfl
theorem dpR4 (x : Nat) (a : Act) (w : World) (K : Exit → Act → World → Prop) (hs : Sz 94 a)
    (h6 : sl a 6 = .int .i64 (x : Int)) (hx : x < 4294967296)
    (hK : ∀ a' w', Sz 94 a' → Kp [0, 3, 4, 6, 7, 9, 44] a a' → sl a' 8 = .int .u32 (x : Int) → w' = w → K .normal a' w') :
    (regionOf Tryz.f186 4).wp Tryz.prog K a w := by
  unfold Kp at hK; rw [dpF_of hs]; clear hs; generalize sl a = u at *; clear a; have HK := Lib.hid hK; clear hK; conv => arg 2; whnf
  simp only [dpF, h6]
  go_wp2_with fail
  exact HK.out _ _  ⟨rfl, rfl⟩ (KpU.cons (rfl) (KpU.cons (rfl) (KpU.cons (rfl) (KpU.cons (h6.symm) (KpU.cons (rfl) (KpU.cons (rfl) (KpU.cons (rfl) (KpU.nil _ _)))))))) (congrArg (Value.int .u32) (by omega)) rfl
theorem dpR5a (p T : Nat) (M : MLay) (s : St) (fm : Nat) (a : Act) (w : World) (K : Exit → Act → World → Prop) (hs : Sz 94 a)
    (h0 : sl a 0 = .pointer (some ⟨p, 0, none⟩)) (h8 : sl a 8 = .int .u32 (fm : Int)) (h : ModelAt w p T M s) (h1 : ((fm : Int) == (s.server : Int)) = true)
    (hK : ∀ a' w', Sz 94 a' → Kp [0, 3, 4, 6, 7, 8, 44] a a' → sl a' 9 = .bool true → w' = w → K .normal a' w') :
    (regionOf Tryz.f186 5).wp Tryz.prog K a w := by
  unfold Kp at hK; rw [dpF_of hs]; clear hs; generalize sl a = u at *; clear a; have HK := Lib.hid hK; clear hK; conv => arg 2; whnf
  simp only [dpF, h0, h8]
  have c27 := h.g27
  go_wp2_with fail
  exact HK.out _ _  ⟨rfl, rfl⟩ (KpU.cons (h0.symm) (KpU.cons (rfl) (KpU.cons (rfl) (KpU.cons (rfl) (KpU.cons (rfl) (KpU.cons (h8.symm) (KpU.cons (rfl) (KpU.nil _ _)))))))) (rfl) rfl
theorem dpR5b (p T : Nat) (M : MLay) (s : St) (fm : Nat) (a : Act) (w : World) (K : Exit → Act → World → Prop) (hs : Sz 94 a)
    (h0 : sl a 0 = .pointer (some ⟨p, 0, none⟩)) (h8 : sl a 8 = .int .u32 (fm : Int)) (h : ModelAt w p T M s) (h1 : ((fm : Int) == (s.server : Int)) = false)
    (hK : ∀ a' w', Sz 94 a' → Kp [0, 3, 4, 6, 7, 8, 44] a a' → sl a' 9 = .bool (decide (s.lease = 6)) → w' = w → K .normal a' w') :
    (regionOf Tryz.f186 5).wp Tryz.prog K a w := by
  unfold Kp at hK; rw [dpF_of hs]; clear hs; generalize sl a = u at *; clear a; have HK := Lib.hid hK; clear hK; conv => arg 2; whnf
  simp only [dpF, h0, h8]
  have c27 := h.g27
  have c22 := h.g22
  go_wp2_with fail
  exact HK.out _ _  ⟨rfl, rfl⟩ (KpU.cons (h0.symm) (KpU.cons (rfl) (KpU.cons (rfl) (KpU.cons (rfl) (KpU.cons (rfl) (KpU.cons (h8.symm) (KpU.cons (rfl) (KpU.nil _ _)))))))) (congrArg Value.bool (by first | rfl | (simp; done) | (rw [Bool.eq_iff_iff]; simp <;> omega))) rfl
theorem dpR6 (k : UInt8) (a : Act) (w : World) (K : Exit → Act → World → Prop) (hs : Sz 94 a)
    (h4 : sl a 4 = .string (bs [k])) 
    (hK : ∀ a' w', Sz 94 a' → Kp [0, 3, 4, 6, 7, 8, 9] a a' → sl a' 44 = .int .u8 (k.toNat : Int) → w' = w → K .normal a' w') :
    (regionOf Tryz.f186 6).wp Tryz.prog K a w := by
  unfold Kp at hK; rw [dpF_of hs]; clear hs; generalize sl a = u at *; clear a; have HK := Lib.hid hK; clear hK; conv => arg 2; whnf
  simp only [dpF, h4]
  have hgk : (bs [k]).get! 0 = k := rfl
  have hsk : (bs [k]).size = 1 := rfl
  go_wp2_with fail
  exact HK.out _ _  ⟨rfl, rfl⟩ (KpU.cons (rfl) (KpU.cons (rfl) (KpU.cons (h4.symm) (KpU.cons (rfl) (KpU.cons (rfl) (KpU.cons (rfl) (KpU.cons (rfl) (KpU.nil _ _)))))))) (rfl) rfl
theorem dpR7 (k : UInt8) (a : Act) (w : World) (K : Exit → Act → World → Prop) (hs : Sz 94 a)
    (h44 : sl a 44 = .int .u8 (k.toNat : Int)) 
    (hK : ∀ a' w', Sz 94 a' → Kp [0, 3, 4, 6, 7, 8, 9, 44] a a' → sl a' 45 = .bool (decide (k = 2)) → w' = w → K .normal a' w') :
    (regionOf Tryz.f186 7).wp Tryz.prog K a w := by
  unfold Kp at hK; rw [dpF_of hs]; clear hs; generalize sl a = u at *; clear a; have HK := Lib.hid hK; clear hK; conv => arg 2; whnf
  simp only [dpF, h44]
  go_wp2_with fail
  exact HK.out _ _  ⟨rfl, rfl⟩ (KpU.cons (rfl) (KpU.cons (rfl) (KpU.cons (rfl) (KpU.cons (rfl) (KpU.cons (rfl) (KpU.cons (rfl) (KpU.cons (rfl) (KpU.cons (h44.symm) (KpU.nil _ _))))))))) (congrArg Value.bool (by rw [Bool.eq_iff_iff]; simp only [beq_iff_eq, decide_eq_true_eq, ← UInt8.toNat_inj]; show _ ↔ k.toNat = 2; omega)) rfl
theorem dpR12 (k : UInt8) (a : Act) (w : World) (K : Exit → Act → World → Prop) (hs : Sz 94 a)
    (h44 : sl a 44 = .int .u8 (k.toNat : Int)) 
    (hK : ∀ a' w', Sz 94 a' → Kp [0, 3, 4, 6, 7, 8, 9, 44] a a' → sl a' 68 = .bool (decide (k = 5)) → w' = w → K .normal a' w') :
    (regionOf Tryz.f186 12).wp Tryz.prog K a w := by
  unfold Kp at hK; rw [dpF_of hs]; clear hs; generalize sl a = u at *; clear a; have HK := Lib.hid hK; clear hK; conv => arg 2; whnf
  simp only [dpF, h44]
  go_wp2_with fail
  exact HK.out _ _  ⟨rfl, rfl⟩ (KpU.cons (rfl) (KpU.cons (rfl) (KpU.cons (rfl) (KpU.cons (rfl) (KpU.cons (rfl) (KpU.cons (rfl) (KpU.cons (rfl) (KpU.cons (h44.symm) (KpU.nil _ _))))))))) (congrArg Value.bool (by rw [Bool.eq_iff_iff]; simp only [beq_iff_eq, decide_eq_true_eq, ← UInt8.toNat_inj]; show _ ↔ k.toNat = 5; omega)) rfl
theorem dpR15 (k : UInt8) (a : Act) (w : World) (K : Exit → Act → World → Prop) (hs : Sz 94 a)
    (h44 : sl a 44 = .int .u8 (k.toNat : Int)) 
    (hK : ∀ a' w', Sz 94 a' → Kp [0, 3, 4, 6, 7, 8, 9, 44] a a' → sl a' 75 = .bool (decide (k = 6)) → w' = w → K .normal a' w') :
    (regionOf Tryz.f186 15).wp Tryz.prog K a w := by
  unfold Kp at hK; rw [dpF_of hs]; clear hs; generalize sl a = u at *; clear a; have HK := Lib.hid hK; clear hK; conv => arg 2; whnf
  simp only [dpF, h44]
  go_wp2_with fail
  exact HK.out _ _  ⟨rfl, rfl⟩ (KpU.cons (rfl) (KpU.cons (rfl) (KpU.cons (rfl) (KpU.cons (rfl) (KpU.cons (rfl) (KpU.cons (rfl) (KpU.cons (rfl) (KpU.cons (h44.symm) (KpU.nil _ _))))))))) (congrArg Value.bool (by rw [Bool.eq_iff_iff]; simp only [beq_iff_eq, decide_eq_true_eq, ← UInt8.toNat_inj]; show _ ↔ k.toNat = 6; omega)) rfl
theorem dpR8a (p T : Nat) (M : MLay) (s : St) (a : Act) (w : World) (K : Exit → Act → World → Prop) (hs : Sz 94 a)
    (h0 : sl a 0 = .pointer (some ⟨p, 0, none⟩)) (h : ModelAt w p T M s) (h1 : ((s.lease : Int) == 1) = false)
    (hK : ∀ a' w', Sz 94 a' → Kp [0, 3, 4, 6, 7, 8, 9, 44] a a' → sl a' 56 = .bool false → w' = w → K .normal a' w') :
    (regionOf Tryz.f186 8).wp Tryz.prog K a w := by
  unfold Kp at hK; rw [dpF_of hs]; clear hs; generalize sl a = u at *; clear a; have HK := Lib.hid hK; clear hK; conv => arg 2; whnf
  simp only [dpF, h0]
  have c22 := h.g22
  go_wp2_with fail
  exact HK.out _ _  ⟨rfl, rfl⟩ (KpU.cons (h0.symm) (KpU.cons (rfl) (KpU.cons (rfl) (KpU.cons (rfl) (KpU.cons (rfl) (KpU.cons (rfl) (KpU.cons (rfl) (KpU.cons (rfl) (KpU.nil _ _))))))))) (rfl) rfl
theorem dpR13 (b : Bool) (a : Act) (w : World) (K : Exit → Act → World → Prop) (hs : Sz 94 a)
    (h9 : sl a 9 = .bool b) 
    (hK : ∀ a' w', Sz 94 a' → Kp [0, 3, 4, 6, 7, 8, 9, 44] a a' → sl a' 70 = .bool b → w' = w → K .normal a' w') :
    (regionOf Tryz.f186 13).wp Tryz.prog K a w := by
  unfold Kp at hK; rw [dpF_of hs]; clear hs; generalize sl a = u at *; clear a; have HK := Lib.hid hK; clear hK; conv => arg 2; whnf
  simp only [dpF, h9]
  go_wp2_with fail
  exact HK.out _ _  ⟨rfl, rfl⟩ (KpU.cons (rfl) (KpU.cons (rfl) (KpU.cons (rfl) (KpU.cons (rfl) (KpU.cons (rfl) (KpU.cons (rfl) (KpU.cons (h9.symm) (KpU.cons (rfl) (KpU.nil _ _))))))))) (rfl) rfl
theorem dpR16a  (a : Act) (w : World) (K : Exit → Act → World → Prop) (hs : Sz 94 a)
    (h9 : sl a 9 = .bool false) 
    (hK : ∀ a' w', Sz 94 a' → Kp [0, 3, 4, 6, 7, 8, 9, 44] a a' → sl a' 91 = .bool false → w' = w → K .normal a' w') :
    (regionOf Tryz.f186 16).wp Tryz.prog K a w := by
  unfold Kp at hK; rw [dpF_of hs]; clear hs; generalize sl a = u at *; clear a; have HK := Lib.hid hK; clear hK; conv => arg 2; whnf
  simp only [dpF, h9]
  go_wp2_with fail
  exact HK.out _ _  ⟨rfl, rfl⟩ (KpU.cons (rfl) (KpU.cons (rfl) (KpU.cons (rfl) (KpU.cons (rfl) (KpU.cons (rfl) (KpU.cons (rfl) (KpU.cons (h9.symm) (KpU.cons (rfl) (KpU.nil _ _))))))))) (rfl) rfl
theorem dpR16b (p T : Nat) (M : MLay) (s : St) (a : Act) (w : World) (K : Exit → Act → World → Prop) (hs : Sz 94 a)
    (h0 : sl a 0 = .pointer (some ⟨p, 0, none⟩)) (h9 : sl a 9 = .bool true) (h : ModelAt w p T M s) (h1 : ¬ (2 : Int) ≤ (s.lease : Int))
    (hK : ∀ a' w', Sz 94 a' → Kp [0, 3, 4, 6, 7, 8, 9, 44] a a' → sl a' 91 = .bool false → w' = w → K .normal a' w') :
    (regionOf Tryz.f186 16).wp Tryz.prog K a w := by
  unfold Kp at hK; rw [dpF_of hs]; clear hs; generalize sl a = u at *; clear a; have HK := Lib.hid hK; clear hK; conv => arg 2; whnf
  simp only [dpF, h0, h9]
  have c22 := h.g22
  go_wp2_with fail
  exact HK.out _ _  ⟨rfl, rfl⟩ (KpU.cons (h0.symm) (KpU.cons (rfl) (KpU.cons (rfl) (KpU.cons (rfl) (KpU.cons (rfl) (KpU.cons (rfl) (KpU.cons (h9.symm) (KpU.cons (rfl) (KpU.nil _ _))))))))) (rfl) rfl
end Go.Proofs.YtcbkaiakdhiloabGreatDoor
namespace Go.Proofs.YtcbkaiakdhiloabGreatDoor
open Go.RowKit Go.Proofs
attribute [local go_sem] bs_size bs_append bs_sub bs_toList
theorem refReadARP (l : List UInt8) (w : World) (hl : l.length ≤ 9223372036854775807) :
    Calls Tryz.prog 181 #[.string (bs l)] w (arpPost l w) := by
  have hx0 := Bk.new w 67 zcArp
  have hf0 : Fr noB w (w.alloc (.cells zcArp 67)) := (Fr.refl _ _).alloc _
  unfold zcArp at hx0 hf0
  by_cases h28 : l.length < 28
  · have hs := Lib.hid (readARP_short l h28)
    go_enter Tryz.func181, Tryz.ntmps181
    go_wp2_with ((refine wpList_store_bk rfl 67 (.tmp 2) (.tmp 8) rfl w.heap.size _ _ zcArp rfl rfl hx0 rfl (by kernel_rfl) (by kernel_rfl) ?_); intro w9 hx9 hf9)
    refine bodyPost_ret (results_row_tmp Tryz.results181 _ w9 w.heap.size _ zcArp _ _ rfl rfl hx9 Tryz.underlying67 rfl (by kernel_rfl)) rfl ?_
    exact ⟨by rw [hs.out]; rfl, hf0.trans' hf9 (fun b hb e => by unfold oneB at e; omega)⟩
  · go_enter Tryz.func181, Tryz.ntmps181
    go_wp2_with fail
    generalize w.alloc (.cells #[.int .u16 0, .int .u8 0, .int .u8 0, .int .u8 0, .int .u8 0, .int .u8 0, .int .u8 0, .int .u32 0, .int .u8 0, .int .u8 0, .int .u8 0, .int .u8 0, .int .u8 0, .int .u8 0, .int .u32 0] 67) = w1 at *
    have hspec : Hid (readARP l = if sub l 0 6 = [0, 1, 8, 0, 6, 4] ∧ (num (sub l 6 8) = 1 ∨ num (sub l 6 8) = 2) then
      (⟨num (sub l 6 8), macOf (sub l 8 l.length), num (sub l 14 18), macOf (sub l 18 l.length), num (sub l 24 28)⟩, 0) else (arp0, 2)) := by
      unfold Hid readARP; rw [if_neg h28]
    have n0 : num (sub l 6 8) < 65536 := by
      have h := num_le (sub l 6 8)
      rw [sub_length l 6 8 (by omega)] at h; exact h
    refine (refOf (sub l 6 8) _ (by have := sub_le l 6 8; omega)).mono ?_
    rintro e w2 ⟨rfl, rfl⟩
    by_cases h1 : sub l 0 6 = [0, 1, 8, 0, 6, 4] ∧ (num (sub l 6 8) = 1 ∨ num (sub l 6 8) = 2)
    · obtain ⟨h1a, h1b⟩ := h1
      have e1 : (sub l 0 6 == [0, 1, 8, 0, 6, 4]) = true := by simpa using h1a
      have e2 : ¬ ((num (sub l 6 8) : Int) < 1) := by omega
      have e3 : ¬ (2 < (num (sub l 6 8) : Int)) := by omega
      have e4 : IntKind.u16.wrap (num (sub l 6 8) : Int) = num (sub l 6 8) := by rw [IntKind.wrap_u16]; omega
      have Hc : Hid (sub l 0 6 = [0, 1, 8, 0, 6, 4] ∧ (num (sub l 6 8) = 1 ∨ num (sub l 6 8) = 2)) := ⟨h1a, h1b⟩
      clear h1a h1b
      have hsz := Lib.hid (arpC_size ⟨num (sub l 6 8), macOf (sub l 8 l.length), num (sub l 14 18), macOf (sub l 18 l.length), num (sub l 24 28)⟩)
      have hin := Lib.hid (arp_info ⟨num (sub l 6 8), macOf (sub l 8 l.length), num (sub l 14 18), macOf (sub l 18 l.length), num (sub l 24 28)⟩)
      have hon := Lib.hid (arpC_one ⟨num (sub l 6 8), macOf (sub l 8 l.length), num (sub l 14 18), macOf (sub l 18 l.length), num (sub l 24 28)⟩)
      have h28' : (28 : Int) ≤ l.length := by omega
      go_wp2_with fail
      obtain ⟨V, hV⟩ : ∃ V : Nat → Value, V = (fun j => match j with | 0 => .int .i64 (num (sub l 6 8)) | 1 => .int .u16 (num (sub l 6 8)) | 2 => .string (bs l) | 3 => .string (bs (sub l 8 l.length)) | 4 => macV (macOf (sub l 8 l.length)) | 5 => .string (bs l) | 6 => .string (bs (sub l 14 18)) | 7 => .int .u32 (num (sub l 14 18)) | 8 => .string (bs l) | 9 => .string (bs (sub l 18 l.length)) | 10 => macV (macOf (sub l 18 l.length)) | 11 => .string (bs l) | 12 => .string (bs (sub l 24 28)) | 13 => .int .u32 (num (sub l 24 28)) | 14 => .agg (arpC ⟨num (sub l 6 8), macOf (sub l 8 l.length), num (sub l 14 18), macOf (sub l 18 l.length), num (sub l 24 28)⟩) | 16 => .int .i64 0 | _ => undef) := ⟨_, rfl⟩
      have v0 : V 0 = .int .i64 (num (sub l 6 8)) := congrFun hV 0
      have v1 : V 1 = .int .u16 (num (sub l 6 8)) := congrFun hV 1
      have v2 : V 2 = .string (bs l) := congrFun hV 2
      have v3 : V 3 = .string (bs (sub l 8 l.length)) := congrFun hV 3
      have v4 : V 4 = macV (macOf (sub l 8 l.length)) := congrFun hV 4
      have v5 : V 5 = .string (bs l) := congrFun hV 5
      have v6 : V 6 = .string (bs (sub l 14 18)) := congrFun hV 6
      have v7 : V 7 = .int .u32 (num (sub l 14 18)) := congrFun hV 7
      have v8 : V 8 = .string (bs l) := congrFun hV 8
      have v9 : V 9 = .string (bs (sub l 18 l.length)) := congrFun hV 9
      have v10 : V 10 = macV (macOf (sub l 18 l.length)) := congrFun hV 10
      have v11 : V 11 = .string (bs l) := congrFun hV 11
      have v12 : V 12 = .string (bs (sub l 24 28)) := congrFun hV 12
      have v13 : V 13 = .int .u32 (num (sub l 24 28)) := congrFun hV 13
      have v14 : V 14 = .agg (arpC ⟨num (sub l 6 8), macOf (sub l 8 l.length), num (sub l 14 18), macOf (sub l 18 l.length), num (sub l 24 28)⟩) := congrFun hV 14
      have v16 : V 16 = .int .i64 0 := congrFun hV 16
      clear hV
      refine wp_region_ssa (by kernel_rfl) (by kernel_rfl) (by kernel_rfl)
        (fun u => ⟨#[.string (bs l), undef, .pointer (some ⟨w.heap.size, 0, none⟩), u 16, .int .i64 (num (sub l 6 8)), .string (bs l), .int .i64 l.length, .bool (decide ((l.length : Int) < 28)), undef, .string (bs l), .string (bs (sub l 6 8)), .int .i64 (num (sub l 6 8)), .string (bs l), .string (bs (sub l 0 6)), .bool false, .bool false, .int .i64 (num (sub l 6 8)), .bool (decide ((num (sub l 6 8) : Int) < 1)), .bool (decide ((num (sub l 6 8) : Int) < 1)), .bool (decide ((num (sub l 6 8) : Int) < 1)), .int .i64 (num (sub l 6 8)), .bool (decide (2 < (num (sub l 6 8) : Int))), .bool (decide ((num (sub l 6 8) : Int) < 1) || decide (2 < (num (sub l 6 8) : Int))), undef, u 0, u 1, u 2, u 3, u 4, u 5, u 6, u 7, u 8, u 9, u 10, u 11, u 12, u 13, u 14], []⟩)
        (fun j v w3 => if j = 15 then Bk w3 w.heap.size 67 (arpC ⟨num (sub l 6 8), macOf (sub l 8 l.length), num (sub l 14 18), macOf (sub l 18 l.length), num (sub l 24 28)⟩) else v = V j)
        (fun L w3 => Fr (oneB w.heap.size) w1 w3 ∧ (L 15 = false → Bk w3 w.heap.size 67 zcArp)) (fun j => if j = 16 then .int .i64 0 else undef) ⟨(Fr.refl _ _).drew, fun _ => hx0⟩ ?_ ?_
      · rintro L u w3 i o hG hΦ ho hL hd K hK
        match i, ho with
        | 0, ho =>
          simp at ho; subst ho
          clear hΦ hd
          go_simp
          exact hK _ _ v0.symm hG (fun _ _ _ h => h)
        | 1, ho =>
          simp at ho; subst ho
          have hu0 : u 0 = V 0 := hΦ 0 (hd ⟨0, .data⟩ (by simp) (by rfl))
          rw [v0] at hu0
          clear hΦ hd
          have hx : ∃ x, u = (upd x 0 (.int .i64 (num (sub l 6 8)))) := ⟨u, by rw [← upd_self hu0]⟩
          clear hu0
          obtain ⟨x, rfl⟩ := hx
          simp only [upd, reduceIte, Nat.reduceEqDiff]
          go_simp
          exact hK _ _ v1.symm hG (fun _ _ _ h => h)
        | 2, ho =>
          simp at ho; subst ho
          clear hΦ hd
          go_simp
          exact hK _ _ v2.symm hG (fun _ _ _ h => h)
        | 3, ho =>
          simp at ho; subst ho
          have hu2 : u 2 = V 2 := hΦ 2 (hd ⟨2, .data⟩ (by simp) (by rfl))
          rw [v2] at hu2
          clear hΦ hd
          have hx : ∃ x, u = (upd x 2 (.string (bs l))) := ⟨u, by rw [← upd_self hu2]⟩
          clear hu2
          obtain ⟨x, rfl⟩ := hx
          simp only [upd, reduceIte, Nat.reduceEqDiff]
          go_simp
          try (rw [if_pos (by omega)]; go_simp)
          exact hK _ _ v3.symm hG (fun _ _ _ h => h)
        | 4, ho =>
          simp at ho; subst ho
          have hu3 : u 3 = V 3 := hΦ 3 (hd ⟨3, .data⟩ (by simp) (by rfl))
          rw [v3] at hu3
          clear hΦ hd
          have hx : ∃ x, u = (upd x 3 (.string (bs (sub l 8 l.length)))) := ⟨u, by rw [← upd_self hu3]⟩
          clear hu3
          obtain ⟨x, rfl⟩ := hx
          simp only [upd, reduceIte, Nat.reduceEqDiff]
          go_simp
          refine (refMacOf (sub l 8 l.length) _ (by rw [sub_length l 8 l.length (by omega)]; omega) (by have := sub_le l 8 l.length; omega)).mono ?_
          rintro e w4 ⟨rfl, hf4⟩
          exact hK _ _ v4.symm ⟨hG.1.none hf4, fun h => (hG.2 h).keep hf4 (fun x => x)⟩ (fun j x _ h => by
            by_cases hj : j = 15
            · simp only [hj, if_true] at h ⊢; exact h.keep hf4 (fun x => x)
            · simp only [hj, if_false] at h ⊢; exact h)
        | 5, ho =>
          simp at ho; subst ho
          clear hΦ hd
          go_simp
          exact hK _ _ v5.symm hG (fun _ _ _ h => h)
        | 6, ho =>
          simp at ho; subst ho
          have hu5 : u 5 = V 5 := hΦ 5 (hd ⟨5, .data⟩ (by simp) (by rfl))
          rw [v5] at hu5
          clear hΦ hd
          have hx : ∃ x, u = (upd x 5 (.string (bs l))) := ⟨u, by rw [← upd_self hu5]⟩
          clear hu5
          obtain ⟨x, rfl⟩ := hx
          simp only [upd, reduceIte, Nat.reduceEqDiff]
          go_simp
          try (rw [if_pos (by omega)]; go_simp)
          exact hK _ _ v6.symm hG (fun _ _ _ h => h)
        | 7, ho =>
          simp at ho; subst ho
          have hu6 : u 6 = V 6 := hΦ 6 (hd ⟨6, .data⟩ (by simp) (by rfl))
          rw [v6] at hu6
          clear hΦ hd
          have hx : ∃ x, u = (upd x 6 (.string (bs (sub l 14 18)))) := ⟨u, by rw [← upd_self hu6]⟩
          clear hu6
          obtain ⟨x, rfl⟩ := hx
          simp only [upd, reduceIte, Nat.reduceEqDiff]
          go_simp
          refine (refIpOf (sub l 14 18) _ (by have := sub_le l 14 18; omega)).mono ?_
          rintro e w4 ⟨rfl, rfl⟩
          exact hK _ _ v7.symm hG (fun _ _ _ h => h)
        | 8, ho =>
          simp at ho; subst ho
          clear hΦ hd
          go_simp
          exact hK _ _ v8.symm hG (fun _ _ _ h => h)
        | 9, ho =>
          simp at ho; subst ho
          have hu8 : u 8 = V 8 := hΦ 8 (hd ⟨8, .data⟩ (by simp) (by rfl))
          rw [v8] at hu8
          clear hΦ hd
          have hx : ∃ x, u = (upd x 8 (.string (bs l))) := ⟨u, by rw [← upd_self hu8]⟩
          clear hu8
          obtain ⟨x, rfl⟩ := hx
          simp only [upd, reduceIte, Nat.reduceEqDiff]
          go_simp
          try (rw [if_pos (by omega)]; go_simp)
          exact hK _ _ v9.symm hG (fun _ _ _ h => h)
        | 10, ho =>
          simp at ho; subst ho
          have hu9 : u 9 = V 9 := hΦ 9 (hd ⟨9, .data⟩ (by simp) (by rfl))
          rw [v9] at hu9
          clear hΦ hd
          have hx : ∃ x, u = (upd x 9 (.string (bs (sub l 18 l.length)))) := ⟨u, by rw [← upd_self hu9]⟩
          clear hu9
          obtain ⟨x, rfl⟩ := hx
          simp only [upd, reduceIte, Nat.reduceEqDiff]
          go_simp
          refine (refMacOf (sub l 18 l.length) _ (by rw [sub_length l 18 l.length (by omega)]; omega) (by have := sub_le l 18 l.length; omega)).mono ?_
          rintro e w4 ⟨rfl, hf4⟩
          exact hK _ _ v10.symm ⟨hG.1.none hf4, fun h => (hG.2 h).keep hf4 (fun x => x)⟩ (fun j x _ h => by
            by_cases hj : j = 15
            · simp only [hj, if_true] at h ⊢; exact h.keep hf4 (fun x => x)
            · simp only [hj, if_false] at h ⊢; exact h)
        | 11, ho =>
          simp at ho; subst ho
          clear hΦ hd
          go_simp
          exact hK _ _ v11.symm hG (fun _ _ _ h => h)
        | 12, ho =>
          simp at ho; subst ho
          have hu11 : u 11 = V 11 := hΦ 11 (hd ⟨11, .data⟩ (by simp) (by rfl))
          rw [v11] at hu11
          clear hΦ hd
          have hx : ∃ x, u = (upd x 11 (.string (bs l))) := ⟨u, by rw [← upd_self hu11]⟩
          clear hu11
          obtain ⟨x, rfl⟩ := hx
          simp only [upd, reduceIte, Nat.reduceEqDiff]
          go_simp
          try (rw [if_pos (by omega)]; go_simp)
          exact hK _ _ v12.symm hG (fun _ _ _ h => h)
        | 13, ho =>
          simp at ho; subst ho
          have hu12 : u 12 = V 12 := hΦ 12 (hd ⟨12, .data⟩ (by simp) (by rfl))
          rw [v12] at hu12
          clear hΦ hd
          have hx : ∃ x, u = (upd x 12 (.string (bs (sub l 24 28)))) := ⟨u, by rw [← upd_self hu12]⟩
          clear hu12
          obtain ⟨x, rfl⟩ := hx
          simp only [upd, reduceIte, Nat.reduceEqDiff]
          go_simp
          refine (refIpOf (sub l 24 28) _ (by have := sub_le l 24 28; omega)).mono ?_
          rintro e w4 ⟨rfl, rfl⟩
          exact hK _ _ v13.symm hG (fun _ _ _ h => h)
        | 14, ho =>
          simp at ho; subst ho
          have hu1 : u 1 = V 1 := hΦ 1 (hd ⟨1, .data⟩ (by simp) (by rfl))
          rw [v1] at hu1
          have hu4 : u 4 = V 4 := hΦ 4 (hd ⟨4, .data⟩ (by simp) (by rfl))
          rw [v4] at hu4
          have hu7 : u 7 = V 7 := hΦ 7 (hd ⟨7, .data⟩ (by simp) (by rfl))
          rw [v7] at hu7
          have hu10 : u 10 = V 10 := hΦ 10 (hd ⟨10, .data⟩ (by simp) (by rfl))
          rw [v10] at hu10
          have hu13 : u 13 = V 13 := hΦ 13 (hd ⟨13, .data⟩ (by simp) (by rfl))
          rw [v13] at hu13
          clear hΦ hd
          have hx : ∃ x, u = (upd (upd (upd (upd (upd x 1 (.int .u16 (num (sub l 6 8)))) 4 (macV (macOf (sub l 8 l.length)))) 7 (.int .u32 (num (sub l 14 18)))) 10 (macV (macOf (sub l 18 l.length)))) 13 (.int .u32 (num (sub l 24 28)))) := ⟨u, by rw [← upd_self hu1, ← upd_self hu4, ← upd_self hu7, ← upd_self hu10, ← upd_self hu13]⟩
          clear hu1 hu4 hu7 hu10 hu13
          obtain ⟨x, rfl⟩ := hx
          simp only [upd, reduceIte, Nat.reduceEqDiff]
          simp only [macV]
          go_simp
          exact hK _ _ v14.symm hG (fun _ _ _ h => h)
        | 15, ho =>
          simp at ho; subst ho
          have hu14 : u 14 = V 14 := hΦ 14 (hd ⟨14, .data⟩ (by simp) (by rfl))
          rw [v14] at hu14
          clear hΦ hd
          have hx : ∃ x, u = (upd x 14 (.agg (arpC ⟨num (sub l 6 8), macOf (sub l 8 l.length), num (sub l 14 18), macOf (sub l 18 l.length), num (sub l 24 28)⟩))) := ⟨u, by rw [← upd_self hu14]⟩
          clear hu14
          obtain ⟨x, rfl⟩ := hx
          simp only [upd, reduceIte, Nat.reduceEqDiff]
          refine wp_store_bk 67 (.tmp 2) (.tmp 38) rfl w.heap.size _ _ (arpC ⟨num (sub l 6 8), macOf (sub l 8 l.length), num (sub l 14 18), macOf (sub l 18 l.length), num (sub l 24 28)⟩) rfl rfl (hG.2 hL) hsz.out hin.out hon.out ?_
          intro w9 hx9 hf9
          exact hK undef _ hx9 ⟨hG.1.trans hf9, fun h => by cases h⟩ (fun j x hj h => by
            by_cases hj : j = 15
            · subst hj; rw [hL] at *; contradiction
            · simp only [hj, if_false] at h ⊢; exact h)
        | 16, ho =>
          simp at ho; subst ho
          clear hΦ hd
          go_simp
          exact hK _ _ v16.symm hG (fun _ _ _ h => h)
      · rintro u w3 hu L hall hG
        have hx9 := hu 15 (by simp)
        have h16 : u 16 = V 16 := hu 16 (by simp)
        simp only [reduceIte] at hx9
        rw [v16] at h16
        clear hu
        rw [h16]
        go_wp2_with fail
        refine bodyPost_ret (results_row_tmp Tryz.results181 _ w3 w.heap.size _ _ _ _ rfl rfl hx9 Tryz.underlying67 rfl hin.out) rfl ?_
        exact ⟨by rw [hspec.out, if_pos Hc.out]; rfl, hf0.trans' hG.1 (fun b hb e => by unfold oneB at e; omega)⟩
    · have Hn : Hid (¬ (sub l 0 6 = [0, 1, 8, 0, 6, 4] ∧ (num (sub l 6 8) = 1 ∨ num (sub l 6 8) = 2))) := h1
      rcases hq : (sub l 0 6 == [0, 1, 8, 0, 6, 4]) with _ | _
      · clear h1
        go_wp2_with ((refine wpList_store_bk rfl 67 (.tmp 2) (.tmp 23) rfl w.heap.size _ _ zcArp rfl rfl hx0 rfl (by kernel_rfl) (by kernel_rfl) ?_); intro w9 hx9 hf9)
        refine bodyPost_ret (results_row_tmp Tryz.results181 _ w9 w.heap.size _ zcArp _ _ rfl rfl hx9 Tryz.underlying67 rfl (by kernel_rfl)) rfl ?_
        exact ⟨by rw [hspec.out, if_neg Hn.out]; rfl, hf0.trans' hf9 (fun b hb e => by unfold oneB at e; omega)⟩
      · have h1b : ¬ (num (sub l 6 8) = 1 ∨ num (sub l 6 8) = 2) := fun h => h1 ⟨by simpa using hq, h⟩
        clear h1
        by_cases e2 : (num (sub l 6 8) : Int) < 1
        · clear h1b
          go_wp2_with ((refine wpList_store_bk rfl 67 (.tmp 2) (.tmp 23) rfl w.heap.size _ _ zcArp rfl rfl hx0 rfl (by kernel_rfl) (by kernel_rfl) ?_); intro w9 hx9 hf9)
          refine bodyPost_ret (results_row_tmp Tryz.results181 _ w9 w.heap.size _ zcArp _ _ rfl rfl hx9 Tryz.underlying67 rfl (by kernel_rfl)) rfl ?_
          exact ⟨by rw [hspec.out, if_neg Hn.out]; rfl, hf0.trans' hf9 (fun b hb e => by unfold oneB at e; omega)⟩
        · have e3 : 2 < (num (sub l 6 8) : Int) := by omega
          clear h1b
          go_wp2_with ((refine wpList_store_bk rfl 67 (.tmp 2) (.tmp 23) rfl w.heap.size _ _ zcArp rfl rfl hx0 rfl (by kernel_rfl) (by kernel_rfl) ?_); intro w9 hx9 hf9)
          refine bodyPost_ret (results_row_tmp Tryz.results181 _ w9 w.heap.size _ zcArp _ _ rfl rfl hx9 Tryz.underlying67 rfl (by kernel_rfl)) rfl ?_
          exact ⟨by rw [hspec.out, if_neg Hn.out]; rfl, hf0.trans' hf9 (fun b hb e => by unfold oneB at e; omega)⟩
end Go.Proofs.YtcbkaiakdhiloabGreatDoor
set_option maxRecDepth 20000
namespace Go.Proofs.YtcbkaiakdhiloabGreatDoor
open Go.RowKit Go.Proofs
attribute [local go_sem] bs_size bs_append bs_extract bs_toList
def naqF (u : Nat → Value) : Act := ⟨#[u 0, u 1, u 2, u 3, u 4, u 5, u 6, u 7, u 8, u 9, u 10, u 11, u 12, u 13, u 14, u 15, u 16, u 17, u 18, u 19, u 20, u 21, u 22, u 23, u 24, u 25, u 26, u 27, u 28, u 29, u 30, u 31, u 32, u 33, u 34, u 35, u 36, u 37, u 38, u 39, u 40, u 41, u 42, u 43, u 44, u 45, u 46, u 47, u 48, u 49, u 50, u 51, u 52, u 53, u 54, u 55, u 56, u 57, u 58, u 59, u 60, u 61, u 62, u 63, u 64, u 65, u 66, u 67, u 68, u 69, u 70, u 71, u 72, u 73, u 74, u 75, u 76, u 77, u 78, u 79, u 80, u 81, u 82, u 83, u 84, u 85, u 86, u 87, u 88, u 89, u 90, u 91, u 92, u 93, u 94, u 95, u 96, u 97, u 98, u 99, u 100, u 101, u 102, u 103, u 104, u 105, u 106, u 107, u 108, u 109, u 110, u 111, u 112, u 113, u 114, u 115, u 116, u 117, u 118, u 119, u 120, u 121, u 122, u 123, u 124, u 125, u 126, u 127, u 128, u 129, u 130, u 131, u 132, u 133, u 134, u 135, u 136, u 137, u 138, u 139], []⟩
set_option maxRecDepth 100000 in
theorem naqF_eq (u : Nat → Value) : naqF u = frN 140 u := rfl
theorem naqF_of {a : Act} (h : Sz 140 a) : a = naqF (sl a) := h.eq.trans (naqF_eq _).symm
theorem naqR0 (x : ArpD) (a : Act) (w : World) (K : KT) (hs : Sz 140 a)
    (h1 : sl a 1 = .agg (arpC x)) 
    (hK : ∀ a' w', Sz 140 a' → Kp [0, 4, 5, 6, 7, 8] a a' → sl a' 3 = .pointer (some ⟨w.heap.size, 0, none⟩) → Fr noB w w' → Bk w' w.heap.size 67 (arpC x) → K .normal a' w') :
    (regionOf Tryz.f182 0).wp Tryz.prog K a w := by
  refine rgE hK (naqF_of hs) fun HK => ?_; clear hK hs
  unfold arpC at *
  simp only [naqF, h1]
  go_wp2_with fail
  exact HK.out _ _ ⟨rfl, rfl⟩ kk (rfl) ((Fr.refl _ _).alloc _) (Bk.new _ _ _)
attribute [-go_sem] run_eql_struct run_neq_struct run_equalIn_agg in
theorem naqR1a (p T : Nat) (M : MLay) (s : St) (x : ArpD) (g : Nat) (a : Act) (w : World) (K : KT) (hs : Sz 140 a)
    (h0 : sl a 0 = .pointer (some ⟨p, 0, none⟩)) (h3 : sl a 3 = .pointer (some ⟨g, 0, none⟩)) (h : ModelAt w p T M s) (hG : Bk w g 67 (arpC x)) (q3 : ((s.lease : Int) == 3) = false) 
    (hK : ∀ a' w', Sz 140 a' → Kp [0, 3, 4, 5, 6, 7, 8] a a' → sl a' 33 = .bool false → ModelAt w' p T M s → Bk w' g 67 (arpC x) → Fr noB w w' → K .normal a' w') :
    (regionOf Tryz.f182 1).wp Tryz.prog K a w := by
  refine rgE hK (naqF_of hs) fun HK => ?_; clear hK hs
  simp only [naqF, h0, h3]
  refine wp_region_pls (by kernel_rfl) (fun w' => ModelAt w' p T M s ∧ Bk w' g 67 (arpC x) ∧ Fr noB w w') [] (.p 0 (.p 1 (.p 2 (.q 3 (.p 4 (.p 5 (.p 6 (.p 8 (.p 9 (.p 10 (.q 7 (.q 11 (.p 12 (.p 13 (.p 14 (.p 15 (.p 17 (.p 18 (.p 19 (.p 20 (.q 16 (.q 21 (.p 22 (.p 23 .nil)))))))))))))))))))))))) (by kernel_rfl) (⟨h.drew, hG.drew, (Fr.refl _ _).drew⟩) ?_
  intro ops Q' hO hQ' wr1 hR1
  iterate 3 refine pP hO ?_
  refine pQ hO rfl rfl (fun w' hS => by obtain ⟨hB, hG, hF⟩ := hS; have hGc := hG.cells; unfold arpC at hGc; have c1 := hB.g1; have c2 := hB.g2; have c3 := hB.g3; have c4 := hB.g4; have c5 := hB.g5; have c6 := hB.g6; have c22 := hB.g22; have c24 := hB.g24; exact qd) ?_
  iterate 2 refine pP hO ?_
  iterate 4 refine pN hO ?_
  iterate 2 refine qN hO ?_
  refine pN hO ?_
  iterate 2 refine pP hO ?_
  iterate 5 refine pN hO ?_
  iterate 2 refine qN hO ?_
  refine pN hO ?_
  refine pP hO ?_
  refine pl_nil (hQ' _ _ ?_)
  exact HK.out _ _ ⟨rfl, rfl⟩ kk (rfl) hR1.1 hR1.2.1 hR1.2.2
theorem naqR4a (p T : Nat) (M : MLay) (s : St) (x : ArpD) (g : Nat) (a : Act) (w : World) (K : KT) (hs : Sz 140 a)
    (h0 : sl a 0 = .pointer (some ⟨p, 0, none⟩)) (h3 : sl a 3 = .pointer (some ⟨g, 0, none⟩)) (h : ModelAt w p T M s) (hG : Bk w g 67 (arpC x)) (qa : s.address = 0)
    (hK : ∀ a' w', Sz 140 a' → Kp [0, 3, 5, 6, 7, 8] a a' → sl a' 4 = .bool false → ModelAt w' p T M s → Bk w' g 67 (arpC x) → Fr noB w w' → K .normal a' w') :
    (regionOf Tryz.f182 4).wp Tryz.prog K a w := by
  refine rgE hK (naqF_of hs) fun HK => ?_; clear hK hs
  simp only [naqF, h0, h3]
  refine wp_region_pls (by kernel_rfl) (fun w' => ModelAt w' p T M s ∧ Bk w' g 67 (arpC x) ∧ Fr noB w w') [] (.p 0 (.e 1 (.p 2 (.p 3 (.p 4 (.p 6 (.q 5 (.e 7 (.p 8 (.p 9 (.p 10 (.p 11 (.q 12 (.p 13 (.p 14 (.p 15 .nil)))))))))))))))) (by kernel_rfl) (⟨h.drew, hG.drew, (Fr.refl _ _).drew⟩) ?_
  intro ops Q' hO hQ' wr1 hR1
  refine pP hO ?_
  refine pl_e0 hO rfl rfl rfl (fun K hK => ?_)
  go_simp
  refine (modAddress p T M s _ hR1.1).mono ?_
  rintro e w2 ⟨rfl, hw2⟩
  subst w2
  refine hK _ _ (hR1) (fun hR_1 => ?_)
  clear hK K
  iterate 2 refine pP hO ?_
  iterate 2 refine pN hO ?_
  refine qN hO ?_
  refine pl_en hO rfl rfl rfl rfl rfl (fun _ => hR_1) ?_
  simp only [Act.put, List.setIfInBounds_toArray, List.set_cons_zero, List.set_cons_succ]
  refine pN hO ?_
  iterate 2 refine pP hO ?_
  refine pN hO ?_
  refine qN hO ?_
  refine pN hO ?_
  iterate 2 refine pP hO ?_
  refine pl_nil (hQ' _ _ ?_)
  exact HK.out _ _ ⟨rfl, rfl⟩ kk (rfl) hR1.1 hR1.2.1 hR1.2.2
theorem naqR5a (p T : Nat) (M : MLay) (s : St) (x : ArpD) (g : Nat) (a : Act) (w : World) (K : KT) (hs : Sz 140 a)
    (h0 : sl a 0 = .pointer (some ⟨p, 0, none⟩)) (h3 : sl a 3 = .pointer (some ⟨g, 0, none⟩)) (h : ModelAt w p T M s) (hG : Bk w g 67 (arpC x)) (qf : ((x.fi : Int) != 0) = false)
    (hK : ∀ a' w', Sz 140 a' → Kp [0, 3, 4, 5, 6, 7, 8] a a' → sl a' 75 = .bool false → ModelAt w' p T M s → Bk w' g 67 (arpC x) → Fr noB w w' → K .normal a' w') :
    (regionOf Tryz.f182 5).wp Tryz.prog K a w := by
  refine rgE hK (naqF_of hs) fun HK => ?_; clear hK hs
  simp only [naqF, h0, h3]
  refine wp_region_pls (by kernel_rfl) (fun w' => ModelAt w' p T M s ∧ Bk w' g 67 (arpC x) ∧ Fr noB w w') [] (.p 0 (.q 1 (.p 2 (.p 3 (.p 4 (.p 6 (.q 5 (.e 7 (.p 8 (.p 9 .nil)))))))))) (by kernel_rfl) (⟨h.drew, hG.drew, (Fr.refl _ _).drew⟩) ?_
  intro ops Q' hO hQ' wr1 hR1
  refine pP hO ?_
  refine pQ hO rfl rfl (fun w' hS => by obtain ⟨hB, hG, hF⟩ := hS; have hGc := hG.cells; unfold arpC at hGc; have c1 := hB.g1; have c2 := hB.g2; have c3 := hB.g3; have c4 := hB.g4; have c5 := hB.g5; have c6 := hB.g6; have c22 := hB.g22; have c24 := hB.g24; exact qd) ?_
  iterate 2 refine pP hO ?_
  iterate 2 refine pN hO ?_
  refine qN hO ?_
  refine pl_en hO rfl rfl rfl rfl rfl (fun _ => hR1) ?_
  simp only [Act.put, List.setIfInBounds_toArray, List.set_cons_zero, List.set_cons_succ]
  refine pN hO ?_
  refine pP hO ?_
  refine pl_nil (hQ' _ _ ?_)
  exact HK.out _ _ ⟨rfl, rfl⟩ kk (rfl) hR1.1 hR1.2.1 hR1.2.2
theorem naqR5b (p T : Nat) (M : MLay) (s : St) (x : ArpD) (g : Nat) (b : Bool) (a : Act) (w : World) (K : KT) (hs : Sz 140 a)
    (h0 : sl a 0 = .pointer (some ⟨p, 0, none⟩)) (h3 : sl a 3 = .pointer (some ⟨g, 0, none⟩)) (h : ModelAt w p T M s) (hG : Bk w g 67 (arpC x)) (qf : ((x.fi : Int) != 0) = true) (qb : ((x.fi : Int) != (s.address : Int)) = b)
    (hK : ∀ a' w', Sz 140 a' → Kp [0, 3, 4, 5, 6, 7, 8] a a' → sl a' 75 = .bool b → ModelAt w' p T M s → Bk w' g 67 (arpC x) → Fr noB w w' → K .normal a' w') :
    (regionOf Tryz.f182 5).wp Tryz.prog K a w := by
  refine rgE hK (naqF_of hs) fun HK => ?_; clear hK hs
  simp only [naqF, h0, h3]
  refine wp_region_pls (by kernel_rfl) (fun w' => ModelAt w' p T M s ∧ Bk w' g 67 (arpC x) ∧ Fr noB w w') [] (.p 0 (.q 1 (.p 2 (.p 3 (.p 4 (.p 6 (.q 5 (.e 7 (.p 8 (.p 9 .nil)))))))))) (by kernel_rfl) (⟨h.drew, hG.drew, (Fr.refl _ _).drew⟩) ?_
  intro ops Q' hO hQ' wr1 hR1
  refine pP hO ?_
  refine pQ hO rfl rfl (fun w' hS => by obtain ⟨hB, hG, hF⟩ := hS; have hGc := hG.cells; unfold arpC at hGc; have c1 := hB.g1; have c2 := hB.g2; have c3 := hB.g3; have c4 := hB.g4; have c5 := hB.g5; have c6 := hB.g6; have c22 := hB.g22; have c24 := hB.g24; exact qd) ?_
  iterate 2 refine pP hO ?_
  iterate 2 refine pR hO ?_
  refine pS hO rfl rfl rfl rfl (fun w' hS => by obtain ⟨hB, hG, hF⟩ := hS; have hGc := hG.cells; unfold arpC at hGc; have c1 := hB.g1; have c2 := hB.g2; have c3 := hB.g3; have c4 := hB.g4; have c5 := hB.g5; have c6 := hB.g6; have c22 := hB.g22; have c24 := hB.g24; exact qd) ?_
  refine pl_e1 hO rfl rfl rfl rfl rfl (fun K hK => ?_)
  go_simp
  refine (modAddress p T M s _ hR1.1).mono ?_
  rintro e w2 ⟨rfl, hw2⟩
  subst w2
  refine hK _ _ (hR1) (fun hR_7 => ?_)
  clear hK K
  refine pR hO ?_
  refine pP hO ?_
  refine pl_nil (hQ' _ _ ?_)
  exact HK.out _ _ ⟨rfl, rfl⟩ kk (rfl) hR1.1 hR1.2.1 hR1.2.2
theorem naqR5 (p T : Nat) (M : MLay) (s : St) (x : ArpD) (g : Nat) (a : Act) (w : World) (K : KT) (hs : Sz 140 a) (h0 : sl a 0 = .pointer (some ⟨p, 0, none⟩)) (h3 : sl a 3 = .pointer (some ⟨g, 0, none⟩)) (h : ModelAt w p T M s) (hG : Bk w g 67 (arpC x))
    (hK : ∀ a' w', Sz 140 a' → Kp [0, 3, 4] a a' → sl a' 75 = .bool (decide (x.fi ≠ 0 ∧ x.fi ≠ s.address)) → ModelAt w' p T M s → Bk w' g 67 (arpC x) → Fr noB w w' → K .normal a' w') : (regionOf Tryz.f182 5).wp Tryz.prog K a w := by
  have kq : ∀ {l : List Nat} {a' : Act}, Kp l a a' → (∀ y ∈ [0, 3, 4], y ∈ l) → Kp [0, 3, 4] a a' := fun k hl i hi => k i (hl i hi)
  by_cases c1 : x.fi = 0
  · exact naqR5a p T M s x g a w K hs h0 h3 h hG (by rw [bne_eq_false_iff_eq]; omega) fun a' w' hs' k' o => hK a' w' hs' (kq k' (by decide)) (o.trans (by simp [c1]))
  · exact naqR5b p T M s x g (decide (x.fi ≠ s.address)) a w K hs h0 h3 h hG (by rw [bne_iff_ne]; omega) (by rw [Bool.eq_iff_iff, bne_iff_ne, decide_eq_true_eq]; omega) fun a' w' hs' k' o => hK a' w' hs' (kq k' (by decide)) (o.trans (by simp [c1]))
theorem naqR6 (p T : Nat) (M : MLay) (s : St) (x : ArpD) (g : Nat) (a : Act) (w : World) (K : KT) (hs : Sz 140 a)
    (h0 : sl a 0 = .pointer (some ⟨p, 0, none⟩)) (h3 : sl a 3 = .pointer (some ⟨g, 0, none⟩)) (h : ModelAt w p T M s) (hG : Bk w g 67 (arpC x))
    (hK : ∀ a' w' (r : Int), Sz 140 a' → Kp [0, 3, 4, 6, 7, 8] a a' → sl a' 5 = .int .i64 r → Found s.cache x.fi r → Fr noB w w' → K .normal a' w') :
    (regionOf Tryz.f182 6).wp Tryz.prog K a w := by
  refine rgE hK (naqF_of hs) fun HK => ?_; clear hK hs
  simp only [naqF, h0, h3]
  have hGc := hG.cells
  unfold arpC at hGc
  go_wp2_with fail
  refine (modFind p T M s x.fi _ h).mono ?_
  rintro e w1 ⟨r, rfl, hFd, hf⟩
  go_wp2_with fail
  exact HK.out _ _ _ ⟨rfl, rfl⟩ kk (rfl) hFd hf
theorem naqR7 (p T : Nat) (M : MLay) (s : St) (x : ArpD) (g : Nat) (a : Act) (w : World) (K : KT) (hs : Sz 140 a)
    (h0 : sl a 0 = .pointer (some ⟨p, 0, none⟩)) (h3 : sl a 3 = .pointer (some ⟨g, 0, none⟩)) (h : ModelAt w p T M s) (hG : Bk w g 67 (arpC x))
    (hK : ∀ a' w' gf, Sz 140 a' → Kp [0, 3, 4, 5, 7, 8] a a' → sl a' 6 = .pointer (some ⟨gf, 0, none⟩) → ModelAt w' p T M s → Bk w' g 67 (arpC x) → Bk w' gf 237 #[.int .u32 (x.fi : Int), .int .u8 (x.fm.1.toNat : Int), .int .u8 (x.fm.2.1.toNat : Int), .int .u8 (x.fm.2.2.1.toNat : Int), .int .u8 (x.fm.2.2.2.1.toNat : Int), .int .u8 (x.fm.2.2.2.2.1.toNat : Int), .int .u8 (x.fm.2.2.2.2.2.toNat : Int), .bool true, .int .i64 (wrap64 (s.now + 60)), .int .i64 0, .string ⟨#[]⟩] → Fr noB w w' → K .normal a' w') :
    (regionOf Tryz.f182 7).wp Tryz.prog K a w := by
  refine rgE hK (naqF_of hs) fun HK => ?_; clear hK hs
  have qw := i64w (s.now + 60)
  simp only [naqF, h0, h3]
  refine wp_region_pls (by kernel_rfl) (fun w' => ModelAt w' p T M s ∧ Bk w' g 67 (arpC x) ∧ Fr noB w w') [11] (.p 0 (.p 2 (.p 4 (.p 5 (.p 6 (.q 1 (.q 3 (.q 7 (.p 8 (.p 9 (.e 10 (.e 11 (.nil))))))))))))) (by kernel_rfl) (⟨h.drew, hG.drew, (Fr.refl _ _).drew⟩) ?_
  intro ops Q' hO hQ' wr1 hR1
  iterate 5 refine pP hO ?_
  iterate 3 (refine pQ hO rfl rfl (fun w' hS => by obtain ⟨hB, hG, hF⟩ := hS; have hGc := hG.cells; unfold arpC at hGc; have c16 := hB.g16; exact qd) ?_)
  iterate 2 refine pP hO ?_
  refine pl_e0 hO rfl rfl rfl (fun K hK => ?_)
  go_simp
  refine hK _ _ (⟨hR1.1.none ((Fr.refl noB _).alloc _), hR1.2.1.keep ((Fr.refl noB _).alloc _) (fun x => x), hR1.2.2.alloc _⟩) (fun hR_10 => ?_)
  clear hK K
  refine pl_b0 hO rfl rfl rfl (fun K hK => ?_)
  refine wp_store_bk 237 (.tmp 6) (.tmp 89) rfl wr1.heap.size _ _ #[.int .u32 (x.fi : Int), .int .u8 (x.fm.1.toNat : Int), .int .u8 (x.fm.2.1.toNat : Int), .int .u8 (x.fm.2.2.1.toNat : Int), .int .u8 (x.fm.2.2.2.1.toNat : Int), .int .u8 (x.fm.2.2.2.2.1.toNat : Int), .int .u8 (x.fm.2.2.2.2.2.toNat : Int), .bool true, .int .i64 (wrap64 (s.now + 60)), .int .i64 0, .string ⟨#[]⟩] rfl rfl (Bk.new wr1 _ _) rfl (by kernel_rfl) (by simp [Value.oneCell']) (fun w5 hx5 hf5 => ?_)
  refine hK _ _ ?_
  clear hK K
  refine pl_nil (hQ' _ _ ?_)
  exact HK.out _ _ _ ⟨rfl, rfl⟩ kk (rfl) (hR1.1.none (((Fr.refl noB wr1).alloc _).trans' hf5 (fun b hb e => by have e' : b = wr1.heap.size := e; omega))) (hR1.2.1.keep (((Fr.refl noB wr1).alloc _).trans' hf5 (fun b hb e => by have e' : b = wr1.heap.size := e; omega)) (fun x => x)) hx5 (hR1.2.2.none (((Fr.refl noB wr1).alloc _).trans' hf5 (fun b hb e => by have e' : b = wr1.heap.size := e; omega)))
theorem naqR8 (r : Int) (a : Act) (w : World) (K : KT) (hs : Sz 140 a)
    (h5 : sl a 5 = .int .i64 r) 
    (hK : ∀ a' w', Sz 140 a' → Kp [0, 3, 4, 5, 6, 7, 8] a a' → sl a' 91 = .bool (decide (0 ≤ r)) → w' = w → K .normal a' w') :
    (regionOf Tryz.f182 8).wp Tryz.prog K a w := by
  refine rgE hK (naqF_of hs) fun HK => ?_; clear hK hs
  simp only [naqF, h5]
  go_wp2_with fail
  exact HK.out _ _ ⟨rfl, rfl⟩ kk (rfl) rfl
theorem naqR13 (b : Bool) (a : Act) (w : World) (K : KT) (hs : Sz 140 a)
    (h4 : sl a 4 = .bool b) 
    (hK : ∀ a' w', Sz 140 a' → Kp [0, 3, 4, 5, 6, 7, 8] a a' → sl a' 114 = .bool b → w' = w → K .normal a' w') :
    (regionOf Tryz.f182 13).wp Tryz.prog K a w := by
  refine rgE hK (naqF_of hs) fun HK => ?_; clear hK hs
  simp only [naqF, h4]
  go_wp2_with fail
  exact HK.out _ _ ⟨rfl, rfl⟩ kk (rfl) rfl
theorem naqR15 (b : Bool) (a : Act) (w : World) (K : KT) (hs : Sz 140 a)
    (h4 : sl a 4 = .bool b) 
    (hK : ∀ a' w', Sz 140 a' → Kp [0, 3, 4, 5, 6, 7, 8] a a' → sl a' 118 = .bool b → w' = w → K .normal a' w') :
    (regionOf Tryz.f182 15).wp Tryz.prog K a w := by
  refine rgE hK (naqF_of hs) fun HK => ?_; clear hK hs
  simp only [naqF, h4]
  go_wp2_with fail
  exact HK.out _ _ ⟨rfl, rfl⟩ kk (rfl) rfl
theorem St.address_low {s : St} (h : s.lease < 4) : s.address = 0 := if_neg (by omega)
theorem St.arped_low {s : St} (x : ArpD) (h : s.lease < 4) (hc : s.cache = []) : s.arped x = if s.lease = 3 ∧ x.fi = s.addr ∧ x.fm ≠ s.c.card then s.decline else s := by
  unfold St.arped
  split
  · rfl
  · have hm : s.asked x = false := by unfold St.asked; rw [St.address_low h]; rfl
    have hl : s.learn x false = s := by unfold St.learn; rw [hc]; rfl
    dsimp only; rw [hm]; simp only [hl]; simp
end Go.Proofs.YtcbkaiakdhiloabGreatDoor
namespace Go.Proofs.YtcbkaiakdhiloabGreatDoor
open Go.RowKit Go.Proofs
attribute [local go_sem] bs_size bs_append bs_sub bs_toList
theorem refReadEther (l : List UInt8) (w : World) (hl : l.length ≤ 9223372036854775807) :
    Calls Tryz.prog 180 #[.string (bs l)] w (ethPost l w) := by
  have hx0 := Bk.new w 27 zcEth
  have hf0 : Fr noB w (w.alloc (.cells zcEth 27)) := (Fr.refl _ _).alloc _
  unfold zcEth at hx0 hf0
  by_cases h14 : l.length < 14
  · have hs := Lib.hid (readEther_short l h14)
    go_enter Tryz.func180, Tryz.ntmps180
    go_wp2_with ((refine wpList_store_bk rfl 27 (.tmp 2) (.tmp 8) rfl w.heap.size _ _ zcEth rfl rfl hx0 rfl (by kernel_rfl) (by kernel_rfl) ?_); intro w9 hx9 hf9)
    refine bodyPost_ret (results_row_tmp Tryz.results180 _ w9 w.heap.size _ zcEth _ _ rfl rfl hx9 Tryz.underlying27 rfl (by kernel_rfl)) rfl ?_
    exact ⟨by rw [hs.out]; rfl, hf0.trans' hf9 (fun b hb e => by unfold oneB at e; omega)⟩
  · go_enter Tryz.func180, Tryz.ntmps180
    go_wp2_with fail
    generalize w.alloc (.cells #[.int .u8 0, .int .u8 0, .int .u8 0, .int .u8 0, .int .u8 0, .int .u8 0, .int .u8 0, .int .u8 0, .int .u8 0, .int .u8 0, .int .u8 0, .int .u8 0, .int .u16 0, .string ⟨#[]⟩] 27) = w1 at *
    have hspec : Hid (readEther l = if num (sub l 12 14) < 1536 then (eth0, 3) else if 1500 < (sub l 14 l.length).length then (eth0, 7)
      else (⟨macOf l, macOf (sub l 6 l.length), num (sub l 12 14), sub l 14 l.length⟩, 0)) := by
      unfold Hid readEther; rw [if_neg h14]
    have h14' : (14 : Int) ≤ l.length := by omega
    have n0 : num (sub l 12 14) < 65536 := by
      have h := num_le (sub l 12 14)
      rw [sub_length l 12 14 (by omega)] at h; exact h
    have e4 : IntKind.u16.wrap (num (sub l 12 14) : Int) = num (sub l 12 14) := by rw [IntKind.wrap_u16]; omega
    have hsz := Lib.hid (ethC_size ⟨macOf l, macOf (sub l 6 l.length), num (sub l 12 14), sub l 14 l.length⟩)
    have hin := Lib.hid (eth_info ⟨macOf l, macOf (sub l 6 l.length), num (sub l 12 14), sub l 14 l.length⟩)
    have hon := Lib.hid (ethC_one ⟨macOf l, macOf (sub l 6 l.length), num (sub l 12 14), sub l 14 l.length⟩)
    obtain ⟨V, hV⟩ : ∃ V : Nat → Value, V = (fun j => match j with | 0 => .string (bs l) | 1 => macV (macOf l) | 2 => .string (bs l) | 3 => .string (bs (sub l 6 l.length)) | 4 => macV (macOf (sub l 6 l.length)) | 5 => .string (bs l) | 6 => .string (bs (sub l 12 14)) | 7 => .int .i64 (num (sub l 12 14)) | 8 => .int .u16 (num (sub l 12 14)) | 9 => .string (bs l) | 10 => .string (bs (sub l 14 l.length)) | 11 => .agg (ethC ⟨macOf l, macOf (sub l 6 l.length), num (sub l 12 14), sub l 14 l.length⟩) | _ => undef) := ⟨_, rfl⟩
    have v0 : V 0 = .string (bs l) := congrFun hV 0
    have v1 : V 1 = macV (macOf l) := congrFun hV 1
    have v2 : V 2 = .string (bs l) := congrFun hV 2
    have v3 : V 3 = .string (bs (sub l 6 l.length)) := congrFun hV 3
    have v4 : V 4 = macV (macOf (sub l 6 l.length)) := congrFun hV 4
    have v5 : V 5 = .string (bs l) := congrFun hV 5
    have v6 : V 6 = .string (bs (sub l 12 14)) := congrFun hV 6
    have v7 : V 7 = .int .i64 (num (sub l 12 14)) := congrFun hV 7
    have v8 : V 8 = .int .u16 (num (sub l 12 14)) := congrFun hV 8
    have v9 : V 9 = .string (bs l) := congrFun hV 9
    have v10 : V 10 = .string (bs (sub l 14 l.length)) := congrFun hV 10
    have v11 : V 11 = .agg (ethC ⟨macOf l, macOf (sub l 6 l.length), num (sub l 12 14), sub l 14 l.length⟩) := congrFun hV 11
    clear hV
    refine wp_region_ssau (by kernel_rfl) (by kernel_rfl) (by kernel_rfl)
      (fun u => ⟨#[.string (bs l), undef, .pointer (some ⟨w.heap.size, 0, none⟩), .int .i64 0, u 12, .string (bs l), .int .i64 l.length, .bool (decide ((l.length : Int) < 14)), undef, u 0, u 1, u 2, u 3, u 4, u 5, u 6, u 7, u 8, u 9, u 10, u 11, undef, undef, undef, undef, undef, undef, undef, undef, undef, undef], []⟩)
      (fun j v w3 => if j = 12 then True else if j = 13 then True else v = V j)
      (fun L u w3 => Fr noB w1 w3 ∧ (L 12 = true → ∃ g, u 12 = .pointer (some ⟨g, 0, none⟩) ∧ w1.heap.size ≤ g ∧ Bk w3 g 27 (if L 13 = true then (ethC ⟨macOf l, macOf (sub l 6 l.length), num (sub l 12 14), sub l 14 l.length⟩) else zcEth)) ∧ (L 13 = true → L 12 = true)) (fun j => undef) ⟨(Fr.refl _ _).drew, (fun h => by cases h), fun h => by cases h⟩ ?_ ?_
    · rintro L u w3 i o hG hΦ ho hL hd K hK
      match i, ho with
      | 0, ho =>
        simp at ho; subst ho
        clear hΦ hd
        go_simp
        exact hK _ _ v0.symm hG (fun _ _ _ h => h)
      | 1, ho =>
        simp at ho; subst ho
        have hu0 : u 0 = V 0 := hΦ 0 (hd ⟨0, .data⟩ (by simp) (by rfl))
        rw [v0] at hu0
        clear hΦ hd
        have hx : ∃ x, u = (upd x 0 (.string (bs l))) := ⟨u, by rw [← upd_self hu0]⟩
        clear hu0
        obtain ⟨x, rfl⟩ := hx
        simp only [upd, reduceIte, Nat.reduceEqDiff]
        go_simp
        refine (refMacOf l _ (by omega) hl).mono ?_
        rintro e w4 ⟨rfl, hf4⟩
        exact hK _ _ v1.symm ⟨hG.1.none hf4, (fun h => by obtain ⟨g, h1, h2, h3⟩ := hG.2.1 h; exact ⟨g, h1, h2, h3.keep hf4 (fun x => x)⟩), hG.2.2⟩ (fun j x _ h => h)
      | 2, ho =>
        simp at ho; subst ho
        clear hΦ hd
        go_simp
        exact hK _ _ v2.symm hG (fun _ _ _ h => h)
      | 3, ho =>
        simp at ho; subst ho
        have hu2 : u 2 = V 2 := hΦ 2 (hd ⟨2, .data⟩ (by simp) (by rfl))
        rw [v2] at hu2
        clear hΦ hd
        have hx : ∃ x, u = (upd x 2 (.string (bs l))) := ⟨u, by rw [← upd_self hu2]⟩
        clear hu2
        obtain ⟨x, rfl⟩ := hx
        simp only [upd, reduceIte, Nat.reduceEqDiff]
        go_simp
        try (rw [if_pos (by omega)]; go_simp)
        exact hK _ _ v3.symm hG (fun _ _ _ h => h)
      | 4, ho =>
        simp at ho; subst ho
        have hu3 : u 3 = V 3 := hΦ 3 (hd ⟨3, .data⟩ (by simp) (by rfl))
        rw [v3] at hu3
        clear hΦ hd
        have hx : ∃ x, u = (upd x 3 (.string (bs (sub l 6 l.length)))) := ⟨u, by rw [← upd_self hu3]⟩
        clear hu3
        obtain ⟨x, rfl⟩ := hx
        simp only [upd, reduceIte, Nat.reduceEqDiff]
        go_simp
        refine (refMacOf (sub l 6 l.length) _ (by rw [sub_length l 6 l.length (by omega)]; omega) (by have := sub_le l 6 l.length; omega)).mono ?_
        rintro e w4 ⟨rfl, hf4⟩
        exact hK _ _ v4.symm ⟨hG.1.none hf4, (fun h => by obtain ⟨g, h1, h2, h3⟩ := hG.2.1 h; exact ⟨g, h1, h2, h3.keep hf4 (fun x => x)⟩), hG.2.2⟩ (fun j x _ h => h)
      | 5, ho =>
        simp at ho; subst ho
        clear hΦ hd
        go_simp
        exact hK _ _ v5.symm hG (fun _ _ _ h => h)
      | 6, ho =>
        simp at ho; subst ho
        have hu5 : u 5 = V 5 := hΦ 5 (hd ⟨5, .data⟩ (by simp) (by rfl))
        rw [v5] at hu5
        clear hΦ hd
        have hx : ∃ x, u = (upd x 5 (.string (bs l))) := ⟨u, by rw [← upd_self hu5]⟩
        clear hu5
        obtain ⟨x, rfl⟩ := hx
        simp only [upd, reduceIte, Nat.reduceEqDiff]
        go_simp
        try (rw [if_pos (by omega)]; go_simp)
        exact hK _ _ v6.symm hG (fun _ _ _ h => h)
      | 7, ho =>
        simp at ho; subst ho
        have hu6 : u 6 = V 6 := hΦ 6 (hd ⟨6, .data⟩ (by simp) (by rfl))
        rw [v6] at hu6
        clear hΦ hd
        have hx : ∃ x, u = (upd x 6 (.string (bs (sub l 12 14)))) := ⟨u, by rw [← upd_self hu6]⟩
        clear hu6
        obtain ⟨x, rfl⟩ := hx
        simp only [upd, reduceIte, Nat.reduceEqDiff]
        go_simp
        refine (refOf (sub l 12 14) _ (by have := sub_le l 12 14; omega)).mono ?_
        rintro e w4 ⟨rfl, rfl⟩
        exact hK _ _ v7.symm hG (fun _ _ _ h => h)
      | 8, ho =>
        simp at ho; subst ho
        have hu7 : u 7 = V 7 := hΦ 7 (hd ⟨7, .data⟩ (by simp) (by rfl))
        rw [v7] at hu7
        clear hΦ hd
        have hx : ∃ x, u = (upd x 7 (.int .i64 (num (sub l 12 14)))) := ⟨u, by rw [← upd_self hu7]⟩
        clear hu7
        obtain ⟨x, rfl⟩ := hx
        simp only [upd, reduceIte, Nat.reduceEqDiff]
        go_simp
        exact hK _ _ v8.symm hG (fun _ _ _ h => h)
      | 9, ho =>
        simp at ho; subst ho
        clear hΦ hd
        go_simp
        exact hK _ _ v9.symm hG (fun _ _ _ h => h)
      | 10, ho =>
        simp at ho; subst ho
        have hu9 : u 9 = V 9 := hΦ 9 (hd ⟨9, .data⟩ (by simp) (by rfl))
        rw [v9] at hu9
        clear hΦ hd
        have hx : ∃ x, u = (upd x 9 (.string (bs l))) := ⟨u, by rw [← upd_self hu9]⟩
        clear hu9
        obtain ⟨x, rfl⟩ := hx
        simp only [upd, reduceIte, Nat.reduceEqDiff]
        go_simp
        try (rw [if_pos (by omega)]; go_simp)
        exact hK _ _ v10.symm hG (fun _ _ _ h => h)
      | 11, ho =>
        simp at ho; subst ho
        have hu1 : u 1 = V 1 := hΦ 1 (hd ⟨1, .data⟩ (by simp) (by rfl))
        rw [v1] at hu1
        have hu4 : u 4 = V 4 := hΦ 4 (hd ⟨4, .data⟩ (by simp) (by rfl))
        rw [v4] at hu4
        have hu8 : u 8 = V 8 := hΦ 8 (hd ⟨8, .data⟩ (by simp) (by rfl))
        rw [v8] at hu8
        have hu10 : u 10 = V 10 := hΦ 10 (hd ⟨10, .data⟩ (by simp) (by rfl))
        rw [v10] at hu10
        clear hΦ hd
        have hx : ∃ x, u = (upd (upd (upd (upd x 1 (macV (macOf l))) 4 (macV (macOf (sub l 6 l.length)))) 8 (.int .u16 (num (sub l 12 14)))) 10 (.string (bs (sub l 14 l.length)))) := ⟨u, by rw [← upd_self hu1, ← upd_self hu4, ← upd_self hu8, ← upd_self hu10]⟩
        clear hu1 hu4 hu8 hu10
        obtain ⟨x, rfl⟩ := hx
        simp only [upd, reduceIte, Nat.reduceEqDiff]
        simp only [macV]
        go_simp
        exact hK _ _ v11.symm hG (fun _ _ _ h => h)
      | 12, ho =>
        simp at ho; subst ho
        clear hΦ hd
        go_simp
        refine hK _ _ trivial ⟨hG.1.alloc _, fun _ => ⟨w3.heap.size, rfl, hG.1.size, ?_⟩, fun _ => rfl⟩ (fun j x _ h => h)
        have hL13 : L 13 = false := by
          cases h : L 13 with
          | false => rfl
          | true => exact absurd (hG.2.2 h) (by rw [hL]; simp)
        show Bk _ _ _ (if L 13 = true then _ else _)
        rw [hL13]; exact Bk.new _ _ _
      | 13, ho =>
        simp at ho; subst ho
        have hu11 : u 11 = V 11 := hΦ 11 (hd ⟨11, .data⟩ (by simp) (by rfl))
        rw [v11] at hu11
        have hL12 : L 12 = true := hd ⟨12, .data⟩ (by simp) (by rfl)
        clear hΦ hd
        have hx : ∃ x, u = (upd x 11 (.agg (ethC ⟨macOf l, macOf (sub l 6 l.length), num (sub l 12 14), sub l 14 l.length⟩))) := ⟨u, by rw [← upd_self hu11]⟩
        clear hu11
        obtain ⟨x, rfl⟩ := hx
        simp only [upd, reduceIte, Nat.reduceEqDiff]
        obtain ⟨hG1, hG2, hG3⟩ := hG
        obtain ⟨g, h1, h2, h3⟩ := hG2 hL12
        have h1' : x 12 = .pointer (some ⟨g, 0, none⟩) := h1
        clear h1 hG2
        rw [hL] at h3
        obtain ⟨y, rfl⟩ : ∃ y, x = upd y 12 (.pointer (some ⟨g, 0, none⟩)) := ⟨x, upd_self h1'⟩
        clear h1'
        simp only [upd, reduceIte, Nat.reduceEqDiff]
        refine wp_store_bk 27 (.tmp 4) (.tmp 20) rfl g _ _ (ethC ⟨macOf l, macOf (sub l 6 l.length), num (sub l 12 14), sub l 14 l.length⟩) rfl rfl h3 hsz.out hin.out hon.out ?_
        intro w9 hx9 hf9
        exact hK undef _ trivial ⟨hG1.trans' hf9 (fun b hb e => by unfold oneB at e; omega), fun _ => ⟨g, rfl, h2, hx9⟩, fun _ => hL12⟩ (fun j x _ h => h)
    · rintro u w3 hu L hall hG
      obtain ⟨hG1, hG2, hG3⟩ := hG
      obtain ⟨g, h1, h2, h3⟩ := hG2 (hall 12 (by simp))
      rw [hall 13 (by simp)] at h3
      clear hG2 hG3 hu hall
      rw [h1]
      have hv : Bk w3 g 27 (ethC ⟨macOf l, macOf (sub l 6 l.length), num (sub l 12 14), sub l 14 l.length⟩) := h3
      clear h3
      unfold ethC at hv
      have hvc := hv.cells
      replace hx0 := hx0.keep hG1 (fun x => x)
      replace hf0 := hf0.none hG1
      generalize u 0 = z0, u 1 = z1, u 2 = z2, u 3 = z3, u 4 = z4, u 5 = z5, u 6 = z6, u 7 = z7, u 8 = z8, u 9 = z9, u 10 = z10, u 11 = z11
      clear hG1 h2 hv
      have hx0l := hx0.lt
      by_cases h1 : num (sub l 12 14) < 1536
      · have h1b : (num (sub l 12 14) : Int) < 1536 := by omega
        have H1 := Lib.hid h1
        clear h1
        go_wp2_with ((refine wpList_store_bk rfl 27 (.tmp 2) (.tmp 24) rfl w.heap.size _ _ zcEth rfl rfl hx0 rfl (by kernel_rfl) (by kernel_rfl) ?_); intro w9 hx9 hf9)
        refine bodyPost_ret (results_row_tmp Tryz.results180 _ w9 w.heap.size _ zcEth _ _ rfl rfl hx9 Tryz.underlying27 rfl (by kernel_rfl)) rfl ?_
        exact ⟨by rw [hspec.out, if_pos H1.out]; rfl, hf0.trans' hf9 (fun b hb e => by unfold oneB at e; omega)⟩
      · have h1b : ¬ (num (sub l 12 14) : Int) < 1536 := by omega
        have H1 := Lib.hid h1
        clear h1
        by_cases h2 : 1500 < (sub l 14 l.length).length
        · have h2b : 1500 < ((sub l 14 l.length).length : Int) := by omega
          have H2 := Lib.hid h2
          clear h2
          go_wp2_with ((refine wpList_store_bk rfl 27 (.tmp 2) (.tmp 29) rfl w.heap.size _ _ zcEth rfl rfl hx0 rfl (by kernel_rfl) (by kernel_rfl) ?_); intro w9 hx9 hf9)
          refine bodyPost_ret (results_row_tmp Tryz.results180 _ w9 w.heap.size _ zcEth _ _ rfl rfl hx9 Tryz.underlying27 rfl (by kernel_rfl)) rfl ?_
          exact ⟨by rw [hspec.out, if_neg H1.out, if_pos H2.out]; rfl, hf0.trans' hf9 (fun b hb e => by unfold oneB at e; omega)⟩
        · have h2b : ¬ 1500 < ((sub l 14 l.length).length : Int) := by omega
          have H2 := Lib.hid h2
          clear h2
          go_wp2_with ((refine wpList_store_bk rfl 27 (.tmp 2) (.tmp 30) rfl w.heap.size _ _ (ethC ⟨macOf l, macOf (sub l 6 l.length), num (sub l 12 14), sub l 14 l.length⟩) rfl rfl hx0 hsz.out hin.out hon.out ?_); intro w9 hx9 hf9)
          refine bodyPost_ret (results_row_tmp Tryz.results180 _ w9 w.heap.size _ (ethC ⟨macOf l, macOf (sub l 6 l.length), num (sub l 12 14), sub l 14 l.length⟩) _ _ rfl rfl hx9 Tryz.underlying27 rfl hin.out) rfl ?_
          exact ⟨by rw [hspec.out, if_neg H1.out, if_neg H2.out]; rfl, hf0.trans' hf9 (fun b hb e => by unfold oneB at e; omega)⟩
end Go.Proofs.YtcbkaiakdhiloabGreatDoor
