/- Parts of the walk; written by programs, merged. -/
import Derived.Test.YtcbkaiakdhiloacGreatDoorMal
import Derived.Test.YtcbkaiakdhiloacGreatDoorMan
import Derived.Lib.ItoaMem
import Derived.Laws.StructEq
import Derived.DeepKeys
set_option linter.unusedSimpArgs false
set_option linter.unusedVariables false
set_option maxRecDepth 20000
set_option maxHeartbeats 8000000
namespace Go.Proofs.YtcbkaiakdhiloacGreatDoor
open Go.RowKit Go.Proofs
theorem u32_info : (Tryz.prog.info? 37).map (fun i => (i.zero, i.size, i.bytes)) = some (some (.int .u32 0), 1, 4) := by kernel_rfl
theorem run_index_arr (w : World) (cs : List Value) (i : Nat) (v : Value) (hi : i < 8) (hv : cs[i]? = some v) :
    (Instr.index 201 (.agg cs.toArray) (.int .i64 (i : Int))).run Tryz.prog w = .ok v w := by
  obtain ⟨inf, hi0, hz, hs, hb⟩ := info_parts u32_info
  have hi1 : (0 : Int) ≤ (i : Int) ∧ (i : Int) < 8 := by omega
  simp [Instr.index, run_underlying Tryz.underlying201, asIntOf, hi1, go_sem, sizeOf, typeInfo, hi0, hs, hv]
  intro h; omega
def smFr (u : Nat → Value) : Act := ⟨#[u 0, u 1, u 2, u 3, u 4, u 5, u 6, u 7, u 8, u 9, u 10, u 11, u 12, u 13, u 14, u 15, u 16, u 17, u 18, u 19, u 20, u 21, u 22, u 23, u 24, u 25, u 26, u 27, u 28, u 29, u 30, u 31, u 32, u 33, u 34, u 35, u 36, u 37, u 38, u 39, u 40, u 41, u 42, u 43, u 44, u 45, u 46, u 47, u 48, u 49, u 50, u 51, u 52, u 53, u 54, u 55, u 56, u 57, u 58, u 59, u 60, u 61, u 62, u 63, u 64, u 65, u 66, u 67, u 68, u 69, u 70, u 71, u 72, u 73, u 74, u 75, u 76], []⟩
set_option maxRecDepth 100000 in
theorem smFr_eq (u : Nat → Value) : smFr u = frN 77 u := rfl
theorem smFr_of {a : Act} (h : Sz 77 a) : a = smFr (sl a) := h.eq.trans (smFr_eq _).symm
theorem smR0  (a : Act) (w : World) (K : Exit → Act → World → Prop) (hs : Sz 77 a)
     
    (hK : ∀ a' w', Sz 77 a' → Kp [0, 3, 4, 5, 6, 7, 8, 26, 44, 45] a a' → sl a' 2 = .pointer (some ⟨w.heap.size, 0, none⟩) → w' = w.alloc (.cells (u8s (List.replicate 32 0)).toArray 143) → K .normal a' w') :
    (regionOf Tryz.f127 0).wp Tryz.prog K a w := by
  unfold Kp at hK; rw [smFr_of hs]; clear hs; generalize sl a = u at *; clear a; have HK := Lib.hid hK; clear hK; conv => arg 2; whnf
  simp only [smFr]
  go_wp2_with fail
  exact HK.out _ _  ⟨rfl, rfl⟩ (Kc rfl (Kc rfl (Kc rfl (Kc rfl (Kc rfl (Kc rfl (Kc rfl (Kc rfl (Kc rfl (Kc rfl (Kn _ _))))))))))) (rfl) rfl
theorem smR5  (a : Act) (w : World) (K : Exit → Act → World → Prop) (hs : Sz 77 a)
     
    (hK : ∀ a' w', Sz 77 a' → Kp [0, 2, 3, 5, 6, 7, 8, 26, 44, 45] a a' → sl a' 4 = .pointer (some ⟨w.heap.size, 0, none⟩) → w' = w.alloc (.cells (u8s (List.replicate 8 0)).toArray 253) → K .normal a' w') :
    (regionOf Tryz.f127 5).wp Tryz.prog K a w := by
  unfold Kp at hK; rw [smFr_of hs]; clear hs; generalize sl a = u at *; clear a; have HK := Lib.hid hK; clear hK; conv => arg 2; whnf
  simp only [smFr]
  go_wp2_with fail
  exact HK.out _ _  ⟨rfl, rfl⟩ (Kc rfl (Kc rfl (Kc rfl (Kc rfl (Kc rfl (Kc rfl (Kc rfl (Kc rfl (Kc rfl (Kc rfl (Kn _ _))))))))))) (rfl) rfl
theorem smR12  (a : Act) (w : World) (K : Exit → Act → World → Prop) (hs : Sz 77 a)
     
    (hK : ∀ a' w', Sz 77 a' → Kp [0, 2, 3, 4, 5, 7, 8, 26, 44, 45] a a' → sl a' 6 = .pointer (some ⟨w.heap.size, 0, none⟩) → w' = w.alloc (.cells (u8s (List.replicate 32 0)).toArray 143) → K .normal a' w') :
    (regionOf Tryz.f127 12).wp Tryz.prog K a w := by
  unfold Kp at hK; rw [smFr_of hs]; clear hs; generalize sl a = u at *; clear a; have HK := Lib.hid hK; clear hK; conv => arg 2; whnf
  simp only [smFr]
  go_wp2_with fail
  exact HK.out _ _  ⟨rfl, rfl⟩ (Kc rfl (Kc rfl (Kc rfl (Kc rfl (Kc rfl (Kc rfl (Kc rfl (Kc rfl (Kc rfl (Kc rfl (Kn _ _))))))))))) (rfl) rfl
theorem smR1 (p n : Nat) (a : Act) (w : World) (K : Exit → Act → World → Prop) (hs : Sz 77 a)
    (h0 : sl a 0 = .pointer (some ⟨p, 0, none⟩)) (hn : n * 8 < 18446744073709551616) (hc : w.cell? ⟨p, 9, none⟩ = some (.int .u64 (n : Int)))
    (hK : ∀ a' w', Sz 77 a' → Kp [0, 2, 4, 5, 6, 7, 8, 26, 44, 45] a a' → sl a' 3 = .int .u64 ((n * 8 : Nat) : Int) → Fr noB w w' → K .normal a' w') :
    (regionOf Tryz.f127 1).wp Tryz.prog K a w := by
  unfold Kp at hK; rw [smFr_of hs]; clear hs; generalize sl a = u at *; clear a; have HK := Lib.hid hK; clear hK; conv => arg 2; whnf
  have hn1 : (n : Int) * 8 < 18446744073709551616 := by omega
  simp only [smFr, h0]
  go_wp2_with fail
  exact HK.out _ _  ⟨rfl, rfl⟩ (Kc h0.symm (Kc rfl (Kc rfl (Kc rfl (Kc rfl (Kc rfl (Kc rfl (Kc rfl (Kc rfl (Kc rfl (Kn _ _))))))))))) (by simp only [sl]; rfl) (Fr.refl _ _)
theorem smR2 (p : Nat) (X : Nat → Prop) (pre : List UInt8) (a : Act) (w : World) (K : Exit → Act → World → Prop) (hs : Sz 77 a)
    (h0 : sl a 0 = .pointer (some ⟨p, 0, none⟩)) (hS : HSt w p X pre) (hb : ∀ q, w.heap.size ≤ q → X q) (hlen : pre.length + 1 ≤ 1000000000000) (hRk : RU w 5 kTab) (hgb : ¬ X 5) (hkp : 5 ≠ p)
    (hK : ∀ a' w', Sz 77 a' → Kp [0, 2, 3, 4, 5, 6, 7, 8, 26, 44, 45] a a' → HSt w' p X (pre ++ [128]) → Fr (ownS p X) w w' → K .normal a' w') :
    (regionOf Tryz.f127 2).wp Tryz.prog K a w := by
  unfold Kp at hK; rw [smFr_of hs]; clear hs; generalize sl a = u at *; clear a; have HK := Lib.hid hK; clear hK; conv => arg 2; whnf
  have hpb := hS.1
  have hfa : Fr noB w (w.alloc (.cells #[.int .u8 128] 5)) := (Fr.refl _ _).alloc _
  have hSa : HSt (w.alloc (.cells #[.int .u8 128] 5)) p X pre := ⟨hpb, by obtain ⟨r, h1, h2⟩ := hS.2; exact ⟨r, h1.keep hfa id, h2.keep hfa fun _ _ h => h⟩⟩
  have hcall := hashWrite pre [128] p 1 1 X (some ⟨w.heap.size, 0, none⟩) (w.alloc (.cells #[.int .u8 128] 5)) hSa (SlR.of_bk (n := 1) (size := 1) (Bk.new w 5 #[.int .u8 128]) (by unfold oneB; exact fun e => hpb (hb p (by rw [← e]; exact Nat.le_refl _))) rfl) (fun q hq => hb q (Nat.le_trans hfa.size hq)) hlen (hRk.keep hfa id) hgb hkp
  clear hS hSa hRk
  simp only [smFr, h0]
  go_wp2_with (go_at_call 126; refine hcall.mono ?_; rintro e w9 ⟨rfl, hS9, hf9b⟩)
  have hf9 := hfa.of_no (ownS p X) |>.trans hf9b
  exact HK.out _ _  ⟨rfl, rfl⟩ (Kc h0.symm (Kc rfl (Kc rfl (Kc rfl (Kc rfl (Kc rfl (Kc rfl (Kc rfl (Kc rfl (Kc rfl (Kc rfl (Kn _ _))))))))))))  hS9 hf9
theorem smR4 (p : Nat) (X : Nat → Prop) (pre : List UInt8) (a : Act) (w : World) (K : Exit → Act → World → Prop) (hs : Sz 77 a)
    (h0 : sl a 0 = .pointer (some ⟨p, 0, none⟩)) (hS : HSt w p X pre) (hb : ∀ q, w.heap.size ≤ q → X q) (hlen : pre.length + 1 ≤ 1000000000000) (hRk : RU w 5 kTab) (hgb : ¬ X 5) (hkp : 5 ≠ p)
    (hK : ∀ a' w', Sz 77 a' → Kp [0, 2, 3, 4, 5, 6, 7, 8, 26, 44, 45] a a' → HSt w' p X (pre ++ [0]) → Fr (ownS p X) w w' → K .normal a' w') :
    (regionOf Tryz.f127 4).wp Tryz.prog K a w := by
  unfold Kp at hK; rw [smFr_of hs]; clear hs; generalize sl a = u at *; clear a; have HK := Lib.hid hK; clear hK; conv => arg 2; whnf
  have hpb := hS.1
  have hfa : Fr noB w (w.alloc (.cells #[.int .u8 0] 5)) := (Fr.refl _ _).alloc _
  have hSa : HSt (w.alloc (.cells #[.int .u8 0] 5)) p X pre := ⟨hpb, by obtain ⟨r, h1, h2⟩ := hS.2; exact ⟨r, h1.keep hfa id, h2.keep hfa fun _ _ h => h⟩⟩
  have hcall := hashWrite pre [0] p 1 1 X (some ⟨w.heap.size, 0, none⟩) (w.alloc (.cells #[.int .u8 0] 5)) hSa (SlR.of_bk (n := 1) (size := 1) (Bk.new w 5 #[.int .u8 0]) (by unfold oneB; exact fun e => hpb (hb p (by rw [← e]; exact Nat.le_refl _))) rfl) (fun q hq => hb q (Nat.le_trans hfa.size hq)) hlen (hRk.keep hfa id) hgb hkp
  clear hS hSa hRk
  simp only [smFr, h0]
  go_wp2_with (go_at_call 126; refine hcall.mono ?_; rintro e w9 ⟨rfl, hS9, hf9b⟩)
  have hf9 := hfa.of_no (ownS p X) |>.trans hf9b
  exact HK.out _ _  ⟨rfl, rfl⟩ (Kc h0.symm (Kc rfl (Kc rfl (Kc rfl (Kc rfl (Kc rfl (Kc rfl (Kc rfl (Kc rfl (Kc rfl (Kc rfl (Kn _ _))))))))))))  hS9 hf9
theorem smR3 (p n c : Nat) (A : Option Addr) (a : Act) (w : World) (K : Exit → Act → World → Prop) (hs : Sz 77 a)
    (h0 : sl a 0 = .pointer (some ⟨p, 0, none⟩)) (hc : w.cell? ⟨p, 8, none⟩ = some (.slice A n c))
    (hK : ∀ a' w', Sz 77 a' → Kp [0, 2, 3, 4, 5, 6, 7, 8, 26, 44, 45] a a' → sl a' 22 = .bool (decide (n ≠ 56)) → Fr noB w w' → K .normal a' w') :
    (regionOf Tryz.f127 3).wp Tryz.prog K a w := by
  unfold Kp at hK; rw [smFr_of hs]; clear hs; generalize sl a = u at *; clear a; have HK := Lib.hid hK; clear hK; conv => arg 2; whnf
  simp only [smFr, h0]
  go_wp2_with fail
  exact HK.out _ _  ⟨rfl, rfl⟩ (Kc h0.symm (Kc rfl (Kc rfl (Kc rfl (Kc rfl (Kc rfl (Kc rfl (Kc rfl (Kc rfl (Kc rfl (Kc rfl (Kn _ _)))))))))))) (congrArg Value.bool (by by_cases h : n = 56 <;> simp [h] <;> omega)) (Fr.refl _ _)
theorem smR6  (a : Act) (w : World) (K : Exit → Act → World → Prop) (hs : Sz 77 a)
     
    (hK : ∀ a' w', Sz 77 a' → Kp [0, 2, 3, 4, 5, 6, 7, 8, 44, 45] a a' → sl a' 26 = .int .i64 ((0 : Nat) : Int) → Fr noB w w' → K .normal a' w') :
    (regionOf Tryz.f127 6).wp Tryz.prog K a w := by
  unfold Kp at hK; rw [smFr_of hs]; clear hs; generalize sl a = u at *; clear a; have HK := Lib.hid hK; clear hK; conv => arg 2; whnf
  simp only [smFr]
  go_wp2_with fail
  exact HK.out _ _  ⟨rfl, rfl⟩ (Kc rfl (Kc rfl (Kc rfl (Kc rfl (Kc rfl (Kc rfl (Kc rfl (Kc rfl (Kc rfl (Kc rfl (Kn _ _))))))))))) (rfl) (Fr.refl _ _)
theorem smR7 (i : Nat) (a : Act) (w : World) (K : Exit → Act → World → Prop) (hs : Sz 77 a)
    (h26 : sl a 26 = .int .i64 (i : Int)) (hi : i ≤ 8)
    (hK : ∀ a' w', Sz 77 a' → Kp [0, 2, 3, 4, 5, 6, 7, 8, 26, 44, 45] a a' → sl a' 27 = .bool (decide (i < 8)) → Fr noB w w' → K .normal a' w') :
    (regionOf Tryz.f127 7).wp Tryz.prog K a w := by
  unfold Kp at hK; rw [smFr_of hs]; clear hs; generalize sl a = u at *; clear a; have HK := Lib.hid hK; clear hK; conv => arg 2; whnf
  simp only [smFr, h26]
  go_wp2_with fail
  exact HK.out _ _  ⟨rfl, rfl⟩ (Kc rfl (Kc rfl (Kc rfl (Kc rfl (Kc rfl (Kc rfl (Kc rfl (Kc rfl (Kc h26.symm (Kc rfl (Kc rfl (Kn _ _)))))))))))) (congrArg Value.bool (decide_eq_decide.2 (by omega))) (Fr.refl _ _)
theorem smR8 (i : Nat) (a : Act) (w : World) (K : Exit → Act → World → Prop) (hs : Sz 77 a)
    (h26 : sl a 26 = .int .i64 (i : Int)) 
    (hK : ∀ a' w', Sz 77 a' → Kp [0, 2, 3, 4, 6, 7, 8, 26, 44, 45] a a' → sl a' 5 = .int .i64 (i : Int) → Fr noB w w' → K .normal a' w') :
    (regionOf Tryz.f127 8).wp Tryz.prog K a w := by
  unfold Kp at hK; rw [smFr_of hs]; clear hs; generalize sl a = u at *; clear a; have HK := Lib.hid hK; clear hK; conv => arg 2; whnf
  simp only [smFr, h26]
  go_wp2_with fail
  exact HK.out _ _  ⟨rfl, rfl⟩ (Kc rfl (Kc rfl (Kc rfl (Kc rfl (Kc rfl (Kc rfl (Kc rfl (Kc h26.symm (Kc rfl (Kc rfl (Kn _ _))))))))))) (rfl) (Fr.refl _ _)
theorem smR10 (i : Nat) (a : Act) (w : World) (K : Exit → Act → World → Prop) (hs : Sz 77 a)
    (h26 : sl a 26 = .int .i64 (i : Int)) (hi : i ≤ 8)
    (hK : ∀ a' w', Sz 77 a' → Kp [0, 2, 3, 4, 5, 6, 7, 8, 44, 45] a a' → sl a' 26 = .int .i64 ((i + 1 : Nat) : Int) → Fr noB w w' → K .normal a' w') :
    (regionOf Tryz.f127 10).wp Tryz.prog K a w := by
  unfold Kp at hK; rw [smFr_of hs]; clear hs; generalize sl a = u at *; clear a; have HK := Lib.hid hK; clear hK; conv => arg 2; whnf
  simp only [smFr, h26]
  clear h26
  go_wp2_with fail
  exact HK.out _ _  ⟨rfl, rfl⟩ (Kc rfl (Kc rfl (Kc rfl (Kc rfl (Kc rfl (Kc rfl (Kc rfl (Kc rfl (Kc rfl (Kc rfl (Kn _ _))))))))))) (by simp only [sl]; rfl) (Fr.refl _ _)
theorem smR9 (i j gl N : Nat) (z : Value) (a : Act) (w : World) (K : Exit → Act → World → Prop) (hs : Sz 77 a)
    (h3 : sl a 3 = .int .u64 (N : Int)) (h4 : sl a 4 = .pointer (some ⟨gl, 0, none⟩)) (h5 : sl a 5 = .int .i64 (i : Int)) (hi : i < 8) (hj : j + i = 7) (hN : N < 18446744073709551616) (hc : w.cell? ⟨gl, i, none⟩ = some (z)) (hf : w.frozen? ⟨gl, i, none⟩ = false)
    (hK : ∀ a' w', Sz 77 a' → Kp [0, 2, 3, 4, 5, 6, 7, 8, 26, 44, 45] a a' → w' = w.setCell ⟨gl, i, none⟩ (.int .u8 ((UInt8.ofNat (N / 256 ^ j)).toNat : Int)) → K .normal a' w') :
    (regionOf Tryz.f127 9).wp Tryz.prog K a w := by
  unfold Kp at hK; rw [smFr_of hs]; clear hs; generalize sl a = u at *; clear a; have HK := Lib.hid hK; clear hK; conv => arg 2; whnf
  obtain ⟨k, hk⟩ : ∃ k, k = 8 * j := ⟨_, rfl⟩
  have e1 : (56 : Int) - 8 * (i : Int) = (k : Int) := by omega
  have e2 : 8 * (i : Int) ≤ 56 := by omega
  have hby := byte_at N j
  rw [← hk] at hby
  obtain ⟨y, hy⟩ : ∃ y, y = UInt8.ofNat (N / 256 ^ j) := ⟨_, rfl⟩
  rw [← hy] at hby HK
  have hk64 : k < 64 := by omega
  clear hy hk hj
  simp only [smFr, h3, h4, h5]
  go_wp2_with fail
  exact HK.out _ _  ⟨rfl, rfl⟩ (Kc rfl (Kc rfl (Kc h3.symm (Kc h4.symm (Kc h5.symm (Kc rfl (Kc rfl (Kc rfl (Kc rfl (Kc rfl (Kc rfl (Kn _ _))))))))))))  rfl
theorem smR11 (p gl : Nat) (X : Nat → Prop) (pre B : List UInt8) (a : Act) (w : World) (K : Exit → Act → World → Prop) (hs : Sz 77 a)
    (h0 : sl a 0 = .pointer (some ⟨p, 0, none⟩)) (h4 : sl a 4 = .pointer (some ⟨gl, 0, none⟩)) (hS : HSt w p X pre) (hB : Bk w gl 253 (u8s B).toArray) (hB8 : B.length = 8) (hgp : gl ≠ p) (hb : ∀ q, w.heap.size ≤ q → X q) (hlen : pre.length + 8 ≤ 1000000000000) (hRk : RU w 5 kTab) (hgb : ¬ X 5) (hkp : 5 ≠ p)
    (hK : ∀ a' w', Sz 77 a' → Kp [0, 2, 3, 4, 5, 6, 7, 8, 26, 44, 45] a a' → HSt w' p X (pre ++ B) → Fr (ownS p X) w w' → K .normal a' w') :
    (regionOf Tryz.f127 11).wp Tryz.prog K a w := by
  unfold Kp at hK; rw [smFr_of hs]; clear hs; generalize sl a = u at *; clear a; have HK := Lib.hid hK; clear hK; conv => arg 2; whnf
  have hsl : SlR w (oneB p) 1 (some ⟨gl, 0, none⟩) 8 (u8s B) := SlR.of_bk (n := 8) (size := 1) (cs := (u8s B).toArray) hB hgp (by simp [u8s, hB8])
  have hcall := hashWrite pre B p 8 8 X (some ⟨gl, 0, none⟩) w hS hsl hb (by omega) hRk hgb hkp
  clear hS hB hRk hsl
  simp only [smFr, h0, h4]
  go_wp2_with (go_at_call 126; refine hcall.mono ?_; rintro e w9 ⟨rfl, hS9, hf9⟩)
  exact HK.out _ _  ⟨rfl, rfl⟩ (Kc h0.symm (Kc rfl (Kc rfl (Kc h4.symm (Kc rfl (Kc rfl (Kc rfl (Kc rfl (Kc rfl (Kc rfl (Kc rfl (Kn _ _))))))))))))  hS9 hf9
theorem smR13 (p : Nat) (v : S8) (a : Act) (w : World) (K : Exit → Act → World → Prop) (hs : Sz 77 a)
    (h0 : sl a 0 = .pointer (some ⟨p, 0, none⟩)) (hR : RU w p v.list)
    (hK : ∀ a' w', Sz 77 a' → Kp [0, 2, 3, 4, 5, 6, 7, 8, 26] a a' → sl a' 44 = .agg (u32s v.list).toArray → sl a' 45 = .int .i64 ((0 : Nat) : Int) → Fr noB w w' → K .normal a' w') :
    (regionOf Tryz.f127 13).wp Tryz.prog K a w := by
  unfold Kp at hK; rw [smFr_of hs]; clear hs; generalize sl a = u at *; clear a; have HK := Lib.hid hK; clear hK; conv => arg 2; whnf
  have c0 := hR.2 0 _ rfl
  have c1 := hR.2 1 _ rfl
  have c2 := hR.2 2 _ rfl
  have c3 := hR.2 3 _ rfl
  have c4 := hR.2 4 _ rfl
  have c5 := hR.2 5 _ rfl
  have c6 := hR.2 6 _ rfl
  have c7 := hR.2 7 _ rfl
  clear hR
  simp only [smFr, h0]
  go_wp2_with fail
  exact HK.out _ _  ⟨rfl, rfl⟩ (Kc h0.symm (Kc rfl (Kc rfl (Kc rfl (Kc rfl (Kc rfl (Kc rfl (Kc rfl (Kc rfl (Kn _ _)))))))))) (rfl) (rfl) (Fr.refl _ _)
theorem smR14 (i : Nat) (a : Act) (w : World) (K : Exit → Act → World → Prop) (hs : Sz 77 a)
    (h45 : sl a 45 = .int .i64 (i : Int)) (hi : i ≤ 8)
    (hK : ∀ a' w', Sz 77 a' → Kp [0, 2, 3, 4, 5, 6, 7, 8, 26, 44, 45] a a' → sl a' 46 = .bool (decide (i < 8)) → Fr noB w w' → K .normal a' w') :
    (regionOf Tryz.f127 14).wp Tryz.prog K a w := by
  unfold Kp at hK; rw [smFr_of hs]; clear hs; generalize sl a = u at *; clear a; have HK := Lib.hid hK; clear hK; conv => arg 2; whnf
  simp only [smFr, h45]
  go_wp2_with fail
  exact HK.out _ _  ⟨rfl, rfl⟩ (Kc rfl (Kc rfl (Kc rfl (Kc rfl (Kc rfl (Kc rfl (Kc rfl (Kc rfl (Kc rfl (Kc rfl (Kc h45.symm (Kn _ _)))))))))))) (congrArg Value.bool (decide_eq_decide.2 (by omega))) (Fr.refl _ _)
theorem smR15 (i : Nat) (v : S8) (x : UInt32) (a : Act) (w : World) (K : Exit → Act → World → Prop) (hs : Sz 77 a)
    (h44 : sl a 44 = .agg (u32s v.list).toArray) (h45 : sl a 45 = .int .i64 (i : Int)) (hi : i < 8) (hx : v.list[i]? = some x)
    (hK : ∀ a' w', Sz 77 a' → Kp [0, 2, 3, 4, 5, 6, 26, 44, 45] a a' → sl a' 7 = .int .i64 (i : Int) → sl a' 8 = .int .u32 (x.toNat : Int) → Fr noB w w' → K .normal a' w') :
    (regionOf Tryz.f127 15).wp Tryz.prog K a w := by
  unfold Kp at hK; rw [smFr_of hs]; clear hs; generalize sl a = u at *; clear a; have HK := Lib.hid hK; clear hK; conv => arg 2; whnf
  have hxx := u32s_get v.list i x hx
  have hrun := run_index_arr w _ i _ hi hxx
  generalize u32s v.list = vl at *
  simp only [smFr, h44, h45]
  go_wp2_with fail
  exact HK.out _ _  ⟨rfl, rfl⟩ (Kc rfl (Kc rfl (Kc rfl (Kc rfl (Kc rfl (Kc rfl (Kc rfl (Kc h44.symm (Kc h45.symm (Kn _ _)))))))))) (rfl) (rfl) (Fr.refl _ _)
theorem smR17 (i : Nat) (a : Act) (w : World) (K : Exit → Act → World → Prop) (hs : Sz 77 a)
    (h45 : sl a 45 = .int .i64 (i : Int)) (hi : i ≤ 8)
    (hK : ∀ a' w', Sz 77 a' → Kp [0, 2, 3, 4, 5, 6, 7, 8, 26, 44] a a' → sl a' 45 = .int .i64 ((i + 1 : Nat) : Int) → Fr noB w w' → K .normal a' w') :
    (regionOf Tryz.f127 17).wp Tryz.prog K a w := by
  unfold Kp at hK; rw [smFr_of hs]; clear hs; generalize sl a = u at *; clear a; have HK := Lib.hid hK; clear hK; conv => arg 2; whnf
  simp only [smFr, h45]
  clear h45
  go_wp2_with fail
  exact HK.out _ _  ⟨rfl, rfl⟩ (Kc rfl (Kc rfl (Kc rfl (Kc rfl (Kc rfl (Kc rfl (Kc rfl (Kc rfl (Kc rfl (Kc rfl (Kn _ _))))))))))) (by simp only [sl]; rfl) (Fr.refl _ _)
theorem smR16 (i j0 j1 j2 j3 gd : Nat) (x : UInt32) (b0 b1 b2 b3 : UInt8) (z0 z1 z2 z3 : Value) (a : Act) (w : World) (K : Exit → Act → World → Prop) (hs : Sz 77 a)
    (h6 : sl a 6 = .pointer (some ⟨gd, 0, none⟩)) (h7 : sl a 7 = .int .i64 (i : Int)) (h8 : sl a 8 = .int .u32 (x.toNat : Int)) (hi : i < 8) (hj0 : j0 = 4 * i) (hj1 : j1 = 4 * i + 1) (hj2 : j2 = 4 * i + 2) (hj3 : j3 = 4 * i + 3) (hb3 : (x.toNat : Int) / 16777216 = (b3.toNat : Int)) (hb2 : (x.toNat : Int) / 65536 % 256 = (b2.toNat : Int)) (hb1 : (x.toNat : Int) / 256 % 256 = (b1.toNat : Int)) (hb0 : (x.toNat : Int) % 256 = (b0.toNat : Int)) (c0 : w.cell? ⟨gd, j0, none⟩ = some (z0)) (f0 : w.frozen? ⟨gd, j0, none⟩ = false) (c1 : (w.setCell ⟨gd, j0, none⟩ (.int .u8 (b3.toNat : Int))).cell? ⟨gd, j1, none⟩ = some z1) (f1 : (w.setCell ⟨gd, j0, none⟩ (.int .u8 (b3.toNat : Int))).frozen? ⟨gd, j1, none⟩ = false) (c2 : ((w.setCell ⟨gd, j0, none⟩ (.int .u8 (b3.toNat : Int))).setCell ⟨gd, j1, none⟩ (.int .u8 (b2.toNat : Int))).cell? ⟨gd, j2, none⟩ = some z2) (f2 : ((w.setCell ⟨gd, j0, none⟩ (.int .u8 (b3.toNat : Int))).setCell ⟨gd, j1, none⟩ (.int .u8 (b2.toNat : Int))).frozen? ⟨gd, j2, none⟩ = false) (c3 : (((w.setCell ⟨gd, j0, none⟩ (.int .u8 (b3.toNat : Int))).setCell ⟨gd, j1, none⟩ (.int .u8 (b2.toNat : Int))).setCell ⟨gd, j2, none⟩ (.int .u8 (b1.toNat : Int))).cell? ⟨gd, j3, none⟩ = some z3) (f3 : (((w.setCell ⟨gd, j0, none⟩ (.int .u8 (b3.toNat : Int))).setCell ⟨gd, j1, none⟩ (.int .u8 (b2.toNat : Int))).setCell ⟨gd, j2, none⟩ (.int .u8 (b1.toNat : Int))).frozen? ⟨gd, j3, none⟩ = false)
    (hK : ∀ a' w', Sz 77 a' → Kp [0, 2, 3, 4, 5, 6, 7, 8, 26, 44, 45] a a' → w' = (((w.setCell ⟨gd, j0, none⟩ (.int .u8 (b3.toNat : Int))).setCell ⟨gd, j1, none⟩ (.int .u8 (b2.toNat : Int))).setCell ⟨gd, j2, none⟩ (.int .u8 (b1.toNat : Int))).setCell ⟨gd, j3, none⟩ (.int .u8 (b0.toNat : Int)) → K .normal a' w') :
    (regionOf Tryz.f127 16).wp Tryz.prog K a w := by
  unfold Kp at hK; rw [smFr_of hs]; clear hs; generalize sl a = u at *; clear a; have HK := Lib.hid hK; clear hK; conv => arg 2; whnf
  have q0 : 4 * (i : Int) = (j0 : Int) := by omega
  have q1 : (j0 : Int) + 1 = (j1 : Int) := by omega
  have q2 : (j0 : Int) + 2 = (j2 : Int) := by omega
  have q3 : (j0 : Int) + 3 = (j3 : Int) := by omega
  have l0 : j0 < 32 := by omega
  have l1 : j1 < 32 := by omega
  have l2 : j2 < 32 := by omega
  have l3 : j3 < 32 := by omega
  have hxl : (x.toNat : Int) ≤ 4294967295 := by have := x.toNat_lt; omega
  clear hj0 hj1 hj2 hj3
  simp only [smFr, h6, h7, h8]
  go_wp2_with fail
  exact HK.out _ _  ⟨rfl, rfl⟩ (Kc rfl (Kc rfl (Kc rfl (Kc rfl (Kc rfl (Kc h6.symm (Kc h7.symm (Kc h8.symm (Kc rfl (Kc rfl (Kc rfl (Kn _ _))))))))))))  rfl
theorem smR18 (gd gr : Nat) (B : List UInt8) (cs : Array Value) (a : Act) (w : World) (K : Exit → Act → World → Prop) (hs : Sz 77 a)
    (h2 : sl a 2 = .pointer (some ⟨gr, 0, none⟩)) (h6 : sl a 6 = .pointer (some ⟨gd, 0, none⟩)) (hB : Bk w gd 143 (u8s B).toArray) (hl : B.length = 32) (hr : Bk w gr 143 cs) (hcs : cs.size = 32)
    (hK : ∀ a' w', Sz 77 a' → Kp [0, 2, 3, 4, 5, 6, 7, 8, 26, 44, 45] a a' → Bk w' gr 143 (u8s B).toArray → Fr (oneB gr) w w' → K .normal a' w') :
    (regionOf Tryz.f127 18).wp Tryz.prog K a w := by
  unfold Kp at hK; rw [smFr_of hs]; clear hs; generalize sl a = u at *; clear a; have HK := Lib.hid hK; clear hK; conv => arg 2; whnf
  have hsz : (Tryz.prog.info? 143).map (·.size) = some 32 := by kernel_rfl
  have h32 : ((u8s B).toArray).size = 32 := by simp [u8s, hl]
  have hone : ((u8s B).toArray).all (·.oneCell') = true := by rw [Array.all_eq_true]; intro k hk; exact u8s_one B _ (by simp)
  generalize (u8s B).toArray = cb at *
  simp only [smFr, h2, h6]
  go_wp2_with (first
    | (refine wpList_load_row rfl 143 (.tmp 6) rfl gd rfl _ cb _ _ hB Tryz.underlying143 rfl (by rw [hsz, h32]) ?_)
    | (refine wpList_store_bk rfl 143 (.tmp 2) (.tmp 76) rfl gr _ _ cb rfl rfl hr (by rw [h32, hcs]) (by rw [hsz, h32]) hone ?_; intro w9 hx9 hf9))
  exact HK.out _ _  ⟨rfl, rfl⟩ (Kc rfl (Kc h2.symm (Kc rfl (Kc rfl (Kc rfl (Kc h6.symm (Kc rfl (Kc rfl (Kc rfl (Kc rfl (Kc rfl (Kn _ _))))))))))))  hx9 hf9
end Go.Proofs.YtcbkaiakdhiloacGreatDoor
namespace Go.Proofs.YtcbkaiakdhiloacGreatDoor
open Go.RowKit Go.Proofs
noncomputable abbrev fSm : Func := Tryz.f127
theorem HSt.keep {S : Nat → Prop} {w w' : World} {p : Nat} {X : Nat → Prop} {t : List UInt8} (h : HSt w p X t) (hf : Fr S w w') (hp : ¬ S p) (hS : ∀ q, X q → ¬ S q) : HSt w' p X t := by
  obtain ⟨h1, r, h2, h3⟩ := h
  exact ⟨h1, r, h2.keep hf hp, h3.keep hf hS⟩
theorem ownS_no {p : Nat} {X : Nat → Prop} {g : Nat} (h1 : g ≠ p) (h2 : ¬ X g) : ¬ ownS p X g := fun h => h.elim h1 h2
theorem feed_len (t : List UInt8) : (feed h0 t).2.length = t.length % 64 := by rw [feed_rest, List.length_drop]; omega
theorem smPad (s0 : List UInt8) (hlen : s0.length ≤ 100000000100) (p : Nat) (X : Nat → Prop) (a : Act) (w : World) (K : Exit → Act → World → Prop) (hs : Sz 77 a)
    (e0 : sl a 0 = .pointer (some ⟨p, 0, none⟩)) (hS : HSt w p X s0) (hX : ∀ q, w.heap.size ≤ q → X q) (hRk : RU w 5 kTab) (hgb : ¬ X 5) (hkp : 5 ≠ p)
    (hK : ∀ a' w', Sz 77 a' → Kp [0, 2, 3] a a' → HSt w' p X (s0 ++ List.replicate ((120 - s0.length % 64) % 64) 0) → Fr (ownS p X) w w' → K .normal a' w') :
    (blockOf fSm 0).wp Tryz.prog K a w := by
  have HK := Lib.hid hK
  clear hK
  conv => arg 2; whnf
  refine wp_block ?_
  refine wp_loop_sz 77 (fun a' w' => ∃ j, HSt w' p X (s0 ++ List.replicate j 0) ∧ (∀ i, i < j → (s0.length + i) % 64 ≠ 56) ∧ Kp [0, 2, 3] a a' ∧ Fr (ownS p X) w w')
    (fun _ w' => match w'.cell? ⟨p, 8, none⟩ with
      | some (.slice _ k _) => (120 - k) % 64
      | _ => 0) hs ⟨0, by simpa using hS, fun i hi => by omega, Kp.refl _ _, Fr.refl _ _⟩ ?_
  rintro a1 w1 hs1 ⟨j, hS1, hmin, k1, hf⟩
  have hj63 : j ≤ 63 := by
    rcases Nat.lt_or_ge ((120 - s0.length % 64) % 64) j with h | h
    · exact absurd (by omega) (hmin _ h)
    · omega
  have hpX := hS1.1
  obtain ⟨-, r, hSt, hO⟩ := id hS1
  obtain ⟨A, c, rfl⟩ := hO.slice
  have hlt : (s0 ++ List.replicate j (0 : UInt8)).length = s0.length + j := by simp
  have hmu : (match w1.cell? ⟨p, 8, none⟩ with
      | some (.slice _ k _) => (120 - k) % 64
      | _ => 0) = (120 - (s0.length + j) % 64) % 64 := by rw [hSt.rest]; show (120 - (feed h0 (s0 ++ List.replicate j 0)).2.length) % 64 = _; rw [feed_len, hlt]
  refine wp_seq (wp_seq ?_)
  refine smR3 p _ c A a1 w1 _ hs1 ((k1 0 (by decide)).trans e0) hSt.rest ?_
  intro a2 w2 hs2 k2 o22 f2
  rw [feed_len, hlt] at o22
  have hS2 := hS1.keep f2 id fun _ _ h => h
  have hf2 := hf.none f2
  have k2a : Kp [0, 2, 3] a a2 := fun x hx => (k2 x (by revert hx; revert x; decide)).trans (k1 x hx)
  refine wp_if o22 (fun hb => ?_) (fun hb => ?_)
  · have h56 : (s0.length + j) % 64 ≠ 56 := of_decide_eq_true hb
    refine wp_skip ?_
    refine wp_block ?_
    refine smR4 p X _ a2 w2 _ hs2 ((k2a 0 (by decide)).trans e0) hS2 (fun q hq => hX q (Nat.le_trans hf2.size hq)) (by rw [hlt]; omega) (hRk.keep hf2 (ownS_no hkp hgb)) hgb hkp ?_
    intro a3 w3 hs3 k3 hS3 f3
    have e3 : s0 ++ List.replicate j 0 ++ [0] = s0 ++ List.replicate (j + 1) (0 : UInt8) := by rw [List.append_assoc, List.replicate_succ']
    rw [e3] at hS3
    refine ⟨hs3, ⟨j + 1, hS3, ?_, fun x hx => (k3 x (by revert hx; revert x; decide)).trans (k2a x hx), hf2.trans f3⟩, ?_⟩
    · intro i hi
      rcases Nat.lt_or_ge i j with h | h
      · exact hmin i h
      · obtain rfl : i = j := by omega
        exact h56
    · rw [hmu]
      obtain ⟨-, r3, hSt3, hO3⟩ := hS3
      obtain ⟨A3, c3, rfl⟩ := hO3.slice
      rw [hSt3.rest]
      show (120 - (feed h0 (s0 ++ List.replicate (j + 1) 0)).2.length) % 64 < _
      rw [feed_len, show (s0 ++ List.replicate (j + 1) (0 : UInt8)).length = s0.length + (j + 1) by simp]
      omega
  · have h56 : (s0.length + j) % 64 = 56 := by
      rcases Nat.decEq ((s0.length + j) % 64) 56 with h | h
      · exact absurd (of_decide_eq_false hb) (by simpa using h)
      · exact h
    refine wp_exit (then_exit (then_exit (inBlock_self ?_)))
    rw [pad_zero s0 j (by rw [hlt]; exact h56) hmin] at hS2
    exact HK.out a2 w2 hs2 k2a hS2 hf2
def nb8 (N i : Nat) : List UInt8 := (big 8 N).take i ++ List.replicate (8 - i) 0
theorem nb8_step (N : Nat) : ∀ i, i < 8 → ∃ z, (nb8 N i)[i]? = some z ∧ (nb8 N i).set i (UInt8.ofNat (N / 256 ^ (7 - i))) = nb8 N (i + 1) := by
  intro i hi
  have e : big 8 N = [UInt8.ofNat (N / 256 ^ 7), UInt8.ofNat (N / 256 ^ 6), UInt8.ofNat (N / 256 ^ 5), UInt8.ofNat (N / 256 ^ 4), UInt8.ofNat (N / 256 ^ 3), UInt8.ofNat (N / 256 ^ 2), UInt8.ofNat (N / 256 ^ 1), UInt8.ofNat (N / 256 ^ 0)] := by
    simp only [big, Nat.div_div_eq_div_mul, List.nil_append, List.cons_append, List.append_assoc]; simp
  unfold nb8
  rw [e]
  match i, hi with
  | 0, _ => exact ⟨_, rfl, rfl⟩
  | 1, _ => exact ⟨_, rfl, rfl⟩
  | 2, _ => exact ⟨_, rfl, rfl⟩
  | 3, _ => exact ⟨_, rfl, rfl⟩
  | 4, _ => exact ⟨_, rfl, rfl⟩
  | 5, _ => exact ⟨_, rfl, rfl⟩
  | 6, _ => exact ⟨_, rfl, rfl⟩
  | 7, _ => exact ⟨_, rfl, rfl⟩
theorem nb8_all (N : Nat) : nb8 N 8 = big 8 N := by
  unfold nb8; rw [List.take_of_length_le (by rw [big_length]; omega)]; simp
def YB (w : World) (g : Nat) (t : TypeId) (l : List UInt8) : Prop := Bk w g t (u8s l).toArray
theorem YB.get {w : World} {g : Nat} {t : TypeId} {l : List UInt8} (h : YB w g t l) (k : Nat) (x : UInt8) (hx : l[k]? = some x) : w.cell? ⟨g, k, none⟩ = some (.int .u8 (x.toNat : Int)) := by
  have h1 := Bk.cell h k
  rw [h1]; simp [u8s, hx, u8v]
theorem YB.free {w : World} {g : Nat} {t : TypeId} {l : List UInt8} (h : YB w g t l) (k : Nat) : w.frozen? ⟨g, k, none⟩ = false := Bk.free h k
theorem YB.set {w : World} {g : Nat} {t : TypeId} {l : List UInt8} (h : YB w g t l) (k : Nat) (x : UInt8) : YB (w.setCell ⟨g, k, none⟩ (.int .u8 (x.toNat : Int))) g t (l.set k x) := by
  have h1 := Bk.set h k (.int .u8 (x.toNat : Int))
  have e : ((u8s l).toArray).setIfInBounds k (.int .u8 (x.toNat : Int)) = (u8s (l.set k x)).toArray := by simp [u8s, List.map_set, u8v]
  rw [e] at h1; exact h1
theorem YB.keep {S : Nat → Prop} {w w' : World} {g : Nat} {t : TypeId} {l : List UInt8} (h : YB w g t l) (hf : Fr S w w') (hg : ¬ S g) : YB w' g t l := Bk.keep h hf hg
theorem smNum (N gl : Nat) (hN : N < 18446744073709551616) (a : Act) (w : World) (K : Exit → Act → World → Prop) (hs : Sz 77 a)
    (e3 : sl a 3 = .int .u64 (N : Int)) (e4 : sl a 4 = .pointer (some ⟨gl, 0, none⟩)) (e26 : sl a 26 = .int .i64 ((0 : Nat) : Int)) (hB : YB w gl 253 (nb8 N 0))
    (hK : ∀ a' w', Sz 77 a' → Kp [0, 2, 4] a a' → YB w' gl 253 (big 8 N) → Fr (oneB gl) w w' → K .normal a' w') :
    (blockOf fSm 2).wp Tryz.prog K a w := by
  have HK := Lib.hid hK
  clear hK
  conv => arg 2; whnf
  refine wp_block ?_
  refine wp_loop_sz 77 (fun a' w' => ∃ i : Nat, i ≤ 8 ∧ sl a' 26 = .int .i64 (i : Int) ∧ Kp [0, 2, 3, 4] a a' ∧ YB w' gl 253 (nb8 N i) ∧ Fr (oneB gl) w w') (fun a' _ => 8 - (intOf (sl a' 26)).toNat)
    hs ⟨0, by omega, e26, Kp.refl _ _, hB, Fr.refl _ _⟩ ?_
  rintro a1 w1 hs1 ⟨i, hi, e26, k1, hB1, hf⟩
  refine wp_seq ?_
  refine smR7 i a1 w1 _ hs1 e26 hi ?_
  intro a2 w2 hs2 k2 o27 f2
  have k2a : Kp [0, 2, 3, 4] a a2 := fun x hx => (k2 x (by revert hx; revert x; decide)).trans (k1 x hx)
  have hB2 := hB1.keep f2 id
  have hf2 := hf.none f2
  refine wp_seq ?_
  refine wp_if o27 (fun hb => ?_) (fun hb => ?_)
  · have hlt : i < 8 := of_decide_eq_true hb
    obtain ⟨z, hz, hset⟩ := nb8_step N i hlt
    refine wp_skip ?_
    refine wp_seq (wp_block (wp_seq ?_))
    refine smR8 i a2 w2 _ hs2 ((k2 26 (by decide)).trans e26) ?_
    intro a3 w3 hs3 k3 o5 f3
    have hB3 := hB2.keep f3 id
    have hf3 := hf2.none f3
    have k3a : Kp [0, 2, 3, 4] a a3 := fun x hx => (k3 x (by revert hx; revert x; decide)).trans (k2a x hx)
    refine smR9 i (7 - i) gl N _ a3 w3 _ hs3 ((k3a 3 (by decide)).trans e3) ((k3a 4 (by decide)).trans e4) o5 hlt (by omega) hN (hB3.get i z hz) (hB3.free i) ?_
    intro a4 w4 hs4 k4 hw4
    subst hw4
    have hB4 := hB3.set i (UInt8.ofNat (N / 256 ^ (7 - i)))
    rw [hset] at hB4
    have hf4 := hf3.setCell (p := ⟨gl, i, none⟩) (fun _ => rfl) (.int .u8 ((UInt8.ofNat (N / 256 ^ (7 - i))).toNat : Int))
    refine smR10 i a4 _ _ hs4 ((k4 26 (by decide)).trans ((k3 26 (by decide)).trans ((k2 26 (by decide)).trans e26))) hi ?_
    intro a5 w5 hs5 k5 o26 f5
    refine ⟨hs5, ⟨i + 1, by omega, o26, fun x hx => (k5 x (by revert hx; revert x; decide)).trans ((k4 x (by revert hx; revert x; decide)).trans (k3a x hx)), hB4.keep f5 id, hf4.none f5⟩, ?_⟩
    rw [o26, e26]; simp only [intOf]; omega
  · have : i = 8 := by have := of_decide_eq_false hb; omega
    subst this
    refine wp_exit (then_exit (then_exit (inBlock_self ?_)))
    rw [nb8_all] at hB2
    exact HK.out a2 w2 hs2 (fun x hx => k2a x (by revert hx; revert x; decide)) hB2 hf2
def dg (v : S8) (i : Nat) : List UInt8 := (out8 v).take (4 * i) ++ List.replicate (32 - 4 * i) 0
theorem out8_length (v : S8) : (out8 v).length = 32 := rfl
theorem dg_all (v : S8) : dg v 8 = out8 v := by unfold dg; rw [List.take_of_length_le (by rw [out8_length]; omega)]; simp
theorem dg_length (v : S8) (i : Nat) (h : i ≤ 8) : (dg v i).length = 32 := by unfold dg; rw [List.length_append, List.length_take, out8_length, List.length_replicate]; omega
theorem big4 (x : Nat) : big 4 x = [UInt8.ofNat (x / 256 / 256 / 256), UInt8.ofNat (x / 256 / 256), UInt8.ofNat (x / 256), UInt8.ofNat x] := by simp [big]
theorem dg_step (v : S8) : ∀ i, i < 8 → ∀ x, v.list[i]? = some x → (((((dg v i).set (4 * i) (UInt8.ofNat (x.toNat / 256 / 256 / 256))).set (4 * i + 1) (UInt8.ofNat (x.toNat / 256 / 256))).set (4 * i + 2) (UInt8.ofNat (x.toNat / 256))).set (4 * i + 3) (UInt8.ofNat x.toNat)) = dg v (i + 1) := by
  intro i hi x hx
  have e : out8 v = big 4 v.a.toNat ++ (big 4 v.b.toNat ++ (big 4 v.c.toNat ++ (big 4 v.d.toNat ++ (big 4 v.e.toNat ++ (big 4 v.f.toNat ++ (big 4 v.g.toNat ++ big 4 v.h.toNat)))))) := by
    simp [out8, S8.list]
  unfold dg
  rw [e]
  simp only [big4, List.cons_append, List.nil_append]
  match i, hi with
  | 0, _ => injection hx with hx; subst hx; rfl
  | 1, _ => injection hx with hx; subst hx; rfl
  | 2, _ => injection hx with hx; subst hx; rfl
  | 3, _ => injection hx with hx; subst hx; rfl
  | 4, _ => injection hx with hx; subst hx; rfl
  | 5, _ => injection hx with hx; subst hx; rfl
  | 6, _ => injection hx with hx; subst hx; rfl
  | 7, _ => injection hx with hx; subst hx; rfl
end Go.Proofs.YtcbkaiakdhiloacGreatDoor
namespace Go.Proofs.YtcbkaiakdhiloacGreatDoor
open Go.RowKit Go.Proofs
theorem smOut (v : S8) (gd : Nat) (a : Act) (w : World) (K : Exit → Act → World → Prop) (hs : Sz 77 a)
    (e6 : sl a 6 = .pointer (some ⟨gd, 0, none⟩)) (e44 : sl a 44 = .agg (u32s v.list).toArray) (e45 : sl a 45 = .int .i64 ((0 : Nat) : Int)) (hB : YB w gd 143 (dg v 0))
    (hK : ∀ a' w', Sz 77 a' → Kp [2, 6] a a' → YB w' gd 143 (out8 v) → Fr (oneB gd) w w' → K .normal a' w') :
    (blockOf fSm 4).wp Tryz.prog K a w := by
  have HK := Lib.hid hK
  clear hK
  conv => arg 2; whnf
  refine wp_block ?_
  refine wp_loop_sz 77 (fun a' w' => ∃ i : Nat, i ≤ 8 ∧ sl a' 45 = .int .i64 (i : Int) ∧ Kp [2, 6, 44] a a' ∧ YB w' gd 143 (dg v i) ∧ Fr (oneB gd) w w') (fun a' _ => 8 - (intOf (sl a' 45)).toNat)
    hs ⟨0, by omega, e45, Kp.refl _ _, hB, Fr.refl _ _⟩ ?_
  rintro a1 w1 hs1 ⟨i, hi, e45, k1, hB1, hf⟩
  refine wp_seq ?_
  refine smR14 i a1 w1 _ hs1 e45 hi ?_
  intro a2 w2 hs2 k2 o46 f2
  have k2a : Kp [2, 6, 44] a a2 := fun x hx => (k2 x (by revert hx; revert x; decide)).trans (k1 x hx)
  have hB2 := hB1.keep f2 id
  have hf2 := hf.none f2
  refine wp_seq ?_
  refine wp_if o46 (fun hb => ?_) (fun hb => ?_)
  · have hlt : i < 8 := of_decide_eq_true hb
    obtain ⟨x, hx⟩ : ∃ x, v.list[i]? = some x := ⟨_, List.getElem?_eq_getElem (by rw [S8.list_length]; exact hlt)⟩
    refine wp_skip ?_
    refine wp_seq (wp_block (wp_seq ?_))
    refine smR15 i v x a2 w2 _ hs2 ((k2a 44 (by decide)).trans e44) ((k2 45 (by decide)).trans e45) hlt hx ?_
    intro a3 w3 hs3 k3 o7 o8 f3
    have hB3 := hB2.keep f3 id
    have hf3 := hf2.none f3
    have k3a : Kp [2, 6, 44] a a3 := fun x hx => (k3 x (by revert hx; revert x; decide)).trans (k2a x hx)
    have hdl := dg_length v i hi
    have hset := dg_step v i hlt x hx
    have hxl := x.toNat_lt
    obtain ⟨b3, h3⟩ : ∃ b, b = UInt8.ofNat (x.toNat / 256 / 256 / 256) := ⟨_, rfl⟩
    obtain ⟨b2, h2⟩ : ∃ b, b = UInt8.ofNat (x.toNat / 256 / 256) := ⟨_, rfl⟩
    obtain ⟨b1, h1⟩ : ∃ b, b = UInt8.ofNat (x.toNat / 256) := ⟨_, rfl⟩
    obtain ⟨b0, hb0⟩ : ∃ b, b = UInt8.ofNat x.toNat := ⟨_, rfl⟩
    have q3 : (x.toNat : Int) / 16777216 = (b3.toNat : Int) := by rw [h3, UInt8.toNat_ofNat']; omega
    have q2 : (x.toNat : Int) / 65536 % 256 = (b2.toNat : Int) := by rw [h2, UInt8.toNat_ofNat']; omega
    have q1 : (x.toNat : Int) / 256 % 256 = (b1.toNat : Int) := by rw [h1, UInt8.toNat_ofNat']; omega
    have q0 : (x.toNat : Int) % 256 = (b0.toNat : Int) := by rw [hb0, UInt8.toNat_ofNat']; omega
    rw [← h3, ← h2, ← h1, ← hb0] at hset
    have y0 := hB3.set (4 * i) b3
    have y1 := y0.set (4 * i + 1) b2
    have y2 := y1.set (4 * i + 2) b1
    have y3 := y2.set (4 * i + 3) b0
    rw [hset] at y3
    have hat : ∀ (l : List UInt8) (k : Nat), k < l.length → ∃ z, l[k]? = some z := fun l k h => ⟨_, List.getElem?_eq_getElem h⟩
    obtain ⟨z0, hz0⟩ := hat (dg v i) (4 * i) (by omega)
    obtain ⟨z1, hz1⟩ := hat ((dg v i).set (4 * i) b3) (4 * i + 1) (by rw [List.length_set]; omega)
    obtain ⟨z2, hz2⟩ := hat (((dg v i).set (4 * i) b3).set (4 * i + 1) b2) (4 * i + 2) (by rw [List.length_set, List.length_set]; omega)
    obtain ⟨z3, hz3⟩ := hat ((((dg v i).set (4 * i) b3).set (4 * i + 1) b2).set (4 * i + 2) b1) (4 * i + 3) (by rw [List.length_set, List.length_set, List.length_set]; omega)
    refine smR16 i _ _ _ _ gd x b0 b1 b2 b3 _ _ _ _ a3 w3 _ hs3 ((k3a 6 (by decide)).trans e6) o7 o8 hlt rfl rfl rfl rfl q3 q2 q1 q0
      (hB3.get _ _ hz0) (hB3.free _) (y0.get _ _ hz1) (y0.free _) (y1.get _ _ hz2) (y1.free _) (y2.get _ _ hz3) (y2.free _) ?_
    intro a4 w4 hs4 k4 hw4
    have hf4 : Fr (oneB gd) w w4 := by
      rw [hw4]
      exact (((hf3.setCell (p := ⟨gd, 4 * i, none⟩) (fun _ => rfl) _).setCell (p := ⟨gd, 4 * i + 1, none⟩) (fun _ => rfl) _).setCell (p := ⟨gd, 4 * i + 2, none⟩) (fun _ => rfl) _).setCell (p := ⟨gd, 4 * i + 3, none⟩) (fun _ => rfl) _
    rw [← hw4] at y3
    refine smR17 i a4 _ _ hs4 ((k4 45 (by decide)).trans ((k3 45 (by decide)).trans ((k2 45 (by decide)).trans e45))) hi ?_
    intro a5 w5 hs5 k5 o45 f5
    refine ⟨hs5, ⟨i + 1, by omega, o45, fun x hx => (k5 x (by revert hx; revert x; decide)).trans ((k4 x (by revert hx; revert x; decide)).trans (k3a x hx)), y3.keep f5 id, hf4.none f5⟩, ?_⟩
    rw [o45, e45]; simp only [intOf]; omega
  · have : i = 8 := by have := of_decide_eq_false hb; omega
    subst this
    refine wp_exit (then_exit (then_exit (inBlock_self ?_)))
    rw [dg_all] at hB2
    exact HK.out a2 w2 hs2 (fun x hx => k2a x (by revert hx; revert x; decide)) hB2 hf2
theorem hashSumM (pre : List UInt8) (hlen : pre.length ≤ 100000000000) (p : Nat) (X : Nat → Prop) (w : World) (hS : HSt w p X pre) (hX : ∀ q, w.heap.size ≤ q → X q)
    (hRk : RU w 5 kTab) (hgb : ¬ X 5) (hkp : 5 ≠ p) :
    Calls Tryz.prog 127 #[.pointer (some ⟨p, 0, none⟩)] w
      (fun e w' => e = .returned (.agg (u8s (sha pre)).toArray) ∧ Fr (ownS p X) w w') := by
  have hpX := hS.1
  have hpl : p < w.heap.size := by obtain ⟨-, r, h, -⟩ := hS; exact Bk.lt h
  have hkl := hRk.1
  go_enter Tryz.func127, Tryz.ntmps127
  refine wp_seq ?_
  refine smR0 _ w _ ⟨rfl, rfl⟩ ?_
  intro a1 w1 hs1 k1 o2 hw1
  subst hw1
  have hf1 : Fr noB w (w.alloc (.cells (u8s (List.replicate 32 0)).toArray 143)) := (Fr.refl _ _).alloc _
  have hR1 : YB (w.alloc (.cells (u8s (List.replicate 32 0)).toArray 143)) w.heap.size 143 (List.replicate 32 0) := Bk.new w _ _
  generalize w.alloc (.cells (u8s (List.replicate 32 0)).toArray 143) = w1 at *
  have e0 : sl a1 0 = .pointer (some ⟨p, 0, none⟩) := (k1 0 (by decide)).trans rfl
  generalize hgr : w.heap.size = gr at *
  have hgrl : gr < w1.heap.size := Bk.lt hR1
  -- X without the result's block
  obtain ⟨Y, hY⟩ : ∃ Y : Nat → Prop, ∀ q, Y q ↔ (X q ∧ q ≠ gr) := ⟨_, fun _ => Iff.rfl⟩
  have hYp : ¬ Y p := fun h => hpX ((hY p).1 h).1
  have hYk : ¬ Y 5 := fun h => hgb ((hY _).1 h).1
  have hYr : ¬ Y gr := fun h => ((hY gr).1 h).2 rfl
  have hYX : ∀ q, w1.heap.size ≤ q → Y q := fun q hq => (hY q).2 ⟨hX q (by omega), by omega⟩
  have hYs : ∀ q, ownS p Y q → ownS p X q := fun q h => h.elim .inl fun h => .inr ((hY q).1 h).1
  have hS1 : HSt w1 p Y pre := by
    obtain ⟨-, r, h1, h2⟩ := hS
    exact ⟨hYp, r, h1.keep hf1 id, (h2.lower fun q hq hx => (hY q).2 ⟨hx, by omega⟩).keep hf1 fun _ _ h => h⟩
  have hgp : gr ≠ p := by omega
  refine wp_seq ?_
  obtain ⟨-, r1, hSt1, -⟩ := id hS1
  refine smR1 p pre.length a1 w1 _ hs1 e0 (by omega) hSt1.num ?_
  intro a2 w2 hs2 k2 o3 f2
  have hf2 : Fr (ownS p X) w w2 := (hf1.trans f2).of_no _
  have hS2 := hS1.keep f2 id fun _ _ h => h
  have hR2 := hR1.keep f2 id
  have hsz2 := f2.size
  refine wp_seq ?_
  refine smR2 p Y pre a2 w2 _ hs2 ((k2 0 (by decide)).trans e0) hS2 (fun q hq => hYX q (Nat.le_trans hsz2 hq)) (by omega) ((hRk.keep hf1 id).keep f2 id) hYk hkp ?_
  intro a3 w3 hs3 k3 hS3 f3
  have hf3 : Fr (ownS p X) w w3 := hf2.trans' f3 fun b _ h => hYs b h
  have hR3 := hR2.keep f3 (ownS_no hgp hYr)
  have hRk3 : RU w3 5 kTab := hRk.keep hf3 (ownS_no hkp hgb)
  have k3a : Kp [0, 2, 3] a2 a3 := fun x hx => k3 x (by revert hx; revert x; decide)
  have hpl3 : (pre ++ [128]).length = pre.length + 1 := by simp
  refine wp_seq ?_
  refine smPad (pre ++ [128]) (by omega) p Y a3 w3 _ hs3 ((k3a 0 (by decide)).trans ((k2 0 (by decide)).trans e0)) hS3 (fun q hq => hYX q (by have := f3.size; omega)) hRk3 hYk hkp ?_
  intro a4 w4 hs4 k4 hS4 f4
  have hpad : pre ++ [128] ++ List.replicate ((120 - (pre ++ [128]).length % 64) % 64) 0 = padTo pre := by rw [hpl3, padTo]; congr 2; omega
  rw [hpad] at hS4
  have hf4 : Fr (ownS p X) w w4 := hf3.trans' f4 fun b _ h => hYs b h
  have hR4 := hR3.keep f4 (ownS_no hgp hYr)
  have k4a : Kp [0, 2, 3] a2 a4 := fun x hx => (k4 x hx).trans (k3a x hx)
  have e3d : sl a4 3 = .int .u64 ((pre.length * 8 : Nat) : Int) := (k4a 3 (by decide)).trans o3
  have e2d : sl a4 2 = .pointer (some ⟨gr, 0, none⟩) := (k4a 2 (by decide)).trans ((k2 2 (by decide)).trans o2)
  have e0d : sl a4 0 = .pointer (some ⟨p, 0, none⟩) := (k4a 0 (by decide)).trans ((k2 0 (by decide)).trans e0)
  refine wp_seq ?_
  refine smR5 a4 w4 _ hs4 ?_
  intro a5 w5 hs5 k5 o4 hw5
  subst hw5
  have f5 : Fr noB w4 (w4.alloc (.cells (u8s (List.replicate 8 0)).toArray 253)) := (Fr.refl _ _).alloc _
  have hB5 : YB (w4.alloc (.cells (u8s (List.replicate 8 0)).toArray 253)) w4.heap.size 253 (nb8 (pre.length * 8) 0) := Bk.new w4 _ _
  generalize w4.alloc (.cells (u8s (List.replicate 8 0)).toArray 253) = w5 at *
  have hgl4 : gr < w4.heap.size := Bk.lt hR4
  have hpl4 : p < w4.heap.size := by obtain ⟨-, r, h, -⟩ := hS4; exact Bk.lt h
  generalize hgle : w4.heap.size = gl at *
  have hgl5 : gl < w5.heap.size := Bk.lt hB5
  -- Y without the eight bytes' block
  obtain ⟨Z, hZ⟩ : ∃ Z : Nat → Prop, ∀ q, Z q ↔ (Y q ∧ q ≠ gl) := ⟨_, fun _ => Iff.rfl⟩
  have hZp : ¬ Z p := fun h => hYp ((hZ p).1 h).1
  have hZk : ¬ Z 5 := fun h => hYk ((hZ _).1 h).1
  have hZr : ¬ Z gr := fun h => hYr ((hZ _).1 h).1
  have hZl : ¬ Z gl := fun h => ((hZ gl).1 h).2 rfl
  have hsz14 : w1.heap.size ≤ gl := by rw [← hgle]; exact Nat.le_trans (Nat.le_trans hsz2 f3.size) f4.size
  have hZX : ∀ q, w5.heap.size ≤ q → Z q := fun q hq => (hZ q).2 ⟨hYX q (by omega), by omega⟩
  have hZs : ∀ q, ownS p Z q → ownS p X q := fun q h => hYs q (h.elim .inl fun h => .inr ((hZ q).1 h).1)
  have hS5 : HSt w5 p Z (padTo pre) := by
    obtain ⟨-, r, h1, h2⟩ := hS4
    exact ⟨hZp, r, h1.keep f5 id, (h2.lower fun q hq hx => (hZ q).2 ⟨hx, by omega⟩).keep f5 fun _ _ h => h⟩
  have hf5 : Fr (ownS p X) w w5 := hf4.none f5
  have hR5 := hR4.keep f5 id
  refine wp_seq (wp_seq ?_)
  refine smR6 a5 w5 _ hs5 ?_
  intro a6 w6 hs6 k6 o26 f6
  refine smNum (pre.length * 8) gl (by omega) a6 w6 _ hs6 ((k6 3 (by decide)).trans ((k5 3 (by decide)).trans e3d)) ((k6 4 (by decide)).trans o4) o26 (hB5.keep f6 id) ?_
  intro a7 w7 hs7 k7 hB7 f7
  have hX5 : X gl := ((hY gl).1 (hYX gl hsz14)).1
  have hf7 : Fr (ownS p X) w w7 := (hf5.none f6).trans' f7 fun b _ h => by unfold oneB at h; subst h; exact .inr hX5
  have hS7 : HSt w7 p Z (padTo pre) := (hS5.keep f6 id fun _ _ h => h).keep f7 (by unfold oneB; omega) fun q hq h => by unfold oneB at h; subst h; exact hZl hq
  have hR7 := (hR5.keep f6 id).keep f7 (by unfold oneB; omega)
  have hRk7 : RU w7 5 kTab := hRk.keep hf7 (ownS_no hkp hgb)
  have k7a : Kp [0, 2] a4 a7 := fun x hx => (k7 x (by revert hx; revert x; decide)).trans ((k6 x (by revert hx; revert x; decide)).trans (k5 x (by revert hx; revert x; decide)))
  have hsz7 : w5.heap.size ≤ w7.heap.size := Nat.le_trans f6.size f7.size
  refine wp_seq ?_
  refine smR11 p gl Z (padTo pre) (big 8 (pre.length * 8)) a7 w7 _ hs7 ((k7a 0 (by decide)).trans e0d) ((k7 4 (by decide)).trans ((k6 4 (by decide)).trans o4)) hS7 hB7 (big_length _ _) (by omega) (fun q hq => hZX q (by omega))
    (by unfold padTo; simp; omega) hRk7 hZk hkp ?_
  intro a8 w8 hs8 k8 hS8 f8
  have hpd : padTo pre ++ big 8 (pre.length * 8) = padded64 pre := by rw [padded64, Nat.mul_comm]
  rw [hpd] at hS8
  have hf8 : Fr (ownS p X) w w8 := hf7.trans' f8 fun b _ h => hZs b h
  have hR8 := hR7.keep f8 (ownS_no hgp hZr)
  have k8a : Kp [0, 2] a4 a8 := fun x hx => (k8 x (by revert hx; revert x; decide)).trans (k7a x hx)
  obtain ⟨-, r8, hSt8, -⟩ := hS8
  refine wp_seq ?_
  refine smR12 a8 w8 _ hs8 ?_
  intro a9 w9 hs9 k9 o6 hw9
  subst hw9
  have f9 : Fr noB w8 (w8.alloc (.cells (u8s (List.replicate 32 0)).toArray 143)) := (Fr.refl _ _).alloc _
  have hD9 : YB (w8.alloc (.cells (u8s (List.replicate 32 0)).toArray 143)) w8.heap.size 143 (dg (feed h0 (padded64 pre)).1 0) := Bk.new w8 _ _
  generalize w8.alloc (.cells (u8s (List.replicate 32 0)).toArray 143) = w9 at *
  have hgr8 : gr < w8.heap.size := Bk.lt hR8
  have hw8 : w5.heap.size ≤ w8.heap.size := Nat.le_trans hsz7 f8.size
  have hfin : out8 (feed h0 (padded64 pre)).1 = sha pre := rfl
  have hSt9 := hSt8.keep f9 id
  generalize (feed h0 (padded64 pre)).1 = F at *
  generalize hgde : w8.heap.size = gd at *
  refine wp_seq (wp_seq ?_)
  refine smR13 p F a9 w9 _ hs9 ((k9 0 (by decide)).trans ((k8a 0 (by decide)).trans e0d)) hSt9.ru ?_
  intro a10 w10 hs10 k10 o44 o45 f10
  refine smOut F gd a10 w10 _ hs10 ((k10 6 (by decide)).trans o6) o44 o45 (hD9.keep f10 id) ?_
  intro a11 w11 hs11 k11 hD11 f11
  have hXd : X gd := hX gd (by omega)
  have hf11 : Fr (ownS p X) w w11 := ((hf8.none f9).none f10).trans' f11 fun b _ h => by unfold oneB at h; subst h; exact .inr hXd
  have hR11 := ((hR8.keep f9 id).keep f10 id).keep f11 (by unfold oneB; omega)
  have e2k : sl a11 2 = .pointer (some ⟨gr, 0, none⟩) := (k11 2 (by decide)).trans ((k10 2 (by decide)).trans ((k9 2 (by decide)).trans ((k8a 2 (by decide)).trans e2d)))
  refine wp_seq ?_
  refine smR18 gd gr (out8 F) _ a11 w11 _ hs11 e2k ((k11 6 (by decide)).trans ((k10 6 (by decide)).trans o6)) hD11 (out8_length F) hR11 rfl ?_
  intro a12 w12 hs12 k12 hR12 f12
  have hXr : X gr := hX gr (Nat.le_refl _)
  refine wp_ret ?_
  refine bodyPost_ret (results_cell_row Tryz.results127 a12.tmps w12 gr _ _ _ _ ((k12 2 (by decide)).trans e2k) hR12 Tryz.underlying143 rfl (by
    have hsz : (Tryz.prog.info? 143).map (·.size) = some 32 := by kernel_rfl
    rw [hsz]; simp [u8s, out8_length])) hs12.defers ?_
  rw [hfin]
  exact ⟨rfl, hf11.trans' f12 fun b _ h => by unfold oneB at h; subst h; exact .inr hXr⟩
end Go.Proofs.YtcbkaiakdhiloacGreatDoor
namespace Go.Proofs.YtcbkaiakdhiloacGreatDoor
open Go.RowKit Go.Proofs
attribute [local go_sem] bs_size bs_append bs_extract bs_toList
theorem bootPutL (L : Lay) (s : St) (f : List UInt8) (w : World) (h : BootAt w L s) :
    Calls Tryz.prog 16 #[.pointer (some ⟨L.p, 0, none⟩), .string (bs f)] w (LPost L (s.put f).1 (.bool (s.put f).2) w) := by
  have c13 := h.g13
  have hrp := ringPut L.rx L.rxs s.c.rx s.rx f w h.ok.rx0 (by have := h.ok.rx1; omega) h.rx
  have Hrp := Lib.hid hrp
  obtain ⟨i, cs, hrr, hrg, hrs, hri, hql, hne, hso⟩ := id h.rx
  have Hql := Lib.hid hql
  clear hrp hrr hrg hrs hri hne hso hql i cs
  go_enter Tryz.func16, Tryz.ntmps16
  go_wp2_with fail
  refine Hrp.out.mono ?_
  rintro e w2 ⟨rfl, hr2, hf2⟩
  have hB2 := h.rxTurn hf2 hr2
  have hq := Hql.out
  go_wp2_with fail
  go_ret
  refine ⟨?_, ?_, (hf2.mono fun b _ hb => by rcases hb with rfl | rfl; exact own_rx L; exact own_rxs L)⟩
  · unfold St.put
    by_cases hfu : s.rx.length = s.c.rx
    · rw [if_pos hfu, decide_eq_false (by omega)]; rfl
    · rw [if_neg hfu, decide_eq_true (by omega)]; rfl
  · unfold St.put
    by_cases hfu : s.rx.length = s.c.rx
    · rw [if_pos hfu]; rw [if_neg (by omega)] at hB2; exact hB2
    · rw [if_neg hfu]; rw [if_pos (by omega)] at hB2; exact hB2
theorem bootTakeL (L : Lay) (s : St) (w : World) (h : BootAt w L s) :
    Calls Tryz.prog 15 #[.pointer (some ⟨L.p, 0, none⟩)] w (LPost L s.take.1 (.tuple #[.string (bs (s.take.2.getD [])), .bool s.take.2.isSome]) w) := by
  have c14 := h.g14
  have hrp := ringTake L.tx L.txs s.c.tx s.tx w h.ok.tx0 (by have := h.ok.tx1; omega) h.tx
  have Hrp := Lib.hid hrp
  clear hrp
  go_enter Tryz.func15, Tryz.ntmps15
  go_wp2_with fail
  refine Hrp.out.mono ?_
  rintro e w2 ⟨rfl, hr2, hf2⟩
  have hB2 := h.txTurn hf2 hr2
  go_wp2_with fail
  go_ret2
  refine ⟨?_, ?_, (hf2.mono fun b _ hb => by rcases hb with rfl | rfl; exact own_tx L; exact own_txs L)⟩
  · unfold St.take; cases s.tx <;> rfl
  · unfold St.take
    cases hq : s.tx with
    | nil => rw [hq] at hB2; have e : s = { s with tx := [] } := by { cases s; simp only at hq; subst hq; rfl }
             show BootAt w2 L s
             rw [e]; exact hB2
    | cons f r => rw [hq] at hB2; exact hB2
theorem bootLookN (L : Lay) (s : St) (w : World) (h : BootAt w L s) :
    Calls Tryz.prog 14 #[.pointer (some ⟨L.p, 0, none⟩)] w fun e w' => e = .returned (.agg #[.int .i64 s.now, .int .i64 (s.lease : Int), .int .i64 (s.phase : Int), .int .u32 (s.address : Int), .int .i64 s.boots, .int .i64 (s.image.length : Int), .int .i64 s.lost, .int .i64 (s.cache.length : Int)]) ∧ Fr noB w w' := by
  obtain ⟨g, hg⟩ : ∃ g, w.heap.size = g := ⟨_, rfl⟩
  have hf1 : Fr noB w (w.alloc (.cells #[.int .i64 0, .int .i64 0, .int .i64 0, .int .u32 0, .int .i64 0, .int .i64 0, .int .i64 0, .int .i64 0] 40)) := (Fr.refl _ _).alloc _
  have hB1 := h.none hf1
  have hg1 := Bk.new w 40 #[.int .i64 0, .int .i64 0, .int .i64 0, .int .u32 0, .int .i64 0, .int .i64 0, .int .i64 0, .int .i64 0]
  rw [hg] at hg1
  have Hg := Lib.hid hg
  clear hg
  go_enter Tryz.func14, Tryz.ntmps14
  go_upto_region 1 with fail
  rw [Hg.out]
  generalize w.alloc (.cells #[.int .i64 0, .int .i64 0, .int .i64 0, .int .u32 0, .int .i64 0, .int .i64 0, .int .i64 0, .int .i64 0] 40) = w1 at *
  refine wp_region_pls (by kernel_rfl) (fun w' => BootAt w' L s ∧ Bk w' g 40 #[.int .i64 0, .int .i64 0, .int .i64 0, .int .u32 0, .int .i64 0, .int .i64 0, .int .i64 0, .int .i64 0] ∧ Fr noB w w') [35] (.p 0 (.p 1 (.p 2 (.p 4 (.p 5 (.p 6 (.p 7 (.p 9 (.p 10 (.p 11 (.p 12 (.p 14 (.p 16 (.p 17 (.p 18 (.p 20 (.p 21 (.p 22 (.p 23 (.p 26 (.p 27 (.p 28 (.p 30 (.p 31 (.p 32 (.q 3 (.q 8 (.q 13 (.q 19 (.q 24 (.p 25 (.q 29 (.e 15 (.e 33 (.p 34 (.e 35 (.nil))))))))))))))))))))))))))))))))))))) (by kernel_rfl) (⟨hB1.drew, hg1.drew, hf1.drew⟩) ?_
  intro ops Q' hO hQ' wr1 hR1
  iterate 25 (refine pl_p0 hO rfl rfl ?_ (fun w' => ?_) ?_; rotate_left 1; (focus (go_simp; ((try with_reducible rfl); done))); simp only [Act.put, List.setIfInBounds_toArray, List.set_cons_zero, List.set_cons_succ])
  iterate 5 (refine pl_q0 hO rfl rfl ?_ (fun w' hS => ?_) ?_; rotate_left 1; (focus (obtain ⟨hB, hG, hF⟩ := hS; have c16 := hB.g16; have c18 := hB.g18; have c19 := hB.g19; have c21 := hB.g21; have c33 := hB.g33; have c44 := hB.g44; go_simp; ((try with_reducible rfl); done))); simp only [Act.put, List.setIfInBounds_toArray, List.set_cons_zero, List.set_cons_succ])
  refine pl_p0 hO rfl rfl ?_ (fun w' => ?_) ?_; rotate_left 1; (focus (go_simp; ((try with_reducible rfl); done))); simp only [Act.put, List.setIfInBounds_toArray, List.set_cons_zero, List.set_cons_succ]
  refine pl_q0 hO rfl rfl ?_ (fun w' hS => ?_) ?_; rotate_left 1; (focus (obtain ⟨hB, hG, hF⟩ := hS; have c16 := hB.g16; have c18 := hB.g18; have c19 := hB.g19; have c21 := hB.g21; have c33 := hB.g33; have c44 := hB.g44; go_simp; ((try with_reducible rfl); done))); simp only [Act.put, List.setIfInBounds_toArray, List.set_cons_zero, List.set_cons_succ]
  refine pl_e0 hO rfl rfl rfl (fun K hK => ?_)
  go_simp
  refine (bootAddress L s _ hR1.1).mono ?_
  rintro e w2 ⟨rfl, h2⟩
  subst h2
  refine hK _ _ (hR1) (fun hR_15 => ?_)
  clear hK K
  refine pl_e0 hO rfl rfl rfl (fun K hK => ?_)
  go_simp
  refine (cacheLen L.p 15 L.mp s.cache _ hR_15.1.g15 hR_15.1.mp hR_15.1.ok.cache).mono ?_
  rintro e w3 ⟨rfl, f3⟩
  refine hK _ _ (⟨hR_15.1.none f3, hR_15.2.1.keep f3 (fun x => x), hR_15.2.2.none f3⟩) (fun hR_33 => ?_)
  clear hK K
  refine pl_p0 hO rfl rfl ?_ (fun w' => ?_) ?_; rotate_left 1; (focus (go_simp; ((try with_reducible rfl); done))); simp only [Act.put, List.setIfInBounds_toArray, List.set_cons_zero, List.set_cons_succ]
  refine pl_b0 hO rfl rfl rfl (fun K hK => ?_)
  refine wp_store_bk 40 (.tmp 2) (.tmp 37) rfl g _ _ #[.int .i64 s.now, .int .i64 (s.lease : Int), .int .i64 (s.phase : Int), .int .u32 (s.address : Int), .int .i64 s.boots, .int .i64 (s.image.length : Int), .int .i64 s.lost, .int .i64 (s.cache.length : Int)] rfl rfl hR_33.2.1 rfl (by kernel_rfl) (by kernel_rfl) ?_
  intro w9 hx9 hf9
  refine hK _ _ ?_
  clear hK K
  refine pl_nil (hQ' _ _ ?_)
  go_wp2_with fail
  refine bodyPost_ret (results_cell_row Tryz.results14 _ w9 g _ _ _ _ rfl hx9 Tryz.underlying40 rfl (by kernel_rfl)) rfl ?_
  have hF9 : Fr noB w w9 := hR_33.2.2.trans' hf9 (fun b hb e => by have e' : b = g := e; have := Hg.out; omega)
  exact ⟨rfl, hF9⟩
theorem bootLookL (L : Lay) (s : St) (w : World) (h : BootAt w L s) :
    Calls Tryz.prog 14 #[.pointer (some ⟨L.p, 0, none⟩)] w (LPost L s (.agg #[.int .i64 s.now, .int .i64 (s.lease : Int), .int .i64 (s.phase : Int), .int .u32 (s.address : Int), .int .i64 s.boots, .int .i64 (s.image.length : Int), .int .i64 s.lost, .int .i64 (s.cache.length : Int)]) w) := (bootLookN L s w h).mono fun e w' hp => ⟨hp.1, h.none hp.2, hp.2.of_no _⟩
end Go.Proofs.YtcbkaiakdhiloacGreatDoor
namespace Go.Proofs.YtcbkaiakdhiloacGreatDoor
open Go.RowKit Go.Proofs
def orB (p : Nat) (S : Nat → Prop) : Nat → Prop := fun k => k = p ∨ S k
def byPostW (S : Nat → Prop) (ok : Value → World → Prop) (bad : Int → Prop) (p : Nat) (w : World) (e : Ending) (w' : World) : Prop :=
  ((∃ x, ok x w' ∧ e = .returned x) ∨ (∃ er, bad er ∧ e = .panicked (faultC er))) ∧ Fr (orB p S) w w'
def readPostW (z : Value) (S : Nat → Prop) (ok : Value → World → Prop) (bad : Int → Prop) (w : World) (e : Ending) (w' : World) : Prop :=
  ((∃ x, ok x w' ∧ e = .returned (.tuple #[x, .int .i64 0])) ∨ (∃ er, bad er ∧ e = .returned (.tuple #[z, .int .i64 er]))) ∧ Fr S w w'
theorem results_int_int {P : Program} {fn : Func} {p q : Tmp} {ty te : TypeId} (h : fn.results = #[.cell p ty, .cell q te]) (tmps : Array Value) (w : World) (g ge : Nat) (t t2 : TypeId) (m n : Int) (k0 k : IntKind)
    (hp : tmps.getD p undef = .pointer (some ⟨g, 0, none⟩)) (hq : tmps.getD q undef = .pointer (some ⟨ge, 0, none⟩)) (hg : Bk w g t #[.int k0 m]) (he : Bk w ge t2 #[.int .i64 n])
    (hu : P.underlying ty = some (.int k0)) (hue : P.underlying te = some (.int k)) :
    (results fn tmps).run P w = .ok (.tuple #[.int k0 m, .int .i64 n]) w := by
  have hp' : tmps[p]?.getD undef = .pointer (some ⟨g, 0, none⟩) := by simpa using hp
  have hq' : tmps[q]?.getD undef = .pointer (some ⟨ge, 0, none⟩) := by simpa using hq
  have hc := he.cells
  have hc1 := hg.cells
  have h1 : (loadVar ty ⟨g, 0, none⟩).run P w = .ok (.int k0 m) w := by
    have hc0 := hc1 0
    simp at hc0
    simp [go_sem, isAgg, run_underlying hu, hc0]
  have h2 : (loadVar te ⟨ge, 0, none⟩).run P w = .ok (.int .i64 n) w := by
    have hc0 := hc 0
    simp at hc0
    simp [go_sem, isAgg, run_underlying hue, hc0]
  simp [results, h, hp', hq', asAddr, h1, h2]
end Go.Proofs.YtcbkaiakdhiloacGreatDoor
namespace Go.Proofs.YtcbkaiakdhiloacGreatDoor
open Go.RowKit Go.Proofs
attribute [local go_sem] bs_size bs_append bs_extract
theorem take_drop_sub (l : List UInt8) (i n : Nat) : (l.drop i).take n = sub l i (i + n) := by unfold sub; rw [List.drop_take, Nat.add_sub_cancel_left]
theorem drop_drop_at (l : List UInt8) (i n : Nat) : (l.drop i).drop n = l.drop (i + n) := by rw [List.drop_drop]
section
variable (i p : Nat) (l : List UInt8) (w : World) (hR : Rd w p (l.drop i)) (hl : l.length ≤ 9223372036854775807)
include hR hl
theorem aTake (n : Nat) (h : i + n ≤ l.length) :
    Calls Tryz.prog 93 #[.pointer (some ⟨p, 0, none⟩), .int .i64 n] w fun e w' => e = .returned (.string (bs (sub l i (i + n)))) ∧ Rd w' p (l.drop (i + n)) ∧ Fr (oneB p) w w' :=
  (rTake n p (l.drop i) w hR (by omega) (by rw [List.length_drop]; omega)).mono fun e w' h' => by
    rw [Took, List.length_drop, take_drop_sub, drop_drop_at] at h'
    rcases h' with ⟨_, h'⟩ | ⟨h', _⟩
    · exact h'
    · omega
theorem aU8 (h : i + 1 ≤ l.length) :
    Calls Tryz.prog 90 #[.pointer (some ⟨p, 0, none⟩)] w fun e w' => e = .returned (.int .u8 (num (sub l i (i + 1)) : Int)) ∧ Rd w' p (l.drop (i + 1)) ∧ Fr (oneB p) w w' :=
  (rU8 p (l.drop i) w hR (by rw [List.length_drop]; omega)).mono fun e w' h' => by
    rw [Took, List.length_drop, take_drop_sub, drop_drop_at] at h'
    rcases h' with ⟨_, h'⟩ | ⟨h', _⟩
    · exact h'
    · omega
theorem aIP (h : i + 4 ≤ l.length) :
    Calls Tryz.prog 91 #[.pointer (some ⟨p, 0, none⟩)] w fun e w' => e = .returned (.int .u32 (num (sub l i (i + 4)) : Int)) ∧ Rd w' p (l.drop (i + 4)) ∧ Fr (oneB p) w w' :=
  (rIP p (l.drop i) w hR (by rw [List.length_drop]; omega)).mono fun e w' h' => by
    rw [Took, List.length_drop, take_drop_sub, drop_drop_at] at h'
    rcases h' with ⟨_, h'⟩ | ⟨h', _⟩
    · exact h'
    · omega
theorem aMAC (h : i + 6 ≤ l.length) :
    Calls Tryz.prog 83 #[.pointer (some ⟨p, 0, none⟩)] w fun e w' => e = .returned (macV (macOf (l.drop i))) ∧ Rd w' p (l.drop (i + 6)) ∧ Fr (oneB p) w w' :=
  (rMAC p (l.drop i) w hR (by rw [List.length_drop]; omega)).mono fun e w' h' => by
    rw [Took, List.length_drop, drop_drop_at] at h'
    rcases h' with ⟨_, h'⟩ | ⟨h', _⟩
    · exact h'
    · omega
end
theorem rU32 (p : Nat) (l : List UInt8) (w : World) (hR : Rd w p l) (hl : l.length ≤ 9223372036854775807) :
    Calls Tryz.prog 99 #[.pointer (some ⟨p, 0, none⟩)] w (Took p l 4 w (.int .u32 (num (l.take 4)))) := by
  go_enter Tryz.func99, Tryz.ntmps99
  go_wp2_with fail
  refine (rNum 4 p l _ hR (by omega) hl).mono ?_
  rintro e w1 (⟨hle, rfl, hR1, hf1⟩ | ⟨hlt, rfl, hf1⟩)
  · generalize num (l.take 4) = x at *
    go_wp2_with fail
    go_ret
    exact .inl ⟨hle, rfl, hR1, hf1⟩
  · exact ⟨rfl, .inr ⟨hlt, rfl, hf1⟩⟩
theorem aU32 (i p : Nat) (l : List UInt8) (w : World) (hR : Rd w p (l.drop i)) (hl : l.length ≤ 9223372036854775807) (h : i + 4 ≤ l.length) :
    Calls Tryz.prog 99 #[.pointer (some ⟨p, 0, none⟩)] w fun e w' => e = .returned (.int .u32 (num (sub l i (i + 4)) : Int)) ∧ Rd w' p (l.drop (i + 4)) ∧ Fr (oneB p) w w' :=
  (rU32 p (l.drop i) w hR (by rw [List.length_drop]; omega)).mono fun e w' h' => by
    rw [Took, List.length_drop, take_drop_sub, drop_drop_at] at h'
    rcases h' with ⟨_, h'⟩ | ⟨h', _⟩
    · exact h'
    · omega
end Go.Proofs.YtcbkaiakdhiloacGreatDoor
namespace Go.Proofs.YtcbkaiakdhiloacGreatDoor
open Go.RowKit Go.Proofs
attribute [local go_sem] bs_size bs_append bs_extract bs_toList
theorem num_ltA : ∀ (l : List UInt8) (a : Nat), l.foldl (fun n b => 256 * n + b.toNat) a < (a + 1) * 256 ^ l.length
  | [], a => by simp
  | b :: l, a => by
    have h := num_ltA l (256 * a + b.toNat)
    have hb := b.toNat_lt
    have h2 : (256 * a + b.toNat + 1) * 256 ^ l.length ≤ ((a + 1) * 256) * 256 ^ l.length := Nat.mul_le_mul_right _ (by omega)
    rw [List.foldl_cons, List.length_cons, Nat.pow_succ, Nat.mul_comm (256 ^ l.length) 256, ← Nat.mul_assoc]
    omega
theorem num_lt (l : List UInt8) : num l < 256 ^ l.length := by
  have := num_ltA l 0
  unfold num; omega
end Go.Proofs.YtcbkaiakdhiloacGreatDoor
namespace Go.Proofs.YtcbkaiakdhiloacGreatDoor
open Go.RowKit Go.Proofs
section
variable {P : Program} (w : World)
def partV (P : Program) (e : TypeId) (xs : Array Value) (off : Nat) : Option Value :=
  match P.underlying e with
  | some (.struct _) => some (.agg (xs.extract off (off + P.cellsOf e)))
  | some (.array _ _) => some (.agg (xs.extract off (off + P.cellsOf e)))
  | some _ => xs[off]?
  | none => none
theorem run_partV {e : TypeId} {xs : Array Value} {off : Nat} {a : Value} (h : partV P e xs off = some a) : (part e xs off).run P w = .ok a w := by
  unfold partV at h
  cases hu : P.underlying e with
  | none => simp [hu] at h
  | some kd =>
    obtain ⟨i, hi⟩ := info_of_underlying hu
    cases kd <;> simp [hu] at h <;> first | (subst h; simp [part, isAgg, run_underlying hu, run_sizeOf w hi]) | simp [part, isAgg, run_underlying hu, h]
def selfEq (P : Program) : Nat → TypeId → Value → Bool
  | 0, _, _ => false
  | m + 1, t, v => match P.underlying t, v with
    | some .bool, .bool _ => true
    | some (.int _), .int _ _ => true
    | some .string, .string _ => true
    | some (.array n e), .agg xs => (P.info? e).isSome && (List.range n).all fun i => match partV P e xs (i * P.cellsOf e) with | some a => selfEq P m e a | none => false
    | some (.struct fs), .agg xs => !P.stoodInHeld t && fs.toList.all fun f => f.name == "_" || match partV P f.type xs f.offset with | some a => selfEq P m f.type a | none => false
    | _, _ => false
theorem eqItems_self (d : Nat) {e : TypeId} {c : Nat} {xs : Array Value} : ∀ (is : List Nat),
    (∀ i ∈ is, ∃ a, partV P e xs (i * c) = some a ∧ (Op.equalIn d e a a).run P w = .ok true w) → (Op.eqItems d e c xs xs is).run P w = .ok true w
  | [], _ => by simp [Op.eqItems]
  | i :: is, h => by
    obtain ⟨a, h1, h2⟩ := h i (by simp)
    simp only [Op.eqItems, Sem.run_bind, run_partV w h1, h2, Result.andThen_ok, Bool.not_true, Bool.false_eq_true, if_false]
    exact eqItems_self d is fun j hj => h j (by simp [hj])
theorem eqFields_self (d : Nat) {xs : Array Value} : ∀ (fs : List Field),
    (∀ f ∈ fs, f.name = "_" ∨ ∃ a, partV P f.type xs f.offset = some a ∧ (Op.equalIn d f.type a a).run P w = .ok true w) → (Op.eqFields d xs xs fs).run P w = .ok true w
  | [], _ => by simp [Op.eqFields]
  | f :: fs, h => by
    have ih := eqFields_self d fs fun g hg => h g (by simp [hg])
    unfold Op.eqFields
    rw [Sem.run_ite]
    split
    · next hn =>
      rcases h f (by simp) with h0 | ⟨a, h1, h2⟩
      · exact absurd h0 hn
      · simp only [Sem.run_bind, run_partV w h1, h2, Result.andThen_ok, Bool.not_true, Bool.false_eq_true, if_false]
        exact ih
    · exact ih
theorem equalIn_self (d : Nat) : ∀ (m : Nat) (t : TypeId) (v : Value), selfEq P m t v = true → (Op.equalIn (d + m) t v v).run P w = .ok true w
  | 0, t, v, h => by simp [selfEq] at h
  | m + 1, t, v, h => by
    unfold selfEq at h
    cases hu : P.underlying t with
    | none => simp [hu] at h
    | some kd =>
      simp only [hu] at h
      rw [show d + (m + 1) = (d + m) + 1 from rfl]
      have h0 := h
      cases kd <;> cases v <;> simp at h
      · rw [run_equalIn_bool' w (d + m) t _ _ hu]; simp
      · rw [run_equalIn_int w (d + m) t _ _ _ _ hu]; simp
      · rw [run_equalIn_string w (d + m) t _ _ hu]; simp
      · next n e xs =>
        obtain ⟨i, hi⟩ := Option.isSome_iff_exists.1 h.1
        rw [run_equalIn_array w (d + m) xs xs hu hi]
        refine eqItems_self w (d + m) _ fun j hj => ?_
        have h2 := h.2 j (by simpa using hj)
        cases hp : partV P e xs (j * P.cellsOf e) with
        | none => simp [hp] at h2
        | some a => rw [hp] at h2; exact ⟨a, rfl, equalIn_self d m e a h2⟩
      · next fs xs =>
        have hf : P.fieldsOf t = fs := by unfold Program.fieldsOf; rw [hu]
        rw [run_equalIn_struct w (d + m) t xs xs (by rw [hf]; exact hu) h.1, hf]
        refine eqFields_self w (d + m) _ fun f hfm => ?_
        simp only [Bool.and_eq_true] at h0
        have h2 := List.all_eq_true.1 h0.2 f hfm
        simp only [Bool.or_eq_true, beq_iff_eq] at h2
        rcases h2 with h2 | h2
        · exact .inl h2
        · refine .inr ?_
          cases hp : partV P f.type xs f.offset with
          | none => simp [hp] at h2
          | some a => rw [hp] at h2; exact ⟨a, rfl, equalIn_self d m f.type a h2⟩
theorem eql_self {t : TypeId} {xs : Array Value} (h : selfEq P 8 t (.agg xs) = true) : (binOp .eql t (.agg xs) (.agg xs)).run P w = .ok (.bool true) w := by
  rw [run_eql_struct w t xs xs, show (10000 : Nat) = 9992 + 8 from rfl, equalIn_self w 9992 8 t (.agg xs) h]; rfl
end
end Go.Proofs.YtcbkaiakdhiloacGreatDoor
