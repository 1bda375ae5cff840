/- The program's sum: its regions. -/
import Derived.Test.YtcbkaiakdhiloabDoorHashW2
set_option linter.unusedSimpArgs false
set_option linter.unusedVariables false
namespace Go.Proofs.YtcbkaiakdhiloabDoor
open Go.RowKit Go.Proofs

theorem u32_info : (Tryd.prog.info? 25).map (fun i => (i.zero, i.size, i.bytes)) = some (some (.int .u32 0), 1, 4) := by kernel_rfl
set_option maxRecDepth 20000 in
theorem run_index_arr (w : World) (cs : List Value) (i : Nat) (v : Value) (hi : i < 8) (hv : cs[i]? = some v) :
    (Instr.index 72 (.agg cs.toArray) (.int .i64 (i : Int))).run Tryd.prog w = .ok v w := by
  obtain ⟨inf, hi0, hz, hs, hb⟩ := info_parts u32_info
  have hi1 : (0 : Int) ≤ (i : Int) ∧ (i : Int) < 8 := by omega
  simp [Instr.index, run_underlying Tryd.underlying72, asIntOf, hi1, go_sem, sizeOf, typeInfo, hi0, hs, hv]
  intro h; omega

def smFr (u : Nat → Value) : Act := ⟨#[u 0, u 1, u 2, u 3, u 4, u 5, u 6, u 7, u 8, u 9, u 10, u 11, u 12, u 13, u 14, u 15, u 16, u 17, u 18, u 19, u 20, u 21, u 22, u 23, u 24, u 25, u 26, u 27, u 28, u 29, u 30, u 31, u 32, u 33, u 34, u 35, u 36, u 37, u 38, u 39, u 40, u 41, u 42, u 43, u 44, u 45, u 46, u 47, u 48, u 49, u 50, u 51, u 52, u 53, u 54, u 55, u 56, u 57, u 58, u 59, u 60, u 61, u 62, u 63, u 64, u 65, u 66, u 67, u 68, u 69, u 70, u 71, u 72, u 73, u 74, u 75, u 76], []⟩
set_option maxRecDepth 100000 in
theorem smFr_eq (u : Nat → Value) : smFr u = frN 77 u := rfl
theorem smFr_of {a : Act} (h : Sz 77 a) : a = smFr (sl a) := h.eq.trans (smFr_eq _).symm
set_option maxRecDepth 100000 in
theorem smFr_sz (u : Nat → Value) : Sz 77 (smFr u) := ⟨rfl, rfl⟩

set_option maxRecDepth 20000 in
set_option maxHeartbeats 1000000 in
theorem smR0  (a : Act) (w : World) (K : Exit → Act → World → Prop) (hs : Sz 77 a)
     
    (hK : ∀ a' w', Sz 77 a' → Kp [0, 3, 4, 5, 6, 7, 8, 26, 44, 45] a a' → sl a' 2 = .pointer (some ⟨w.heap.size, 0, none⟩) → w' = w.alloc (.cells (u8s (List.replicate 32 0)).toArray 56) → K .normal a' w') :
    (regionOf Tryd.f36 0).wp Tryd.prog K a w := by
  have hK2 : ∀ a' w', Sz 77 a' → KpU [0, 3, 4, 5, 6, 7, 8, 26, 44, 45] (sl a) a' → sl a' 2 = .pointer (some ⟨w.heap.size, 0, none⟩) → w' = w.alloc (.cells (u8s (List.replicate 32 0)).toArray 56) → K .normal a' w' := hK
  clear hK
  rw [smFr_of hs]
  clear hs
  generalize sl a = u at *
  clear a
  have HK := Lib.hid hK2
  clear hK2
  conv => arg 2; whnf
  simp only [smFr]
  go_wp2_with fail
  exact HK.out _ _  ⟨rfl, rfl⟩ (KpU.cons (rfl) (KpU.cons (rfl) (KpU.cons (rfl) (KpU.cons (rfl) (KpU.cons (rfl) (KpU.cons (rfl) (KpU.cons (rfl) (KpU.cons (rfl) (KpU.cons (rfl) (KpU.cons (rfl) (KpU.nil _ _))))))))))) (rfl) rfl

set_option maxRecDepth 20000 in
set_option maxHeartbeats 1000000 in
theorem smR5  (a : Act) (w : World) (K : Exit → Act → World → Prop) (hs : Sz 77 a)
     
    (hK : ∀ a' w', Sz 77 a' → Kp [0, 2, 3, 5, 6, 7, 8, 26, 44, 45] a a' → sl a' 4 = .pointer (some ⟨w.heap.size, 0, none⟩) → w' = w.alloc (.cells (u8s (List.replicate 8 0)).toArray 104) → K .normal a' w') :
    (regionOf Tryd.f36 5).wp Tryd.prog K a w := by
  have hK2 : ∀ a' w', Sz 77 a' → KpU [0, 2, 3, 5, 6, 7, 8, 26, 44, 45] (sl a) a' → sl a' 4 = .pointer (some ⟨w.heap.size, 0, none⟩) → w' = w.alloc (.cells (u8s (List.replicate 8 0)).toArray 104) → K .normal a' w' := hK
  clear hK
  rw [smFr_of hs]
  clear hs
  generalize sl a = u at *
  clear a
  have HK := Lib.hid hK2
  clear hK2
  conv => arg 2; whnf
  simp only [smFr]
  go_wp2_with fail
  exact HK.out _ _  ⟨rfl, rfl⟩ (KpU.cons (rfl) (KpU.cons (rfl) (KpU.cons (rfl) (KpU.cons (rfl) (KpU.cons (rfl) (KpU.cons (rfl) (KpU.cons (rfl) (KpU.cons (rfl) (KpU.cons (rfl) (KpU.cons (rfl) (KpU.nil _ _))))))))))) (rfl) rfl

set_option maxRecDepth 20000 in
set_option maxHeartbeats 1000000 in
theorem smR12  (a : Act) (w : World) (K : Exit → Act → World → Prop) (hs : Sz 77 a)
     
    (hK : ∀ a' w', Sz 77 a' → Kp [0, 2, 3, 4, 5, 7, 8, 26, 44, 45] a a' → sl a' 6 = .pointer (some ⟨w.heap.size, 0, none⟩) → w' = w.alloc (.cells (u8s (List.replicate 32 0)).toArray 56) → K .normal a' w') :
    (regionOf Tryd.f36 12).wp Tryd.prog K a w := by
  have hK2 : ∀ a' w', Sz 77 a' → KpU [0, 2, 3, 4, 5, 7, 8, 26, 44, 45] (sl a) a' → sl a' 6 = .pointer (some ⟨w.heap.size, 0, none⟩) → w' = w.alloc (.cells (u8s (List.replicate 32 0)).toArray 56) → K .normal a' w' := hK
  clear hK
  rw [smFr_of hs]
  clear hs
  generalize sl a = u at *
  clear a
  have HK := Lib.hid hK2
  clear hK2
  conv => arg 2; whnf
  simp only [smFr]
  go_wp2_with fail
  exact HK.out _ _  ⟨rfl, rfl⟩ (KpU.cons (rfl) (KpU.cons (rfl) (KpU.cons (rfl) (KpU.cons (rfl) (KpU.cons (rfl) (KpU.cons (rfl) (KpU.cons (rfl) (KpU.cons (rfl) (KpU.cons (rfl) (KpU.cons (rfl) (KpU.nil _ _))))))))))) (rfl) rfl

set_option maxRecDepth 20000 in
set_option maxHeartbeats 1000000 in
theorem smR1 (p n : Nat) (a : Act) (w : World) (K : Exit → Act → World → Prop) (hs : Sz 77 a)
    (h0 : sl a 0 = .pointer (some ⟨p, 0, none⟩)) (hn : n * 8 < 18446744073709551616) (hc : w.cell? ⟨p, 9, none⟩ = some (.int .u64 (n : Int)))
    (hK : ∀ a' w', Sz 77 a' → Kp [0, 2, 4, 5, 6, 7, 8, 26, 44, 45] a a' → sl a' 3 = .int .u64 ((n * 8 : Nat) : Int) → Fr noB w w' → K .normal a' w') :
    (regionOf Tryd.f36 1).wp Tryd.prog K a w := by
  have hK2 : ∀ a' w', Sz 77 a' → KpU [0, 2, 4, 5, 6, 7, 8, 26, 44, 45] (sl a) a' → sl a' 3 = .int .u64 ((n * 8 : Nat) : Int) → Fr noB w w' → K .normal a' w' := hK
  clear hK
  rw [smFr_of hs]
  clear hs
  generalize sl a = u at *
  clear a
  have HK := Lib.hid hK2
  clear hK2
  conv => arg 2; whnf
  have hn1 : (n : Int) * 8 < 18446744073709551616 := by omega
  simp only [smFr, h0]
  go_wp2_with fail
  exact HK.out _ _  ⟨rfl, rfl⟩ (KpU.cons (h0.symm) (KpU.cons (rfl) (KpU.cons (rfl) (KpU.cons (rfl) (KpU.cons (rfl) (KpU.cons (rfl) (KpU.cons (rfl) (KpU.cons (rfl) (KpU.cons (rfl) (KpU.cons (rfl) (KpU.nil _ _))))))))))) (by simp only [sl]; rfl) (Fr.refl _ _)

set_option maxRecDepth 20000 in
set_option maxHeartbeats 1000000 in
theorem smR2 (p : Nat) (X : Nat → Prop) (pre : List UInt8) (a : Act) (w : World) (K : Exit → Act → World → Prop) (hs : Sz 77 a)
    (h0 : sl a 0 = .pointer (some ⟨p, 0, none⟩)) (hS : HSt w p X pre) (hb : ∀ q, w.heap.size ≤ q → X q) (hlen : pre.length + 1 ≤ 1000000000000) (hRk : RU w 3 kTab) (hgb : ¬ X 3) (hkp : 3 ≠ p)
    (hK : ∀ a' w', Sz 77 a' → Kp [0, 2, 3, 4, 5, 6, 7, 8, 26, 44, 45] a a' → HSt w' p X (pre ++ [128]) → Fr (ownS p X) w w' → K .normal a' w') :
    (regionOf Tryd.f36 2).wp Tryd.prog K a w := by
  have hK2 : ∀ a' w', Sz 77 a' → KpU [0, 2, 3, 4, 5, 6, 7, 8, 26, 44, 45] (sl a) a' → HSt w' p X (pre ++ [128]) → Fr (ownS p X) w w' → K .normal a' w' := hK
  clear hK
  rw [smFr_of hs]
  clear hs
  generalize sl a = u at *
  clear a
  have HK := Lib.hid hK2
  clear hK2
  conv => arg 2; whnf
  have hpb := hS.1
  have hfa : Fr noB w (w.alloc (.cells #[.int .u8 128] 5)) := (Fr.refl _ _).alloc _
  have hSa : HSt (w.alloc (.cells #[.int .u8 128] 5)) p X pre := ⟨hpb, by obtain ⟨r, h1, h2⟩ := hS.2; exact ⟨r, h1.keep hfa id, h2.keep hfa fun _ _ h => h⟩⟩
  have hcall := hashWrite pre [128] p 1 1 X (some ⟨w.heap.size, 0, none⟩) (w.alloc (.cells #[.int .u8 128] 5)) hSa (SlR.of_bk (n := 1) (size := 1) (Bk.new w 5 #[.int .u8 128]) (by unfold oneB; exact fun e => hpb (hb p (by rw [← e]; exact Nat.le_refl _))) rfl) (fun q hq => hb q (Nat.le_trans hfa.size hq)) hlen (hRk.keep hfa id) hgb hkp
  clear hS hSa hRk
  simp only [smFr, h0]
  go_wp2_with (go_at_call 35; refine hcall.mono ?_; rintro e w9 ⟨rfl, hS9, hf9b⟩)
  have hf9 := hfa.of_no (ownS p X) |>.trans hf9b
  exact HK.out _ _  ⟨rfl, rfl⟩ (KpU.cons (h0.symm) (KpU.cons (rfl) (KpU.cons (rfl) (KpU.cons (rfl) (KpU.cons (rfl) (KpU.cons (rfl) (KpU.cons (rfl) (KpU.cons (rfl) (KpU.cons (rfl) (KpU.cons (rfl) (KpU.cons (rfl) (KpU.nil _ _))))))))))))  hS9 hf9

set_option maxRecDepth 20000 in
set_option maxHeartbeats 1000000 in
theorem smR4 (p : Nat) (X : Nat → Prop) (pre : List UInt8) (a : Act) (w : World) (K : Exit → Act → World → Prop) (hs : Sz 77 a)
    (h0 : sl a 0 = .pointer (some ⟨p, 0, none⟩)) (hS : HSt w p X pre) (hb : ∀ q, w.heap.size ≤ q → X q) (hlen : pre.length + 1 ≤ 1000000000000) (hRk : RU w 3 kTab) (hgb : ¬ X 3) (hkp : 3 ≠ p)
    (hK : ∀ a' w', Sz 77 a' → Kp [0, 2, 3, 4, 5, 6, 7, 8, 26, 44, 45] a a' → HSt w' p X (pre ++ [0]) → Fr (ownS p X) w w' → K .normal a' w') :
    (regionOf Tryd.f36 4).wp Tryd.prog K a w := by
  have hK2 : ∀ a' w', Sz 77 a' → KpU [0, 2, 3, 4, 5, 6, 7, 8, 26, 44, 45] (sl a) a' → HSt w' p X (pre ++ [0]) → Fr (ownS p X) w w' → K .normal a' w' := hK
  clear hK
  rw [smFr_of hs]
  clear hs
  generalize sl a = u at *
  clear a
  have HK := Lib.hid hK2
  clear hK2
  conv => arg 2; whnf
  have hpb := hS.1
  have hfa : Fr noB w (w.alloc (.cells #[.int .u8 0] 5)) := (Fr.refl _ _).alloc _
  have hSa : HSt (w.alloc (.cells #[.int .u8 0] 5)) p X pre := ⟨hpb, by obtain ⟨r, h1, h2⟩ := hS.2; exact ⟨r, h1.keep hfa id, h2.keep hfa fun _ _ h => h⟩⟩
  have hcall := hashWrite pre [0] p 1 1 X (some ⟨w.heap.size, 0, none⟩) (w.alloc (.cells #[.int .u8 0] 5)) hSa (SlR.of_bk (n := 1) (size := 1) (Bk.new w 5 #[.int .u8 0]) (by unfold oneB; exact fun e => hpb (hb p (by rw [← e]; exact Nat.le_refl _))) rfl) (fun q hq => hb q (Nat.le_trans hfa.size hq)) hlen (hRk.keep hfa id) hgb hkp
  clear hS hSa hRk
  simp only [smFr, h0]
  go_wp2_with (go_at_call 35; refine hcall.mono ?_; rintro e w9 ⟨rfl, hS9, hf9b⟩)
  have hf9 := hfa.of_no (ownS p X) |>.trans hf9b
  exact HK.out _ _  ⟨rfl, rfl⟩ (KpU.cons (h0.symm) (KpU.cons (rfl) (KpU.cons (rfl) (KpU.cons (rfl) (KpU.cons (rfl) (KpU.cons (rfl) (KpU.cons (rfl) (KpU.cons (rfl) (KpU.cons (rfl) (KpU.cons (rfl) (KpU.cons (rfl) (KpU.nil _ _))))))))))))  hS9 hf9

set_option maxRecDepth 20000 in
set_option maxHeartbeats 1000000 in
theorem smR3 (p n c : Nat) (A : Option Addr) (a : Act) (w : World) (K : Exit → Act → World → Prop) (hs : Sz 77 a)
    (h0 : sl a 0 = .pointer (some ⟨p, 0, none⟩)) (hc : w.cell? ⟨p, 8, none⟩ = some (.slice A n c))
    (hK : ∀ a' w', Sz 77 a' → Kp [0, 2, 3, 4, 5, 6, 7, 8, 26, 44, 45] a a' → sl a' 22 = .bool (decide (n ≠ 56)) → Fr noB w w' → K .normal a' w') :
    (regionOf Tryd.f36 3).wp Tryd.prog K a w := by
  have hK2 : ∀ a' w', Sz 77 a' → KpU [0, 2, 3, 4, 5, 6, 7, 8, 26, 44, 45] (sl a) a' → sl a' 22 = .bool (decide (n ≠ 56)) → Fr noB w w' → K .normal a' w' := hK
  clear hK
  rw [smFr_of hs]
  clear hs
  generalize sl a = u at *
  clear a
  have HK := Lib.hid hK2
  clear hK2
  conv => arg 2; whnf
  simp only [smFr, h0]
  go_wp2_with fail
  exact HK.out _ _  ⟨rfl, rfl⟩ (KpU.cons (h0.symm) (KpU.cons (rfl) (KpU.cons (rfl) (KpU.cons (rfl) (KpU.cons (rfl) (KpU.cons (rfl) (KpU.cons (rfl) (KpU.cons (rfl) (KpU.cons (rfl) (KpU.cons (rfl) (KpU.cons (rfl) (KpU.nil _ _)))))))))))) (congrArg Value.bool (by by_cases h : n = 56 <;> simp [h] <;> omega)) (Fr.refl _ _)

set_option maxRecDepth 20000 in
set_option maxHeartbeats 1000000 in
theorem smR6  (a : Act) (w : World) (K : Exit → Act → World → Prop) (hs : Sz 77 a)
     
    (hK : ∀ a' w', Sz 77 a' → Kp [0, 2, 3, 4, 5, 6, 7, 8, 44, 45] a a' → sl a' 26 = .int .i64 ((0 : Nat) : Int) → Fr noB w w' → K .normal a' w') :
    (regionOf Tryd.f36 6).wp Tryd.prog K a w := by
  have hK2 : ∀ a' w', Sz 77 a' → KpU [0, 2, 3, 4, 5, 6, 7, 8, 44, 45] (sl a) a' → sl a' 26 = .int .i64 ((0 : Nat) : Int) → Fr noB w w' → K .normal a' w' := hK
  clear hK
  rw [smFr_of hs]
  clear hs
  generalize sl a = u at *
  clear a
  have HK := Lib.hid hK2
  clear hK2
  conv => arg 2; whnf
  simp only [smFr]
  go_wp2_with fail
  exact HK.out _ _  ⟨rfl, rfl⟩ (KpU.cons (rfl) (KpU.cons (rfl) (KpU.cons (rfl) (KpU.cons (rfl) (KpU.cons (rfl) (KpU.cons (rfl) (KpU.cons (rfl) (KpU.cons (rfl) (KpU.cons (rfl) (KpU.cons (rfl) (KpU.nil _ _))))))))))) (rfl) (Fr.refl _ _)

set_option maxRecDepth 20000 in
set_option maxHeartbeats 1000000 in
theorem smR7 (i : Nat) (a : Act) (w : World) (K : Exit → Act → World → Prop) (hs : Sz 77 a)
    (h26 : sl a 26 = .int .i64 (i : Int)) (hi : i ≤ 8)
    (hK : ∀ a' w', Sz 77 a' → Kp [0, 2, 3, 4, 5, 6, 7, 8, 26, 44, 45] a a' → sl a' 27 = .bool (decide (i < 8)) → Fr noB w w' → K .normal a' w') :
    (regionOf Tryd.f36 7).wp Tryd.prog K a w := by
  have hK2 : ∀ a' w', Sz 77 a' → KpU [0, 2, 3, 4, 5, 6, 7, 8, 26, 44, 45] (sl a) a' → sl a' 27 = .bool (decide (i < 8)) → Fr noB w w' → K .normal a' w' := hK
  clear hK
  rw [smFr_of hs]
  clear hs
  generalize sl a = u at *
  clear a
  have HK := Lib.hid hK2
  clear hK2
  conv => arg 2; whnf
  simp only [smFr, h26]
  go_wp2_with fail
  exact HK.out _ _  ⟨rfl, rfl⟩ (KpU.cons (rfl) (KpU.cons (rfl) (KpU.cons (rfl) (KpU.cons (rfl) (KpU.cons (rfl) (KpU.cons (rfl) (KpU.cons (rfl) (KpU.cons (rfl) (KpU.cons (h26.symm) (KpU.cons (rfl) (KpU.cons (rfl) (KpU.nil _ _)))))))))))) (congrArg Value.bool (decide_eq_decide.2 (by omega))) (Fr.refl _ _)

set_option maxRecDepth 20000 in
set_option maxHeartbeats 1000000 in
theorem smR8 (i : Nat) (a : Act) (w : World) (K : Exit → Act → World → Prop) (hs : Sz 77 a)
    (h26 : sl a 26 = .int .i64 (i : Int)) 
    (hK : ∀ a' w', Sz 77 a' → Kp [0, 2, 3, 4, 6, 7, 8, 26, 44, 45] a a' → sl a' 5 = .int .i64 (i : Int) → Fr noB w w' → K .normal a' w') :
    (regionOf Tryd.f36 8).wp Tryd.prog K a w := by
  have hK2 : ∀ a' w', Sz 77 a' → KpU [0, 2, 3, 4, 6, 7, 8, 26, 44, 45] (sl a) a' → sl a' 5 = .int .i64 (i : Int) → Fr noB w w' → K .normal a' w' := hK
  clear hK
  rw [smFr_of hs]
  clear hs
  generalize sl a = u at *
  clear a
  have HK := Lib.hid hK2
  clear hK2
  conv => arg 2; whnf
  simp only [smFr, h26]
  go_wp2_with fail
  exact HK.out _ _  ⟨rfl, rfl⟩ (KpU.cons (rfl) (KpU.cons (rfl) (KpU.cons (rfl) (KpU.cons (rfl) (KpU.cons (rfl) (KpU.cons (rfl) (KpU.cons (rfl) (KpU.cons (h26.symm) (KpU.cons (rfl) (KpU.cons (rfl) (KpU.nil _ _))))))))))) (rfl) (Fr.refl _ _)

set_option maxRecDepth 20000 in
set_option maxHeartbeats 1000000 in
theorem smR10 (i : Nat) (a : Act) (w : World) (K : Exit → Act → World → Prop) (hs : Sz 77 a)
    (h26 : sl a 26 = .int .i64 (i : Int)) (hi : i ≤ 8)
    (hK : ∀ a' w', Sz 77 a' → Kp [0, 2, 3, 4, 5, 6, 7, 8, 44, 45] a a' → sl a' 26 = .int .i64 ((i + 1 : Nat) : Int) → Fr noB w w' → K .normal a' w') :
    (regionOf Tryd.f36 10).wp Tryd.prog K a w := by
  have hK2 : ∀ a' w', Sz 77 a' → KpU [0, 2, 3, 4, 5, 6, 7, 8, 44, 45] (sl a) a' → sl a' 26 = .int .i64 ((i + 1 : Nat) : Int) → Fr noB w w' → K .normal a' w' := hK
  clear hK
  rw [smFr_of hs]
  clear hs
  generalize sl a = u at *
  clear a
  have HK := Lib.hid hK2
  clear hK2
  conv => arg 2; whnf
  simp only [smFr, h26]
  clear h26
  go_wp2_with fail
  exact HK.out _ _  ⟨rfl, rfl⟩ (KpU.cons (rfl) (KpU.cons (rfl) (KpU.cons (rfl) (KpU.cons (rfl) (KpU.cons (rfl) (KpU.cons (rfl) (KpU.cons (rfl) (KpU.cons (rfl) (KpU.cons (rfl) (KpU.cons (rfl) (KpU.nil _ _))))))))))) (by simp only [sl]; rfl) (Fr.refl _ _)

set_option maxRecDepth 20000 in
set_option maxHeartbeats 1000000 in
theorem smR9 (i j gl N : Nat) (z : Value) (a : Act) (w : World) (K : Exit → Act → World → Prop) (hs : Sz 77 a)
    (h3 : sl a 3 = .int .u64 (N : Int)) (h4 : sl a 4 = .pointer (some ⟨gl, 0, none⟩)) (h5 : sl a 5 = .int .i64 (i : Int)) (hi : i < 8) (hj : j + i = 7) (hN : N < 18446744073709551616) (hc : w.cell? ⟨gl, i, none⟩ = some (z)) (hf : w.frozen? ⟨gl, i, none⟩ = false)
    (hK : ∀ a' w', Sz 77 a' → Kp [0, 2, 3, 4, 5, 6, 7, 8, 26, 44, 45] a a' → w' = w.setCell ⟨gl, i, none⟩ (.int .u8 ((UInt8.ofNat (N / 256 ^ j)).toNat : Int)) → K .normal a' w') :
    (regionOf Tryd.f36 9).wp Tryd.prog K a w := by
  have hK2 : ∀ a' w', Sz 77 a' → KpU [0, 2, 3, 4, 5, 6, 7, 8, 26, 44, 45] (sl a) a' → w' = w.setCell ⟨gl, i, none⟩ (.int .u8 ((UInt8.ofNat (N / 256 ^ j)).toNat : Int)) → K .normal a' w' := hK
  clear hK
  rw [smFr_of hs]
  clear hs
  generalize sl a = u at *
  clear a
  have HK := Lib.hid hK2
  clear hK2
  conv => arg 2; whnf
  obtain ⟨k, hk⟩ : ∃ k, k = 8 * j := ⟨_, rfl⟩
  have e1 : (56 : Int) - 8 * (i : Int) = (k : Int) := by omega
  have e2 : 8 * (i : Int) ≤ 56 := by omega
  have hby := byte_at N j
  rw [← hk] at hby
  obtain ⟨y, hy⟩ : ∃ y, y = UInt8.ofNat (N / 256 ^ j) := ⟨_, rfl⟩
  rw [← hy] at hby HK
  have hk64 : k < 64 := by omega
  clear hy hk hj
  simp only [smFr, h3, h4, h5]
  go_wp2_with fail
  exact HK.out _ _  ⟨rfl, rfl⟩ (KpU.cons (rfl) (KpU.cons (rfl) (KpU.cons (h3.symm) (KpU.cons (h4.symm) (KpU.cons (h5.symm) (KpU.cons (rfl) (KpU.cons (rfl) (KpU.cons (rfl) (KpU.cons (rfl) (KpU.cons (rfl) (KpU.cons (rfl) (KpU.nil _ _))))))))))))  rfl

set_option maxRecDepth 20000 in
set_option maxHeartbeats 1000000 in
theorem smR11 (p gl : Nat) (X : Nat → Prop) (pre B : List UInt8) (a : Act) (w : World) (K : Exit → Act → World → Prop) (hs : Sz 77 a)
    (h0 : sl a 0 = .pointer (some ⟨p, 0, none⟩)) (h4 : sl a 4 = .pointer (some ⟨gl, 0, none⟩)) (hS : HSt w p X pre) (hB : Bk w gl 104 (u8s B).toArray) (hB8 : B.length = 8) (hgp : gl ≠ p) (hb : ∀ q, w.heap.size ≤ q → X q) (hlen : pre.length + 8 ≤ 1000000000000) (hRk : RU w 3 kTab) (hgb : ¬ X 3) (hkp : 3 ≠ p)
    (hK : ∀ a' w', Sz 77 a' → Kp [0, 2, 3, 4, 5, 6, 7, 8, 26, 44, 45] a a' → HSt w' p X (pre ++ B) → Fr (ownS p X) w w' → K .normal a' w') :
    (regionOf Tryd.f36 11).wp Tryd.prog K a w := by
  have hK2 : ∀ a' w', Sz 77 a' → KpU [0, 2, 3, 4, 5, 6, 7, 8, 26, 44, 45] (sl a) a' → HSt w' p X (pre ++ B) → Fr (ownS p X) w w' → K .normal a' w' := hK
  clear hK
  rw [smFr_of hs]
  clear hs
  generalize sl a = u at *
  clear a
  have HK := Lib.hid hK2
  clear hK2
  conv => arg 2; whnf
  have hsl : SlR w (oneB p) 1 (some ⟨gl, 0, none⟩) 8 (u8s B) := SlR.of_bk (n := 8) (size := 1) (cs := (u8s B).toArray) hB hgp (by simp [u8s, hB8])
  have hcall := hashWrite pre B p 8 8 X (some ⟨gl, 0, none⟩) w hS hsl hb (by omega) hRk hgb hkp
  clear hS hB hRk hsl
  simp only [smFr, h0, h4]
  go_wp2_with (go_at_call 35; refine hcall.mono ?_; rintro e w9 ⟨rfl, hS9, hf9⟩)
  exact HK.out _ _  ⟨rfl, rfl⟩ (KpU.cons (h0.symm) (KpU.cons (rfl) (KpU.cons (rfl) (KpU.cons (h4.symm) (KpU.cons (rfl) (KpU.cons (rfl) (KpU.cons (rfl) (KpU.cons (rfl) (KpU.cons (rfl) (KpU.cons (rfl) (KpU.cons (rfl) (KpU.nil _ _))))))))))))  hS9 hf9

set_option maxRecDepth 20000 in
set_option maxHeartbeats 1000000 in
theorem smR13 (p : Nat) (v : S8) (a : Act) (w : World) (K : Exit → Act → World → Prop) (hs : Sz 77 a)
    (h0 : sl a 0 = .pointer (some ⟨p, 0, none⟩)) (hR : RU w p v.list)
    (hK : ∀ a' w', Sz 77 a' → Kp [0, 2, 3, 4, 5, 6, 7, 8, 26] a a' → sl a' 44 = .agg (u32s v.list).toArray → sl a' 45 = .int .i64 ((0 : Nat) : Int) → Fr noB w w' → K .normal a' w') :
    (regionOf Tryd.f36 13).wp Tryd.prog K a w := by
  have hK2 : ∀ a' w', Sz 77 a' → KpU [0, 2, 3, 4, 5, 6, 7, 8, 26] (sl a) a' → sl a' 44 = .agg (u32s v.list).toArray → sl a' 45 = .int .i64 ((0 : Nat) : Int) → Fr noB w w' → K .normal a' w' := hK
  clear hK
  rw [smFr_of hs]
  clear hs
  generalize sl a = u at *
  clear a
  have HK := Lib.hid hK2
  clear hK2
  conv => arg 2; whnf
  have c0 := hR.2 0 _ rfl
  have c1 := hR.2 1 _ rfl
  have c2 := hR.2 2 _ rfl
  have c3 := hR.2 3 _ rfl
  have c4 := hR.2 4 _ rfl
  have c5 := hR.2 5 _ rfl
  have c6 := hR.2 6 _ rfl
  have c7 := hR.2 7 _ rfl
  clear hR
  simp only [smFr, h0]
  go_wp2_with fail
  exact HK.out _ _  ⟨rfl, rfl⟩ (KpU.cons (h0.symm) (KpU.cons (rfl) (KpU.cons (rfl) (KpU.cons (rfl) (KpU.cons (rfl) (KpU.cons (rfl) (KpU.cons (rfl) (KpU.cons (rfl) (KpU.cons (rfl) (KpU.nil _ _)))))))))) (rfl) (rfl) (Fr.refl _ _)

set_option maxRecDepth 20000 in
set_option maxHeartbeats 1000000 in
theorem smR14 (i : Nat) (a : Act) (w : World) (K : Exit → Act → World → Prop) (hs : Sz 77 a)
    (h45 : sl a 45 = .int .i64 (i : Int)) (hi : i ≤ 8)
    (hK : ∀ a' w', Sz 77 a' → Kp [0, 2, 3, 4, 5, 6, 7, 8, 26, 44, 45] a a' → sl a' 46 = .bool (decide (i < 8)) → Fr noB w w' → K .normal a' w') :
    (regionOf Tryd.f36 14).wp Tryd.prog K a w := by
  have hK2 : ∀ a' w', Sz 77 a' → KpU [0, 2, 3, 4, 5, 6, 7, 8, 26, 44, 45] (sl a) a' → sl a' 46 = .bool (decide (i < 8)) → Fr noB w w' → K .normal a' w' := hK
  clear hK
  rw [smFr_of hs]
  clear hs
  generalize sl a = u at *
  clear a
  have HK := Lib.hid hK2
  clear hK2
  conv => arg 2; whnf
  simp only [smFr, h45]
  go_wp2_with fail
  exact HK.out _ _  ⟨rfl, rfl⟩ (KpU.cons (rfl) (KpU.cons (rfl) (KpU.cons (rfl) (KpU.cons (rfl) (KpU.cons (rfl) (KpU.cons (rfl) (KpU.cons (rfl) (KpU.cons (rfl) (KpU.cons (rfl) (KpU.cons (rfl) (KpU.cons (h45.symm) (KpU.nil _ _)))))))))))) (congrArg Value.bool (decide_eq_decide.2 (by omega))) (Fr.refl _ _)

set_option maxRecDepth 20000 in
set_option maxHeartbeats 1000000 in
theorem smR15 (i : Nat) (v : S8) (x : UInt32) (a : Act) (w : World) (K : Exit → Act → World → Prop) (hs : Sz 77 a)
    (h44 : sl a 44 = .agg (u32s v.list).toArray) (h45 : sl a 45 = .int .i64 (i : Int)) (hi : i < 8) (hx : v.list[i]? = some x)
    (hK : ∀ a' w', Sz 77 a' → Kp [0, 2, 3, 4, 5, 6, 26, 44, 45] a a' → sl a' 7 = .int .i64 (i : Int) → sl a' 8 = .int .u32 (x.toNat : Int) → Fr noB w w' → K .normal a' w') :
    (regionOf Tryd.f36 15).wp Tryd.prog K a w := by
  have hK2 : ∀ a' w', Sz 77 a' → KpU [0, 2, 3, 4, 5, 6, 26, 44, 45] (sl a) a' → sl a' 7 = .int .i64 (i : Int) → sl a' 8 = .int .u32 (x.toNat : Int) → Fr noB w w' → K .normal a' w' := hK
  clear hK
  rw [smFr_of hs]
  clear hs
  generalize sl a = u at *
  clear a
  have HK := Lib.hid hK2
  clear hK2
  conv => arg 2; whnf
  have hxx := u32s_get v.list i x hx
  have hrun := run_index_arr w _ i _ hi hxx
  generalize u32s v.list = vl at *
  simp only [smFr, h44, h45]
  go_wp2_with fail
  exact HK.out _ _  ⟨rfl, rfl⟩ (KpU.cons (rfl) (KpU.cons (rfl) (KpU.cons (rfl) (KpU.cons (rfl) (KpU.cons (rfl) (KpU.cons (rfl) (KpU.cons (rfl) (KpU.cons (h44.symm) (KpU.cons (h45.symm) (KpU.nil _ _)))))))))) (rfl) (rfl) (Fr.refl _ _)

set_option maxRecDepth 20000 in
set_option maxHeartbeats 1000000 in
theorem smR17 (i : Nat) (a : Act) (w : World) (K : Exit → Act → World → Prop) (hs : Sz 77 a)
    (h45 : sl a 45 = .int .i64 (i : Int)) (hi : i ≤ 8)
    (hK : ∀ a' w', Sz 77 a' → Kp [0, 2, 3, 4, 5, 6, 7, 8, 26, 44] a a' → sl a' 45 = .int .i64 ((i + 1 : Nat) : Int) → Fr noB w w' → K .normal a' w') :
    (regionOf Tryd.f36 17).wp Tryd.prog K a w := by
  have hK2 : ∀ a' w', Sz 77 a' → KpU [0, 2, 3, 4, 5, 6, 7, 8, 26, 44] (sl a) a' → sl a' 45 = .int .i64 ((i + 1 : Nat) : Int) → Fr noB w w' → K .normal a' w' := hK
  clear hK
  rw [smFr_of hs]
  clear hs
  generalize sl a = u at *
  clear a
  have HK := Lib.hid hK2
  clear hK2
  conv => arg 2; whnf
  simp only [smFr, h45]
  clear h45
  go_wp2_with fail
  exact HK.out _ _  ⟨rfl, rfl⟩ (KpU.cons (rfl) (KpU.cons (rfl) (KpU.cons (rfl) (KpU.cons (rfl) (KpU.cons (rfl) (KpU.cons (rfl) (KpU.cons (rfl) (KpU.cons (rfl) (KpU.cons (rfl) (KpU.cons (rfl) (KpU.nil _ _))))))))))) (by simp only [sl]; rfl) (Fr.refl _ _)

set_option maxRecDepth 20000 in
set_option maxHeartbeats 1000000 in
theorem smR16 (i j0 j1 j2 j3 gd : Nat) (x : UInt32) (b0 b1 b2 b3 : UInt8) (z0 z1 z2 z3 : Value) (a : Act) (w : World) (K : Exit → Act → World → Prop) (hs : Sz 77 a)
    (h6 : sl a 6 = .pointer (some ⟨gd, 0, none⟩)) (h7 : sl a 7 = .int .i64 (i : Int)) (h8 : sl a 8 = .int .u32 (x.toNat : Int)) (hi : i < 8) (hj0 : j0 = 4 * i) (hj1 : j1 = 4 * i + 1) (hj2 : j2 = 4 * i + 2) (hj3 : j3 = 4 * i + 3) (hb3 : (x.toNat : Int) / 16777216 = (b3.toNat : Int)) (hb2 : (x.toNat : Int) / 65536 % 256 = (b2.toNat : Int)) (hb1 : (x.toNat : Int) / 256 % 256 = (b1.toNat : Int)) (hb0 : (x.toNat : Int) % 256 = (b0.toNat : Int)) (c0 : w.cell? ⟨gd, j0, none⟩ = some (z0)) (f0 : w.frozen? ⟨gd, j0, none⟩ = false) (c1 : (w.setCell ⟨gd, j0, none⟩ (.int .u8 (b3.toNat : Int))).cell? ⟨gd, j1, none⟩ = some z1) (f1 : (w.setCell ⟨gd, j0, none⟩ (.int .u8 (b3.toNat : Int))).frozen? ⟨gd, j1, none⟩ = false) (c2 : ((w.setCell ⟨gd, j0, none⟩ (.int .u8 (b3.toNat : Int))).setCell ⟨gd, j1, none⟩ (.int .u8 (b2.toNat : Int))).cell? ⟨gd, j2, none⟩ = some z2) (f2 : ((w.setCell ⟨gd, j0, none⟩ (.int .u8 (b3.toNat : Int))).setCell ⟨gd, j1, none⟩ (.int .u8 (b2.toNat : Int))).frozen? ⟨gd, j2, none⟩ = false) (c3 : (((w.setCell ⟨gd, j0, none⟩ (.int .u8 (b3.toNat : Int))).setCell ⟨gd, j1, none⟩ (.int .u8 (b2.toNat : Int))).setCell ⟨gd, j2, none⟩ (.int .u8 (b1.toNat : Int))).cell? ⟨gd, j3, none⟩ = some z3) (f3 : (((w.setCell ⟨gd, j0, none⟩ (.int .u8 (b3.toNat : Int))).setCell ⟨gd, j1, none⟩ (.int .u8 (b2.toNat : Int))).setCell ⟨gd, j2, none⟩ (.int .u8 (b1.toNat : Int))).frozen? ⟨gd, j3, none⟩ = false)
    (hK : ∀ a' w', Sz 77 a' → Kp [0, 2, 3, 4, 5, 6, 7, 8, 26, 44, 45] a a' → w' = (((w.setCell ⟨gd, j0, none⟩ (.int .u8 (b3.toNat : Int))).setCell ⟨gd, j1, none⟩ (.int .u8 (b2.toNat : Int))).setCell ⟨gd, j2, none⟩ (.int .u8 (b1.toNat : Int))).setCell ⟨gd, j3, none⟩ (.int .u8 (b0.toNat : Int)) → K .normal a' w') :
    (regionOf Tryd.f36 16).wp Tryd.prog K a w := by
  have hK2 : ∀ a' w', Sz 77 a' → KpU [0, 2, 3, 4, 5, 6, 7, 8, 26, 44, 45] (sl a) a' → w' = (((w.setCell ⟨gd, j0, none⟩ (.int .u8 (b3.toNat : Int))).setCell ⟨gd, j1, none⟩ (.int .u8 (b2.toNat : Int))).setCell ⟨gd, j2, none⟩ (.int .u8 (b1.toNat : Int))).setCell ⟨gd, j3, none⟩ (.int .u8 (b0.toNat : Int)) → K .normal a' w' := hK
  clear hK
  rw [smFr_of hs]
  clear hs
  generalize sl a = u at *
  clear a
  have HK := Lib.hid hK2
  clear hK2
  conv => arg 2; whnf
  have q0 : 4 * (i : Int) = (j0 : Int) := by omega
  have q1 : (j0 : Int) + 1 = (j1 : Int) := by omega
  have q2 : (j0 : Int) + 2 = (j2 : Int) := by omega
  have q3 : (j0 : Int) + 3 = (j3 : Int) := by omega
  have l0 : j0 < 32 := by omega
  have l1 : j1 < 32 := by omega
  have l2 : j2 < 32 := by omega
  have l3 : j3 < 32 := by omega
  have hxl : (x.toNat : Int) ≤ 4294967295 := by have := x.toNat_lt; omega
  clear hj0 hj1 hj2 hj3
  simp only [smFr, h6, h7, h8]
  go_wp2_with fail
  exact HK.out _ _  ⟨rfl, rfl⟩ (KpU.cons (rfl) (KpU.cons (rfl) (KpU.cons (rfl) (KpU.cons (rfl) (KpU.cons (rfl) (KpU.cons (h6.symm) (KpU.cons (h7.symm) (KpU.cons (h8.symm) (KpU.cons (rfl) (KpU.cons (rfl) (KpU.cons (rfl) (KpU.nil _ _))))))))))))  rfl

set_option maxRecDepth 20000 in
set_option maxHeartbeats 1000000 in
theorem smR18 (gd gr : Nat) (B : List UInt8) (cs : Array Value) (a : Act) (w : World) (K : Exit → Act → World → Prop) (hs : Sz 77 a)
    (h2 : sl a 2 = .pointer (some ⟨gr, 0, none⟩)) (h6 : sl a 6 = .pointer (some ⟨gd, 0, none⟩)) (hB : Bk w gd 56 (u8s B).toArray) (hl : B.length = 32) (hr : Bk w gr 56 cs) (hcs : cs.size = 32)
    (hK : ∀ a' w', Sz 77 a' → Kp [0, 2, 3, 4, 5, 6, 7, 8, 26, 44, 45] a a' → Bk w' gr 56 (u8s B).toArray → Fr (oneB gr) w w' → K .normal a' w') :
    (regionOf Tryd.f36 18).wp Tryd.prog K a w := by
  have hK2 : ∀ a' w', Sz 77 a' → KpU [0, 2, 3, 4, 5, 6, 7, 8, 26, 44, 45] (sl a) a' → Bk w' gr 56 (u8s B).toArray → Fr (oneB gr) w w' → K .normal a' w' := hK
  clear hK
  rw [smFr_of hs]
  clear hs
  generalize sl a = u at *
  clear a
  have HK := Lib.hid hK2
  clear hK2
  conv => arg 2; whnf
  have hsz : (Tryd.prog.info? 56).map (·.size) = some 32 := by kernel_rfl
  have h32 : ((u8s B).toArray).size = 32 := by simp [u8s, hl]
  have hone : ((u8s B).toArray).all (·.oneCell') = true := by rw [Array.all_eq_true]; intro k hk; exact u8s_one B _ (by simp)
  generalize (u8s B).toArray = cb at *
  simp only [smFr, h2, h6]
  go_wp2_with (first
    | (refine wpList_load_row rfl 56 (.tmp 6) rfl gd rfl _ cb _ _ hB Tryd.underlying56 rfl (by rw [hsz, h32]) ?_)
    | (refine wpList_store_bk rfl 56 (.tmp 2) (.tmp 76) rfl gr _ _ cb rfl rfl hr (by rw [h32, hcs]) (by rw [hsz, h32]) hone ?_; intro w9 hx9 hf9))
  exact HK.out _ _  ⟨rfl, rfl⟩ (KpU.cons (rfl) (KpU.cons (h2.symm) (KpU.cons (rfl) (KpU.cons (rfl) (KpU.cons (rfl) (KpU.cons (h6.symm) (KpU.cons (rfl) (KpU.cons (rfl) (KpU.cons (rfl) (KpU.cons (rfl) (KpU.cons (rfl) (KpU.nil _ _))))))))))))  hx9 hf9

end Go.Proofs.YtcbkaiakdhiloabDoor
