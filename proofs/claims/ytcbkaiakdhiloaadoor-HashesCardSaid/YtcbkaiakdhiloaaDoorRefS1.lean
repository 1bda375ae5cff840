/- The reference's Sum: the regions of a block's round, each a text of its own. -/
import Derived.Test.YtcbkaiakdhiloaaDoorRefS
import Derived.Test.YtcbkaiakdhiloaaDoorLp
import Derived.BigQuiet
import Derived.Test.YtcbkaiakdhiloaaDoorRegU
set_option linter.unusedSimpArgs false
set_option linter.unusedVariables false
namespace Go.Proofs.YtcbkaiakdhiloaaDoor
open Go.RowKit Go.Proofs
attribute [local go_sem] bs_size bs_append bs_extract

def sumFr (u : Nat → Value) : Act := ⟨#[u 0, u 1, u 2, u 3, u 4, u 5, u 6, u 7, u 8, u 9, u 10, u 11, u 12, u 13, u 14, u 15, u 16, u 17, u 18, u 19, u 20, u 21, u 22, u 23, u 24, u 25, u 26, u 27, u 28, u 29, u 30, u 31, u 32, u 33, u 34, u 35, u 36, u 37, u 38, u 39, u 40, u 41, u 42, u 43, u 44, u 45, u 46, u 47, u 48, u 49, u 50, u 51, u 52, u 53, u 54, u 55, u 56, u 57, u 58, u 59, u 60, u 61, u 62, u 63, u 64, u 65, u 66, u 67, u 68, u 69, u 70, u 71, u 72, u 73, u 74, u 75, u 76, u 77, u 78, u 79, u 80, u 81, u 82, u 83, u 84, u 85, u 86, u 87, u 88, u 89, u 90, u 91, u 92, u 93, u 94, u 95, u 96, u 97, u 98, u 99, u 100, u 101, u 102, u 103, u 104, u 105, u 106, u 107, u 108, u 109, u 110, u 111, u 112, u 113, u 114, u 115, u 116, u 117, u 118, u 119, u 120, u 121, u 122, u 123, u 124, u 125, u 126, u 127, u 128, u 129, u 130, u 131, u 132, u 133, u 134, u 135, u 136, u 137, u 138, u 139, u 140, u 141, u 142, u 143, u 144, u 145, u 146, u 147, u 148, u 149, u 150, u 151, u 152, u 153, u 154, u 155, u 156, u 157, u 158, u 159, u 160, u 161, u 162, u 163, u 164, u 165, u 166, u 167, u 168, u 169, u 170, u 171, u 172, u 173, u 174, u 175, u 176, u 177, u 178, u 179, u 180, u 181, u 182, u 183, u 184, u 185, u 186, u 187, u 188, u 189, u 190, u 191, u 192, u 193, u 194, u 195, u 196, u 197, u 198, u 199, u 200, u 201, u 202, u 203, u 204, u 205, u 206, u 207, u 208, u 209, u 210, u 211, u 212, u 213, u 214, u 215, u 216, u 217, u 218, u 219, u 220, u 221, u 222, u 223, u 224, u 225, u 226, u 227, u 228, u 229, u 230, u 231, u 232, u 233, u 234, u 235, u 236, u 237, u 238, u 239, u 240, u 241, u 242, u 243, u 244, u 245, u 246, u 247, u 248, u 249, u 250, u 251, u 252, u 253, u 254, u 255, u 256, u 257, u 258, u 259, u 260, u 261, u 262, u 263, u 264, u 265, u 266, u 267, u 268, u 269, u 270, u 271, u 272, u 273, u 274, u 275, u 276, u 277, u 278, u 279, u 280, u 281, u 282, u 283, u 284, u 285, u 286, u 287, u 288, u 289, u 290, u 291, u 292, u 293, u 294, u 295, u 296, u 297, u 298, u 299, u 300, u 301, u 302, u 303, u 304, u 305, u 306, u 307, u 308, u 309, u 310, u 311, u 312, u 313, u 314, u 315, u 316, u 317, u 318], []⟩
set_option maxRecDepth 100000 in
theorem sumFr_eq (u : Nat → Value) : sumFr u = frN 319 u := rfl
theorem sumFr_of {a : Act} (h : Sz 319 a) : a = sumFr (sl a) := h.eq.trans (sumFr_eq _).symm
set_option maxRecDepth 100000 in
theorem sumFr_sz (u : Nat → Value) : Sz 319 (sumFr u) := ⟨rfl, rfl⟩

theorem OI.grow {w w' : World} {base : Nat} {v : Value} {l : List Nat} {w0 : World} (hO : OI w base v l) (hb : base = w0.heap.size) (hf : Fr noB w0 w) (hg : w.grownBy w' v.ownBlock) : Fr noB w0 w' := by
  refine hf.trans' (T := fun q => v.ownBlock = some q) ((Fr.refl _ _).grown hg fun g hg _ => hg) fun b hb2 he => ?_
  exfalso
  rcases hO.2 with ⟨rfl, _⟩ | ⟨g, cap, cur, rfl, hbg, _⟩
  · cases he
  · simp [Value.ownBlock] at he; omega
/-- a call of turn among reads -/
theorem turnQ (w : World) (n : Nat) (x : UInt32) (m : Int) (hm : m = 2 ∨ m = 6 ∨ m = 7 ∨ m = 11 ∨ m = 13 ∨ m = 17 ∨ m = 18 ∨ m = 19 ∨ m = 22 ∨ m = 25) :
    Calls Tryd.prog 10 #[.int .i64 (x.toNat : Int), .int .i64 m] (w.drewN n) fun e w'' => e = .returned (.int .i64 ((rotr x m.toNat).toNat : Int)) ∧ ∃ k, w'' = w.drewN k := by
  rcases hm with rfl | rfl | rfl | rfl | rfl | rfl | rfl | rfl | rfl | rfl
  · exact Calls.quiet_of (refTurn2 x _)
  · exact Calls.quiet_of (refTurn6 x _)
  · exact Calls.quiet_of (refTurn7 x _)
  · exact Calls.quiet_of (refTurn11 x _)
  · exact Calls.quiet_of (refTurn13 x _)
  · exact Calls.quiet_of (refTurn17 x _)
  · exact Calls.quiet_of (refTurn18 x _)
  · exact Calls.quiet_of (refTurn19 x _)
  · exact Calls.quiet_of (refTurn22 x _)
  · exact Calls.quiet_of (refTurn25 x _)
/-- a number more, behind other new blocks and draws -/
theorem run_app_int2 (w : World) (w0 : World) (x : Nat) (v : Value) (l : List Nat) (h : OI w w0.heap.size v l) (hf : Fr noB w0 w) (hl : l.length < 1000000) :
    ∃ v' w', (Builtin.append_ #[30, 30] 30 #[v, .slice (some ⟨w.heap.size, 0, none⟩) 1 1]).run Tryd.prog ((w.alloc (.cells #[.int .i64 (x : Int)] 3)).drew) = .ok v' w' ∧
      OI w' w0.heap.size v' (l ++ [x]) ∧ Fr noB w0 w' := by
  have hO : OI (w.alloc (.cells #[.int .i64 (x : Int)] 3)).drew w0.heap.size v l := OI.quiet h (((Fr.refl noB w).alloc _).drew)
  obtain ⟨v', w', h1, h2, h3, -⟩ := run_app_int' ((w.alloc (.cells #[.int .i64 (x : Int)] 3)).drew) w0.heap.size x w.heap.size v l hO (Bk.new w _ _)
    (by rw [show (w.alloc (.cells #[.int .i64 (x : Int)] 3)).drew.heap.size = w.heap.size + 1 from alloc_sz _ _]; exact Nat.le_succ_of_le hf.size) hl
  exact ⟨v', w', h1, h2, OI.grow hO rfl ((hf.alloc _).drew) h3⟩

set_option maxRecDepth 20000 in
set_option maxHeartbeats 1000000 in
theorem sumR12  (a : Act) (w : World) (K : Exit → Act → World → Prop) (hs : Sz 319 a)
     
    (hK : ∀ a' w', Sz 319 a' → Kp [0, 1, 4, 5, 7, 9, 10, 11, 12, 13, 14, 15, 16, 17, 18, 19, 278, 279] a a' → sl a' 8 = .slice none 0 0 → Fr noB w w' → K .normal a' w') :
    (regionOf Tryd.f6 12).wp Tryd.prog K a w := by
  have hK2 : ∀ a' w', Sz 319 a' → KpU [0, 1, 4, 5, 7, 9, 10, 11, 12, 13, 14, 15, 16, 17, 18, 19, 278, 279] (sl a) a' → sl a' 8 = .slice none 0 0 → Fr noB w w' → K .normal a' w' := hK
  clear hK
  rw [sumFr_of hs]
  clear hs
  generalize sl a = u at *
  clear a
  have HK := Lib.hid hK2
  clear hK2
  conv => arg 2; whnf
  simp only [sumFr]
  go_wp2_with fail
  exact HK.out _ _  ⟨rfl, rfl⟩ (KpU.cons (rfl) (KpU.cons (rfl) (KpU.cons (rfl) (KpU.cons (rfl) (KpU.cons (rfl) (KpU.cons (rfl) (KpU.cons (rfl) (KpU.cons (rfl) (KpU.cons (rfl) (KpU.cons (rfl) (KpU.cons (rfl) (KpU.cons (rfl) (KpU.cons (rfl) (KpU.cons (rfl) (KpU.cons (rfl) (KpU.cons (rfl) (KpU.cons (rfl) (KpU.cons (rfl) (KpU.nil _ _))))))))))))))))))) (rfl) (Fr.refl _ _)

set_option maxRecDepth 20000 in
set_option maxHeartbeats 1000000 in
theorem sumR13  (a : Act) (w : World) (K : Exit → Act → World → Prop) (hs : Sz 319 a)
     
    (hK : ∀ a' w', Sz 319 a' → Kp [0, 1, 4, 5, 7, 8, 10, 11, 12, 13, 14, 15, 16, 17, 18, 19, 278, 279] a a' → sl a' 9 = .int .i64 ((0 : Nat) : Int) → Fr noB w w' → K .normal a' w') :
    (regionOf Tryd.f6 13).wp Tryd.prog K a w := by
  have hK2 : ∀ a' w', Sz 319 a' → KpU [0, 1, 4, 5, 7, 8, 10, 11, 12, 13, 14, 15, 16, 17, 18, 19, 278, 279] (sl a) a' → sl a' 9 = .int .i64 ((0 : Nat) : Int) → Fr noB w w' → K .normal a' w' := hK
  clear hK
  rw [sumFr_of hs]
  clear hs
  generalize sl a = u at *
  clear a
  have HK := Lib.hid hK2
  clear hK2
  conv => arg 2; whnf
  simp only [sumFr]
  go_wp2_with fail
  exact HK.out _ _  ⟨rfl, rfl⟩ (KpU.cons (rfl) (KpU.cons (rfl) (KpU.cons (rfl) (KpU.cons (rfl) (KpU.cons (rfl) (KpU.cons (rfl) (KpU.cons (rfl) (KpU.cons (rfl) (KpU.cons (rfl) (KpU.cons (rfl) (KpU.cons (rfl) (KpU.cons (rfl) (KpU.cons (rfl) (KpU.cons (rfl) (KpU.cons (rfl) (KpU.cons (rfl) (KpU.cons (rfl) (KpU.cons (rfl) (KpU.nil _ _))))))))))))))))))) (rfl) (Fr.refl _ _)

set_option maxRecDepth 20000 in
set_option maxHeartbeats 1000000 in
theorem sumR14 (i : Nat) (a : Act) (w : World) (K : Exit → Act → World → Prop) (hs : Sz 319 a)
    (h9 : sl a 9 = .int .i64 (i : Int)) (hi : i ≤ 64)
    (hK : ∀ a' w', Sz 319 a' → Kp [0, 1, 4, 5, 7, 8, 9, 10, 11, 12, 13, 14, 15, 16, 17, 18, 19, 278, 279] a a' → sl a' 57 = .bool (decide (i < 64)) → Fr noB w w' → K .normal a' w') :
    (regionOf Tryd.f6 14).wp Tryd.prog K a w := by
  have hK2 : ∀ a' w', Sz 319 a' → KpU [0, 1, 4, 5, 7, 8, 9, 10, 11, 12, 13, 14, 15, 16, 17, 18, 19, 278, 279] (sl a) a' → sl a' 57 = .bool (decide (i < 64)) → Fr noB w w' → K .normal a' w' := hK
  clear hK
  rw [sumFr_of hs]
  clear hs
  generalize sl a = u at *
  clear a
  have HK := Lib.hid hK2
  clear hK2
  conv => arg 2; whnf
  simp only [sumFr, h9]
  go_wp2_with fail
  exact HK.out _ _  ⟨rfl, rfl⟩ (KpU.cons (rfl) (KpU.cons (rfl) (KpU.cons (rfl) (KpU.cons (rfl) (KpU.cons (rfl) (KpU.cons (rfl) (KpU.cons (h9.symm) (KpU.cons (rfl) (KpU.cons (rfl) (KpU.cons (rfl) (KpU.cons (rfl) (KpU.cons (rfl) (KpU.cons (rfl) (KpU.cons (rfl) (KpU.cons (rfl) (KpU.cons (rfl) (KpU.cons (rfl) (KpU.cons (rfl) (KpU.cons (rfl) (KpU.nil _ _)))))))))))))))))))) (congrArg Value.bool (decide_eq_decide.2 (by omega))) (Fr.refl _ _)

set_option maxRecDepth 20000 in
set_option maxHeartbeats 1000000 in
theorem sumR16 (i : Nat) (a : Act) (w : World) (K : Exit → Act → World → Prop) (hs : Sz 319 a)
    (h9 : sl a 9 = .int .i64 (i : Int)) (hi : i ≤ 64)
    (hK : ∀ a' w', Sz 319 a' → Kp [0, 1, 4, 5, 7, 8, 9, 10, 11, 12, 13, 14, 15, 16, 17, 18, 19, 278, 279] a a' → sl a' 61 = .bool (decide (i < 16)) → Fr noB w w' → K .normal a' w') :
    (regionOf Tryd.f6 16).wp Tryd.prog K a w := by
  have hK2 : ∀ a' w', Sz 319 a' → KpU [0, 1, 4, 5, 7, 8, 9, 10, 11, 12, 13, 14, 15, 16, 17, 18, 19, 278, 279] (sl a) a' → sl a' 61 = .bool (decide (i < 16)) → Fr noB w w' → K .normal a' w' := hK
  clear hK
  rw [sumFr_of hs]
  clear hs
  generalize sl a = u at *
  clear a
  have HK := Lib.hid hK2
  clear hK2
  conv => arg 2; whnf
  simp only [sumFr, h9]
  go_wp2_with fail
  exact HK.out _ _  ⟨rfl, rfl⟩ (KpU.cons (rfl) (KpU.cons (rfl) (KpU.cons (rfl) (KpU.cons (rfl) (KpU.cons (rfl) (KpU.cons (rfl) (KpU.cons (h9.symm) (KpU.cons (rfl) (KpU.cons (rfl) (KpU.cons (rfl) (KpU.cons (rfl) (KpU.cons (rfl) (KpU.cons (rfl) (KpU.cons (rfl) (KpU.cons (rfl) (KpU.cons (rfl) (KpU.cons (rfl) (KpU.cons (rfl) (KpU.cons (rfl) (KpU.nil _ _)))))))))))))))))))) (congrArg Value.bool (decide_eq_decide.2 (by omega))) (Fr.refl _ _)

set_option maxRecDepth 20000 in
set_option maxHeartbeats 1000000 in
theorem sumR15 (i : Nat) (a : Act) (w : World) (K : Exit → Act → World → Prop) (hs : Sz 319 a)
    (h9 : sl a 9 = .int .i64 (i : Int)) (hi : i ≤ 64)
    (hK : ∀ a' w', Sz 319 a' → Kp [0, 1, 4, 5, 7, 8, 10, 11, 12, 13, 14, 15, 16, 17, 18, 19, 278, 279] a a' → sl a' 9 = .int .i64 ((i + 1 : Nat) : Int) → Fr noB w w' → K .normal a' w') :
    (regionOf Tryd.f6 15).wp Tryd.prog K a w := by
  have hK2 : ∀ a' w', Sz 319 a' → KpU [0, 1, 4, 5, 7, 8, 10, 11, 12, 13, 14, 15, 16, 17, 18, 19, 278, 279] (sl a) a' → sl a' 9 = .int .i64 ((i + 1 : Nat) : Int) → Fr noB w w' → K .normal a' w' := hK
  clear hK
  rw [sumFr_of hs]
  clear hs
  generalize sl a = u at *
  clear a
  have HK := Lib.hid hK2
  clear hK2
  conv => arg 2; whnf
  simp only [sumFr, h9]
  clear h9
  go_wp2_with fail
  exact HK.out _ _  ⟨rfl, rfl⟩ (KpU.cons (rfl) (KpU.cons (rfl) (KpU.cons (rfl) (KpU.cons (rfl) (KpU.cons (rfl) (KpU.cons (rfl) (KpU.cons (rfl) (KpU.cons (rfl) (KpU.cons (rfl) (KpU.cons (rfl) (KpU.cons (rfl) (KpU.cons (rfl) (KpU.cons (rfl) (KpU.cons (rfl) (KpU.cons (rfl) (KpU.cons (rfl) (KpU.cons (rfl) (KpU.cons (rfl) (KpU.nil _ _))))))))))))))))))) (by simp only [sl]; rfl) (Fr.refl _ _)

set_option maxRecDepth 20000 in
set_option maxHeartbeats 1000000 in
theorem sumR18 (i g c : Nat) (x : UInt32) (a : Act) (w : World) (K : Exit → Act → World → Prop) (hs : Sz 319 a)
    (h8 : sl a 8 = .slice (some ⟨g, 0, none⟩) i c) (h9 : sl a 9 = .int .i64 (i : Int)) (hi : 16 ≤ i) (hi2 : i < 64) (hx : w.cell? ⟨g, i - 15, none⟩ = some (.int .i64 (x.toNat : Int)))
    (hK : ∀ a' w', Sz 319 a' → Kp [0, 1, 4, 5, 7, 8, 9, 11, 12, 13, 14, 15, 16, 17, 18, 19, 278, 279] a a' → sl a' 10 = .int .i64 ((sg0 x).toNat : Int) → Fr noB w w' → K .normal a' w') :
    (regionOf Tryd.f6 18).wp Tryd.prog K a w := by
  have hK2 : ∀ a' w', Sz 319 a' → KpU [0, 1, 4, 5, 7, 8, 9, 11, 12, 13, 14, 15, 16, 17, 18, 19, 278, 279] (sl a) a' → sl a' 10 = .int .i64 ((sg0 x).toNat : Int) → Fr noB w w' → K .normal a' w' := hK
  clear hK
  rw [sumFr_of hs]
  clear hs
  generalize sl a = u at *
  clear a
  have HK := Lib.hid hK2
  clear hK2
  conv => arg 2; whnf
  obtain ⟨j, hj⟩ : ∃ j, j = i - 15 := ⟨_, rfl⟩
  rw [← hj] at hx
  have q0 : (i : Int) - 15 = (j : Int) := by omega
  have q1 : j < i := by omega
  have xlx : (x.toNat : Int) ≤ 4294967295 := by have := x.toNat_lt; omega
  clear hj hi
  simp only [sumFr, h8, h9]
  go_quiet (exact turnQ _ _ _ _ (by decide))
  exact HK.out _ _  ⟨rfl, rfl⟩ (KpU.cons (rfl) (KpU.cons (rfl) (KpU.cons (rfl) (KpU.cons (rfl) (KpU.cons (rfl) (KpU.cons (h8.symm) (KpU.cons (h9.symm) (KpU.cons (rfl) (KpU.cons (rfl) (KpU.cons (rfl) (KpU.cons (rfl) (KpU.cons (rfl) (KpU.cons (rfl) (KpU.cons (rfl) (KpU.cons (rfl) (KpU.cons (rfl) (KpU.cons (rfl) (KpU.cons (rfl) (KpU.nil _ _))))))))))))))))))) (congrArg (fun v => Value.int .i64 v) (sg0w x)) ((Fr.refl _ _).drewN _)

set_option maxRecDepth 20000 in
set_option maxHeartbeats 1000000 in
theorem sumR19 (i g c : Nat) (x : UInt32) (a : Act) (w : World) (K : Exit → Act → World → Prop) (hs : Sz 319 a)
    (h8 : sl a 8 = .slice (some ⟨g, 0, none⟩) i c) (h9 : sl a 9 = .int .i64 (i : Int)) (hi : 16 ≤ i) (hi2 : i < 64) (hx : w.cell? ⟨g, i - 2, none⟩ = some (.int .i64 (x.toNat : Int)))
    (hK : ∀ a' w', Sz 319 a' → Kp [0, 1, 4, 5, 7, 8, 9, 10, 12, 13, 14, 15, 16, 17, 18, 19, 278, 279] a a' → sl a' 11 = .int .i64 ((sg1 x).toNat : Int) → Fr noB w w' → K .normal a' w') :
    (regionOf Tryd.f6 19).wp Tryd.prog K a w := by
  have hK2 : ∀ a' w', Sz 319 a' → KpU [0, 1, 4, 5, 7, 8, 9, 10, 12, 13, 14, 15, 16, 17, 18, 19, 278, 279] (sl a) a' → sl a' 11 = .int .i64 ((sg1 x).toNat : Int) → Fr noB w w' → K .normal a' w' := hK
  clear hK
  rw [sumFr_of hs]
  clear hs
  generalize sl a = u at *
  clear a
  have HK := Lib.hid hK2
  clear hK2
  conv => arg 2; whnf
  obtain ⟨j, hj⟩ : ∃ j, j = i - 2 := ⟨_, rfl⟩
  rw [← hj] at hx
  have q0 : (i : Int) - 2 = (j : Int) := by omega
  have q1 : j < i := by omega
  have xlx : (x.toNat : Int) ≤ 4294967295 := by have := x.toNat_lt; omega
  clear hj hi
  simp only [sumFr, h8, h9]
  go_quiet (exact turnQ _ _ _ _ (by decide))
  exact HK.out _ _  ⟨rfl, rfl⟩ (KpU.cons (rfl) (KpU.cons (rfl) (KpU.cons (rfl) (KpU.cons (rfl) (KpU.cons (rfl) (KpU.cons (h8.symm) (KpU.cons (h9.symm) (KpU.cons (rfl) (KpU.cons (rfl) (KpU.cons (rfl) (KpU.cons (rfl) (KpU.cons (rfl) (KpU.cons (rfl) (KpU.cons (rfl) (KpU.cons (rfl) (KpU.cons (rfl) (KpU.cons (rfl) (KpU.cons (rfl) (KpU.nil _ _))))))))))))))))))) (congrArg (fun v => Value.int .i64 v) (sg1w x)) ((Fr.refl _ _).drewN _)

set_option maxRecDepth 20000 in
set_option maxHeartbeats 1000000 in
theorem sumR17 (i : Nat) (B : List UInt8) (b0 b1 b2 b3 : UInt8) (v8 : Value) (w0 : World) (l : List Nat) (a : Act) (w : World) (K : Exit → Act → World → Prop) (hs : Sz 319 a)
    (h1 : sl a 1 = .string (bs B)) (h8 : sl a 8 = v8) (h9 : sl a 9 = .int .i64 (i : Int)) (hi : i < 16) (hB : 64 ≤ B.length) (hBl : B.length ≤ 1000000000000) (g0 : B[4 * i]? = some b0) (g1 : B[4 * i + 1]? = some b1) (g2 : B[4 * i + 2]? = some b2) (g3 : B[4 * i + 3]? = some b3) (hO : OI w w0.heap.size v8 l) (hf : Fr noB w0 w) (hl : l.length < 1000000)
    (hK : ∀ a' w', Sz 319 a' → Kp [0, 1, 4, 5, 7, 9, 10, 11, 12, 13, 14, 15, 16, 17, 18, 19, 278, 279] a a' → OI w' w0.heap.size (sl a' 8) (l ++ [(wd b0 b1 b2 b3).toNat]) → Fr noB w0 w' → K .normal a' w') :
    (regionOf Tryd.f6 17).wp Tryd.prog K a w := by
  have hK2 : ∀ a' w', Sz 319 a' → KpU [0, 1, 4, 5, 7, 9, 10, 11, 12, 13, 14, 15, 16, 17, 18, 19, 278, 279] (sl a) a' → OI w' w0.heap.size (sl a' 8) (l ++ [(wd b0 b1 b2 b3).toNat]) → Fr noB w0 w' → K .normal a' w' := hK
  clear hK
  rw [sumFr_of hs]
  clear hs
  generalize sl a = u at *
  clear a
  have HK := Lib.hid hK2
  clear hK2
  conv => arg 2; whnf
  obtain ⟨j0, hj0⟩ : ∃ j, j = 4 * i := ⟨_, rfl⟩
  obtain ⟨j1, hj1⟩ : ∃ j, j = 4 * i + 1 := ⟨_, rfl⟩
  obtain ⟨j2, hj2⟩ : ∃ j, j = 4 * i + 2 := ⟨_, rfl⟩
  obtain ⟨j3, hj3⟩ : ∃ j, j = 4 * i + 3 := ⟨_, rfl⟩
  rw [← hj1] at g1
  rw [← hj2] at g2
  rw [← hj3] at g3
  rw [← hj0] at g0
  have l0 : j0 < B.length := by omega
  have l1 : j1 < B.length := by omega
  have l2 : j2 < B.length := by omega
  have l3 : j3 < B.length := by omega
  have q0 : 4 * (i : Int) = (j0 : Int) := by omega
  have q1 : (j0 : Int) + 1 = (j1 : Int) := by omega
  have q2 : (j0 : Int) + 2 = (j2 : Int) := by omega
  have q3 : (j0 : Int) + 3 = (j3 : Int) := by omega
  replace g0 : ∀ h : j0 < (bs B).size, (bs B)[j0]'h = b0 := fun h => by rw [bs_get B j0 h]; rw [List.getElem?_eq_getElem l0] at g0; injection g0
  have z0 : (b0.toNat : Int) ≤ 255 := by have := b0.toNat_lt; omega
  replace g1 : ∀ h : j1 < (bs B).size, (bs B)[j1]'h = b1 := fun h => by rw [bs_get B j1 h]; rw [List.getElem?_eq_getElem l1] at g1; injection g1
  have z1 : (b1.toNat : Int) ≤ 255 := by have := b1.toNat_lt; omega
  replace g2 : ∀ h : j2 < (bs B).size, (bs B)[j2]'h = b2 := fun h => by rw [bs_get B j2 h]; rw [List.getElem?_eq_getElem l2] at g2; injection g2
  have z2 : (b2.toNat : Int) ≤ 255 := by have := b2.toNat_lt; omega
  replace g3 : ∀ h : j3 < (bs B).size, (bs B)[j3]'h = b3 := fun h => by rw [bs_get B j3 h]; rw [List.getElem?_eq_getElem l3] at g3; injection g3
  have z3 : (b3.toNat : Int) ≤ 255 := by have := b3.toNat_lt; omega
  obtain ⟨x, hx⟩ : ∃ x, x = wd b0 b1 b2 b3 := ⟨_, rfl⟩
  have hxv := wdw b0 b1 b2 b3
  rw [← hx] at hxv HK
  obtain ⟨v', w3, hap, hO3, hf3⟩ := run_app_int2 w w0 x.toNat v8 l hO hf hl
  obtain ⟨wX, hXe⟩ : ∃ z, z = (w.alloc (.cells #[.int .i64 (x.toNat : Int)] 3)).drew := ⟨_, rfl⟩
  rw [← hXe] at hap
  have HXe := Lib.hid hXe
  have HO3 := Lib.hid hO3
  have Hf3 := Lib.hid hf3
  clear hO hf hO3 hf3 hx hj0 hj1 hj2 hj3 hB hXe
  simp only [sumFr, h1, h8, h9]
  clear h8
  obtain ⟨V, hV⟩ : ∃ V : Nat → Value, V = (fun jj => match jj with | 0 => v8 | 1 => .string (bs B) | 2 => .int .i64 (i : Int) | 3 => .int .i64 (j0 : Int) | 4 => .int .u8 (b0.toNat : Int) | 5 => .int .i64 (b0.toNat : Int) | 6 => .int .i64 ((b0.toNat : Int) * 16777216) | 7 => .string (bs B) | 8 => .int .i64 (i : Int) | 9 => .int .i64 (j0 : Int) | 10 => .int .i64 (j1 : Int) | 11 => .int .u8 (b1.toNat : Int) | 12 => .int .i64 (b1.toNat : Int) | 13 => .int .i64 ((b1.toNat : Int) * 65536) | 14 => .int .i64 ((b0.toNat : Int) * 16777216 + (b1.toNat : Int) * 65536) | 15 => .string (bs B) | 16 => .int .i64 (i : Int) | 17 => .int .i64 (j0 : Int) | 18 => .int .i64 (j2 : Int) | 19 => .int .u8 (b2.toNat : Int) | 20 => .int .i64 (b2.toNat : Int) | 21 => .int .i64 ((b2.toNat : Int) * 256) | 22 => .int .i64 ((b0.toNat : Int) * 16777216 + (b1.toNat : Int) * 65536 + (b2.toNat : Int) * 256) | 23 => .string (bs B) | 24 => .int .i64 (i : Int) | 25 => .int .i64 (j0 : Int) | 26 => .int .i64 (j3 : Int) | 27 => .int .u8 (b3.toNat : Int) | 28 => .int .i64 (b3.toNat : Int) | 29 => .int .i64 (x.toNat : Int) | 30 => .slice (some ⟨w.heap.size, 0, none⟩) 1 1 | 31 => v' | 32 => v' | _ => undef) := ⟨_, rfl⟩
  have q_0 : V 0 = v8 := congrFun hV 0
  have q_1 : V 1 = .string (bs B) := congrFun hV 1
  have q_2 : V 2 = .int .i64 (i : Int) := congrFun hV 2
  have q_3 : V 3 = .int .i64 (j0 : Int) := congrFun hV 3
  have q_4 : V 4 = .int .u8 (b0.toNat : Int) := congrFun hV 4
  have q_5 : V 5 = .int .i64 (b0.toNat : Int) := congrFun hV 5
  have q_6 : V 6 = .int .i64 ((b0.toNat : Int) * 16777216) := congrFun hV 6
  have q_7 : V 7 = .string (bs B) := congrFun hV 7
  have q_8 : V 8 = .int .i64 (i : Int) := congrFun hV 8
  have q_9 : V 9 = .int .i64 (j0 : Int) := congrFun hV 9
  have q_10 : V 10 = .int .i64 (j1 : Int) := congrFun hV 10
  have q_11 : V 11 = .int .u8 (b1.toNat : Int) := congrFun hV 11
  have q_12 : V 12 = .int .i64 (b1.toNat : Int) := congrFun hV 12
  have q_13 : V 13 = .int .i64 ((b1.toNat : Int) * 65536) := congrFun hV 13
  have q_14 : V 14 = .int .i64 ((b0.toNat : Int) * 16777216 + (b1.toNat : Int) * 65536) := congrFun hV 14
  have q_15 : V 15 = .string (bs B) := congrFun hV 15
  have q_16 : V 16 = .int .i64 (i : Int) := congrFun hV 16
  have q_17 : V 17 = .int .i64 (j0 : Int) := congrFun hV 17
  have q_18 : V 18 = .int .i64 (j2 : Int) := congrFun hV 18
  have q_19 : V 19 = .int .u8 (b2.toNat : Int) := congrFun hV 19
  have q_20 : V 20 = .int .i64 (b2.toNat : Int) := congrFun hV 20
  have q_21 : V 21 = .int .i64 ((b2.toNat : Int) * 256) := congrFun hV 21
  have q_22 : V 22 = .int .i64 ((b0.toNat : Int) * 16777216 + (b1.toNat : Int) * 65536 + (b2.toNat : Int) * 256) := congrFun hV 22
  have q_23 : V 23 = .string (bs B) := congrFun hV 23
  have q_24 : V 24 = .int .i64 (i : Int) := congrFun hV 24
  have q_25 : V 25 = .int .i64 (j0 : Int) := congrFun hV 25
  have q_26 : V 26 = .int .i64 (j3 : Int) := congrFun hV 26
  have q_27 : V 27 = .int .u8 (b3.toNat : Int) := congrFun hV 27
  have q_28 : V 28 = .int .i64 (b3.toNat : Int) := congrFun hV 28
  have q_29 : V 29 = .int .i64 (x.toNat : Int) := congrFun hV 29
  have q_30 : V 30 = .slice (some ⟨w.heap.size, 0, none⟩) 1 1 := congrFun hV 30
  have q_31 : V 31 = v' := congrFun hV 31
  have q_32 : V 32 = v' := congrFun hV 32
  clear hV
  refine wp_region_ssac (by kernel_rfl) (by kernel_rfl) (by kernel_rfl)
    (fun y => ⟨List.toArray (u 0 :: .string (bs B) :: u 2 :: u 3 :: u 4 :: u 5 :: u 6 :: u 7 :: y 32 :: .int .i64 (i : Int) :: u 10 :: u 11 :: u 12 :: u 13 :: u 14 :: u 15 :: u 16 :: u 17 :: u 18 :: u 19 :: u 20 :: u 21 :: u 22 :: u 23 :: u 24 :: u 25 :: u 26 :: u 27 :: u 28 :: u 29 :: u 30 :: u 31 :: u 32 :: u 33 :: u 34 :: u 35 :: u 36 :: u 37 :: u 38 :: u 39 :: u 40 :: u 41 :: u 42 :: u 43 :: u 44 :: u 45 :: u 46 :: u 47 :: u 48 :: u 49 :: u 50 :: u 51 :: u 52 :: u 53 :: u 54 :: u 55 :: u 56 :: u 57 :: u 58 :: u 59 :: u 60 :: u 61 :: y 0 :: y 1 :: y 2 :: y 3 :: y 4 :: y 5 :: y 6 :: y 7 :: y 8 :: y 9 :: y 10 :: y 11 :: y 12 :: y 13 :: y 14 :: y 15 :: y 16 :: y 17 :: y 18 :: y 19 :: y 20 :: y 21 :: y 22 :: y 23 :: y 24 :: y 25 :: y 26 :: y 27 :: y 28 :: y 29 :: y 30 :: y 31 :: u 94 :: u 95 :: u 96 :: u 97 :: u 98 :: u 99 :: u 100 :: u 101 :: u 102 :: u 103 :: u 104 :: u 105 :: u 106 :: u 107 :: u 108 :: u 109 :: u 110 :: u 111 :: u 112 :: u 113 :: u 114 :: u 115 :: u 116 :: u 117 :: u 118 :: u 119 :: u 120 :: u 121 :: u 122 :: u 123 :: u 124 :: u 125 :: u 126 :: u 127 :: u 128 :: u 129 :: u 130 :: u 131 :: u 132 :: u 133 :: u 134 :: u 135 :: u 136 :: u 137 :: u 138 :: u 139 :: u 140 :: u 141 :: u 142 :: u 143 :: u 144 :: u 145 :: u 146 :: u 147 :: u 148 :: u 149 :: u 150 :: u 151 :: u 152 :: u 153 :: u 154 :: u 155 :: u 156 :: u 157 :: u 158 :: u 159 :: u 160 :: u 161 :: u 162 :: u 163 :: u 164 :: u 165 :: u 166 :: u 167 :: u 168 :: u 169 :: u 170 :: u 171 :: u 172 :: u 173 :: u 174 :: u 175 :: u 176 :: u 177 :: u 178 :: u 179 :: u 180 :: u 181 :: u 182 :: u 183 :: u 184 :: u 185 :: u 186 :: u 187 :: u 188 :: u 189 :: u 190 :: u 191 :: u 192 :: u 193 :: u 194 :: u 195 :: u 196 :: u 197 :: u 198 :: u 199 :: u 200 :: u 201 :: u 202 :: u 203 :: u 204 :: u 205 :: u 206 :: u 207 :: u 208 :: u 209 :: u 210 :: u 211 :: u 212 :: u 213 :: u 214 :: u 215 :: u 216 :: u 217 :: u 218 :: u 219 :: u 220 :: u 221 :: u 222 :: u 223 :: u 224 :: u 225 :: u 226 :: u 227 :: u 228 :: u 229 :: u 230 :: u 231 :: u 232 :: u 233 :: u 234 :: u 235 :: u 236 :: u 237 :: u 238 :: u 239 :: u 240 :: u 241 :: u 242 :: u 243 :: u 244 :: u 245 :: u 246 :: u 247 :: u 248 :: u 249 :: u 250 :: u 251 :: u 252 :: u 253 :: u 254 :: u 255 :: u 256 :: u 257 :: u 258 :: u 259 :: u 260 :: u 261 :: u 262 :: u 263 :: u 264 :: u 265 :: u 266 :: u 267 :: u 268 :: u 269 :: u 270 :: u 271 :: u 272 :: u 273 :: u 274 :: u 275 :: u 276 :: u 277 :: u 278 :: u 279 :: u 280 :: u 281 :: u 282 :: u 283 :: u 284 :: u 285 :: u 286 :: u 287 :: u 288 :: u 289 :: u 290 :: u 291 :: u 292 :: u 293 :: u 294 :: u 295 :: u 296 :: u 297 :: u 298 :: u 299 :: u 300 :: u 301 :: u 302 :: u 303 :: u 304 :: u 305 :: u 306 :: u 307 :: u 308 :: u 309 :: u 310 :: u 311 :: u 312 :: u 313 :: u 314 :: u 315 :: u 316 :: u 317 :: u 318 :: []), []⟩)
    (fun j v _ => v = V j)
    (fun L y w4 => (L 32 = false → y 32 = v8) ∧ w4 = if L 31 = true then w3 else if L 30 = true then wX else w.drew) (fun j => (([u 62, u 63, u 64, u 65, u 66, u 67, u 68, u 69, u 70, u 71, u 72, u 73, u 74, u 75, u 76, u 77, u 78, u 79, u 80, u 81, u 82, u 83, u 84, u 85, u 86, u 87, u 88, u 89, u 90, u 91, u 92, u 93, v8] : List Value).getD j undef)) ⟨fun _ => rfl, rfl⟩ ?_ ?_
  · rintro L y w4 i o hcl ⟨hI, hG⟩ hΦ ho hL hd K2 hK2
    match i, ho with
    | 0, ho =>
      simp at ho; subst ho
      have HG := Lib.hid hG
      clear hΦ hd hG
      first | go_big_move | go_big_op
      have hnl : L 32 = false := by cases h : L 32 with | false => rfl | true => exact (by rw [(hcl.dep 31 0 (hcl.dep 32 31 h (by rfl)) (by rfl))] at hL; cases hL)
      have hy := hI hnl
      exact hK2 _ _ (by first | exact q_0.symm | (rw [q_0]; first | assumption | exact hy | exact hI (by assumption))) ⟨hI, HG.out⟩ (fun _ _ _ h => h)
    | 1, ho =>
      simp at ho; subst ho
      have HG := Lib.hid hG
      clear hΦ hd hG
      first | go_big_move | go_big_op
      exact hK2 _ _ (by first | exact q_1.symm | (rw [q_1]; first | assumption | exact hy | exact hI (by assumption))) ⟨hI, HG.out⟩ (fun _ _ _ h => h)
    | 2, ho =>
      simp at ho; subst ho
      have HG := Lib.hid hG
      clear hΦ hd hG
      first | go_big_move | go_big_op
      exact hK2 _ _ (by first | exact q_2.symm | (rw [q_2]; first | assumption | exact hy | exact hI (by assumption))) ⟨hI, HG.out⟩ (fun _ _ _ h => h)
    | 3, ho =>
      simp at ho; subst ho
      have hu2 : y 2 = V 2 := hΦ 2 (hd ⟨2, .data⟩ (by simp) (by rfl))
      rw [q_2] at hu2
      have HG := Lib.hid hG
      clear hΦ hd hG
      first | go_big_move | go_big_op
      exact hK2 _ _ (by first | exact q_3.symm | (rw [q_3]; first | assumption | exact hy | exact hI (by assumption))) ⟨hI, HG.out⟩ (fun _ _ _ h => h)
    | 4, ho =>
      simp at ho; subst ho
      have hu1 : y 1 = V 1 := hΦ 1 (hd ⟨1, .data⟩ (by simp) (by rfl))
      rw [q_1] at hu1
      have hu3 : y 3 = V 3 := hΦ 3 (hd ⟨3, .data⟩ (by simp) (by rfl))
      rw [q_3] at hu3
      have HG := Lib.hid hG
      clear hΦ hd hG
      first | go_big_move | go_big_op
      exact hK2 _ _ (by first | exact q_4.symm | (rw [q_4]; first | assumption | exact hy | exact hI (by assumption))) ⟨hI, HG.out⟩ (fun _ _ _ h => h)
    | 5, ho =>
      simp at ho; subst ho
      have hu4 : y 4 = V 4 := hΦ 4 (hd ⟨4, .data⟩ (by simp) (by rfl))
      rw [q_4] at hu4
      have HG := Lib.hid hG
      clear hΦ hd hG
      first | go_big_move | go_big_op
      exact hK2 _ _ (by first | exact q_5.symm | (rw [q_5]; first | assumption | exact hy | exact hI (by assumption))) ⟨hI, HG.out⟩ (fun _ _ _ h => h)
    | 6, ho =>
      simp at ho; subst ho
      have hu5 : y 5 = V 5 := hΦ 5 (hd ⟨5, .data⟩ (by simp) (by rfl))
      rw [q_5] at hu5
      have HG := Lib.hid hG
      clear hΦ hd hG
      first | go_big_move | go_big_op
      exact hK2 _ _ (by first | exact q_6.symm | (rw [q_6]; first | assumption | exact hy | exact hI (by assumption))) ⟨hI, HG.out⟩ (fun _ _ _ h => h)
    | 7, ho =>
      simp at ho; subst ho
      have HG := Lib.hid hG
      clear hΦ hd hG
      first | go_big_move | go_big_op
      exact hK2 _ _ (by first | exact q_7.symm | (rw [q_7]; first | assumption | exact hy | exact hI (by assumption))) ⟨hI, HG.out⟩ (fun _ _ _ h => h)
    | 8, ho =>
      simp at ho; subst ho
      have HG := Lib.hid hG
      clear hΦ hd hG
      first | go_big_move | go_big_op
      exact hK2 _ _ (by first | exact q_8.symm | (rw [q_8]; first | assumption | exact hy | exact hI (by assumption))) ⟨hI, HG.out⟩ (fun _ _ _ h => h)
    | 9, ho =>
      simp at ho; subst ho
      have hu8 : y 8 = V 8 := hΦ 8 (hd ⟨8, .data⟩ (by simp) (by rfl))
      rw [q_8] at hu8
      have HG := Lib.hid hG
      clear hΦ hd hG
      first | go_big_move | go_big_op
      exact hK2 _ _ (by first | exact q_9.symm | (rw [q_9]; first | assumption | exact hy | exact hI (by assumption))) ⟨hI, HG.out⟩ (fun _ _ _ h => h)
    | 10, ho =>
      simp at ho; subst ho
      have hu9 : y 9 = V 9 := hΦ 9 (hd ⟨9, .data⟩ (by simp) (by rfl))
      rw [q_9] at hu9
      have HG := Lib.hid hG
      clear hΦ hd hG
      first | go_big_move | go_big_op
      exact hK2 _ _ (by first | exact q_10.symm | (rw [q_10]; first | assumption | exact hy | exact hI (by assumption))) ⟨hI, HG.out⟩ (fun _ _ _ h => h)
    | 11, ho =>
      simp at ho; subst ho
      have hu7 : y 7 = V 7 := hΦ 7 (hd ⟨7, .data⟩ (by simp) (by rfl))
      rw [q_7] at hu7
      have hu10 : y 10 = V 10 := hΦ 10 (hd ⟨10, .data⟩ (by simp) (by rfl))
      rw [q_10] at hu10
      have HG := Lib.hid hG
      clear hΦ hd hG
      first | go_big_move | go_big_op
      exact hK2 _ _ (by first | exact q_11.symm | (rw [q_11]; first | assumption | exact hy | exact hI (by assumption))) ⟨hI, HG.out⟩ (fun _ _ _ h => h)
    | 12, ho =>
      simp at ho; subst ho
      have hu11 : y 11 = V 11 := hΦ 11 (hd ⟨11, .data⟩ (by simp) (by rfl))
      rw [q_11] at hu11
      have HG := Lib.hid hG
      clear hΦ hd hG
      first | go_big_move | go_big_op
      exact hK2 _ _ (by first | exact q_12.symm | (rw [q_12]; first | assumption | exact hy | exact hI (by assumption))) ⟨hI, HG.out⟩ (fun _ _ _ h => h)
    | 13, ho =>
      simp at ho; subst ho
      have hu12 : y 12 = V 12 := hΦ 12 (hd ⟨12, .data⟩ (by simp) (by rfl))
      rw [q_12] at hu12
      have HG := Lib.hid hG
      clear hΦ hd hG
      first | go_big_move | go_big_op
      exact hK2 _ _ (by first | exact q_13.symm | (rw [q_13]; first | assumption | exact hy | exact hI (by assumption))) ⟨hI, HG.out⟩ (fun _ _ _ h => h)
    | 14, ho =>
      simp at ho; subst ho
      have hu6 : y 6 = V 6 := hΦ 6 (hd ⟨6, .data⟩ (by simp) (by rfl))
      rw [q_6] at hu6
      have hu13 : y 13 = V 13 := hΦ 13 (hd ⟨13, .data⟩ (by simp) (by rfl))
      rw [q_13] at hu13
      have HG := Lib.hid hG
      clear hΦ hd hG
      first | go_big_move | go_big_op
      exact hK2 _ _ (by first | exact q_14.symm | (rw [q_14]; first | assumption | exact hy | exact hI (by assumption))) ⟨hI, HG.out⟩ (fun _ _ _ h => h)
    | 15, ho =>
      simp at ho; subst ho
      have HG := Lib.hid hG
      clear hΦ hd hG
      first | go_big_move | go_big_op
      exact hK2 _ _ (by first | exact q_15.symm | (rw [q_15]; first | assumption | exact hy | exact hI (by assumption))) ⟨hI, HG.out⟩ (fun _ _ _ h => h)
    | 16, ho =>
      simp at ho; subst ho
      have HG := Lib.hid hG
      clear hΦ hd hG
      first | go_big_move | go_big_op
      exact hK2 _ _ (by first | exact q_16.symm | (rw [q_16]; first | assumption | exact hy | exact hI (by assumption))) ⟨hI, HG.out⟩ (fun _ _ _ h => h)
    | 17, ho =>
      simp at ho; subst ho
      have hu16 : y 16 = V 16 := hΦ 16 (hd ⟨16, .data⟩ (by simp) (by rfl))
      rw [q_16] at hu16
      have HG := Lib.hid hG
      clear hΦ hd hG
      first | go_big_move | go_big_op
      exact hK2 _ _ (by first | exact q_17.symm | (rw [q_17]; first | assumption | exact hy | exact hI (by assumption))) ⟨hI, HG.out⟩ (fun _ _ _ h => h)
    | 18, ho =>
      simp at ho; subst ho
      have hu17 : y 17 = V 17 := hΦ 17 (hd ⟨17, .data⟩ (by simp) (by rfl))
      rw [q_17] at hu17
      have HG := Lib.hid hG
      clear hΦ hd hG
      first | go_big_move | go_big_op
      exact hK2 _ _ (by first | exact q_18.symm | (rw [q_18]; first | assumption | exact hy | exact hI (by assumption))) ⟨hI, HG.out⟩ (fun _ _ _ h => h)
    | 19, ho =>
      simp at ho; subst ho
      have hu15 : y 15 = V 15 := hΦ 15 (hd ⟨15, .data⟩ (by simp) (by rfl))
      rw [q_15] at hu15
      have hu18 : y 18 = V 18 := hΦ 18 (hd ⟨18, .data⟩ (by simp) (by rfl))
      rw [q_18] at hu18
      have HG := Lib.hid hG
      clear hΦ hd hG
      first | go_big_move | go_big_op
      exact hK2 _ _ (by first | exact q_19.symm | (rw [q_19]; first | assumption | exact hy | exact hI (by assumption))) ⟨hI, HG.out⟩ (fun _ _ _ h => h)
    | 20, ho =>
      simp at ho; subst ho
      have hu19 : y 19 = V 19 := hΦ 19 (hd ⟨19, .data⟩ (by simp) (by rfl))
      rw [q_19] at hu19
      have HG := Lib.hid hG
      clear hΦ hd hG
      first | go_big_move | go_big_op
      exact hK2 _ _ (by first | exact q_20.symm | (rw [q_20]; first | assumption | exact hy | exact hI (by assumption))) ⟨hI, HG.out⟩ (fun _ _ _ h => h)
    | 21, ho =>
      simp at ho; subst ho
      have hu20 : y 20 = V 20 := hΦ 20 (hd ⟨20, .data⟩ (by simp) (by rfl))
      rw [q_20] at hu20
      have HG := Lib.hid hG
      clear hΦ hd hG
      first | go_big_move | go_big_op
      exact hK2 _ _ (by first | exact q_21.symm | (rw [q_21]; first | assumption | exact hy | exact hI (by assumption))) ⟨hI, HG.out⟩ (fun _ _ _ h => h)
    | 22, ho =>
      simp at ho; subst ho
      have hu14 : y 14 = V 14 := hΦ 14 (hd ⟨14, .data⟩ (by simp) (by rfl))
      rw [q_14] at hu14
      have hu21 : y 21 = V 21 := hΦ 21 (hd ⟨21, .data⟩ (by simp) (by rfl))
      rw [q_21] at hu21
      have HG := Lib.hid hG
      clear hΦ hd hG
      first | go_big_move | go_big_op
      exact hK2 _ _ (by first | exact q_22.symm | (rw [q_22]; first | assumption | exact hy | exact hI (by assumption))) ⟨hI, HG.out⟩ (fun _ _ _ h => h)
    | 23, ho =>
      simp at ho; subst ho
      have HG := Lib.hid hG
      clear hΦ hd hG
      first | go_big_move | go_big_op
      exact hK2 _ _ (by first | exact q_23.symm | (rw [q_23]; first | assumption | exact hy | exact hI (by assumption))) ⟨hI, HG.out⟩ (fun _ _ _ h => h)
    | 24, ho =>
      simp at ho; subst ho
      have HG := Lib.hid hG
      clear hΦ hd hG
      first | go_big_move | go_big_op
      exact hK2 _ _ (by first | exact q_24.symm | (rw [q_24]; first | assumption | exact hy | exact hI (by assumption))) ⟨hI, HG.out⟩ (fun _ _ _ h => h)
    | 25, ho =>
      simp at ho; subst ho
      have hu24 : y 24 = V 24 := hΦ 24 (hd ⟨24, .data⟩ (by simp) (by rfl))
      rw [q_24] at hu24
      have HG := Lib.hid hG
      clear hΦ hd hG
      first | go_big_move | go_big_op
      exact hK2 _ _ (by first | exact q_25.symm | (rw [q_25]; first | assumption | exact hy | exact hI (by assumption))) ⟨hI, HG.out⟩ (fun _ _ _ h => h)
    | 26, ho =>
      simp at ho; subst ho
      have hu25 : y 25 = V 25 := hΦ 25 (hd ⟨25, .data⟩ (by simp) (by rfl))
      rw [q_25] at hu25
      have HG := Lib.hid hG
      clear hΦ hd hG
      first | go_big_move | go_big_op
      exact hK2 _ _ (by first | exact q_26.symm | (rw [q_26]; first | assumption | exact hy | exact hI (by assumption))) ⟨hI, HG.out⟩ (fun _ _ _ h => h)
    | 27, ho =>
      simp at ho; subst ho
      have hu23 : y 23 = V 23 := hΦ 23 (hd ⟨23, .data⟩ (by simp) (by rfl))
      rw [q_23] at hu23
      have hu26 : y 26 = V 26 := hΦ 26 (hd ⟨26, .data⟩ (by simp) (by rfl))
      rw [q_26] at hu26
      have HG := Lib.hid hG
      clear hΦ hd hG
      first | go_big_move | go_big_op
      exact hK2 _ _ (by first | exact q_27.symm | (rw [q_27]; first | assumption | exact hy | exact hI (by assumption))) ⟨hI, HG.out⟩ (fun _ _ _ h => h)
    | 28, ho =>
      simp at ho; subst ho
      have hu27 : y 27 = V 27 := hΦ 27 (hd ⟨27, .data⟩ (by simp) (by rfl))
      rw [q_27] at hu27
      have HG := Lib.hid hG
      clear hΦ hd hG
      first | go_big_move | go_big_op
      exact hK2 _ _ (by first | exact q_28.symm | (rw [q_28]; first | assumption | exact hy | exact hI (by assumption))) ⟨hI, HG.out⟩ (fun _ _ _ h => h)
    | 29, ho =>
      simp at ho; subst ho
      have hu22 : y 22 = V 22 := hΦ 22 (hd ⟨22, .data⟩ (by simp) (by rfl))
      rw [q_22] at hu22
      have hu28 : y 28 = V 28 := hΦ 28 (hd ⟨28, .data⟩ (by simp) (by rfl))
      rw [q_28] at hu28
      have HG := Lib.hid hG
      clear hΦ hd hG
      first | go_big_move | go_big_op
      exact hK2 _ _ (by first | exact q_29.symm | (rw [q_29]; first | assumption | exact hy | exact hI (by assumption))) ⟨hI, HG.out⟩ (fun _ _ _ h => h)
    | 30, ho =>
      simp at ho; subst ho
      have hu29 : y 29 = V 29 := hΦ 29 (hd ⟨29, .data⟩ (by simp) (by rfl))
      rw [q_29] at hu29
      have hna : ¬ L 31 = true := fun h => by have h2 := (hcl.dep 31 30 h (by rfl)); rw [hL] at h2; cases h2
      rw [if_neg hna] at hG
      rw [if_neg (by rw [hL]; decide)] at hG
      subst hG
      clear hΦ hd
      clear hap
      go_big_op
      refine hK2 _ _ q_30.symm ⟨hI, ?_⟩ (fun _ _ _ h => h)
      rw [if_neg (show ¬ mark L 30 31 = true from hna), if_pos (show mark L 30 30 = true from rfl), HXe.out]; try rfl
    | 31, ho =>
      simp at ho; subst ho
      have hu0 : y 0 = V 0 := hΦ 0 (hd ⟨0, .data⟩ (by simp) (by rfl))
      rw [q_0] at hu0
      have hu30 : y 30 = V 30 := hΦ 30 (hd ⟨30, .data⟩ (by simp) (by rfl))
      rw [q_30] at hu30
      have hb : L 30 = true := hd ⟨30, .data⟩ (by simp) (by rfl)
      rw [if_neg (by rw [hL]; decide), if_pos hb] at hG
      subst hG
      clear hΦ hd
      refine wp_append_run _ _ _ _ rfl hap hu0 hu30 ?_
      refine hK2 _ _ q_31.symm ⟨hI, ?_⟩ (fun _ _ _ h => h)
      rw [if_pos (show mark L 31 31 = true from rfl)]
    | 32, ho =>
      simp at ho; subst ho
      have hu31 : y 31 = V 31 := hΦ 31 (hd ⟨31, .data⟩ (by simp) (by rfl))
      rw [q_31] at hu31
      have HG := Lib.hid hG
      clear hΦ hd hG
      first | go_big_move | go_big_op
      exact hK2 _ _ (by first | exact q_32.symm | (rw [q_32]; first | assumption | exact hy | exact hI (by assumption))) ⟨fun h => absurd (show (true : Bool) = false from h) (by decide), HG.out⟩ (fun _ _ _ h => h)
  rintro y w4 hΦ L hall ⟨hI, hG⟩
  rw [if_pos (hall 31 (by decide))] at hG
  subst hG
  have hlast := hΦ 32 (by decide)
  rw [q_32] at hlast
  exact HK.out _ _  ⟨rfl, rfl⟩ (KpU.cons (rfl) (KpU.cons (h1.symm) (KpU.cons (rfl) (KpU.cons (rfl) (KpU.cons (rfl) (KpU.cons (h9.symm) (KpU.cons (rfl) (KpU.cons (rfl) (KpU.cons (rfl) (KpU.cons (rfl) (KpU.cons (rfl) (KpU.cons (rfl) (KpU.cons (rfl) (KpU.cons (rfl) (KpU.cons (rfl) (KpU.cons (rfl) (KpU.cons (rfl) (KpU.cons (rfl) (KpU.nil _ _)))))))))))))))))))  (by show OI _ _ (y 32) _; rw [hlast]; exact HO3.out) Hf3.out

set_option maxRecDepth 20000 in
set_option maxHeartbeats 1000000 in
theorem sumR20 (i g c : Nat) (x y p q : UInt32) (w0 : World) (l : List Nat) (a : Act) (w : World) (K : Exit → Act → World → Prop) (hs : Sz 319 a)
    (h8 : sl a 8 = .slice (some ⟨g, 0, none⟩) i c) (h9 : sl a 9 = .int .i64 (i : Int)) (h10 : sl a 10 = .int .i64 (p.toNat : Int)) (h11 : sl a 11 = .int .i64 (q.toNat : Int)) (hi : 16 ≤ i) (hi2 : i < 64) (hx : w.cell? ⟨g, i - 16, none⟩ = some (.int .i64 (x.toNat : Int))) (hy : w.cell? ⟨g, i - 7, none⟩ = some (.int .i64 (y.toNat : Int))) (hO : OI w w0.heap.size (.slice (some ⟨g, 0, none⟩) i c) l) (hf : Fr noB w0 w) (hl : l.length < 1000000)
    (hK : ∀ a' w', Sz 319 a' → Kp [0, 1, 4, 5, 7, 9, 10, 11, 12, 13, 14, 15, 16, 17, 18, 19, 278, 279] a a' → OI w' w0.heap.size (sl a' 8) (l ++ [(x + p + y + q).toNat]) → Fr noB w0 w' → K .normal a' w') :
    (regionOf Tryd.f6 20).wp Tryd.prog K a w := by
  have hK2 : ∀ a' w', Sz 319 a' → KpU [0, 1, 4, 5, 7, 9, 10, 11, 12, 13, 14, 15, 16, 17, 18, 19, 278, 279] (sl a) a' → OI w' w0.heap.size (sl a' 8) (l ++ [(x + p + y + q).toNat]) → Fr noB w0 w' → K .normal a' w' := hK
  clear hK
  rw [sumFr_of hs]
  clear hs
  generalize sl a = u at *
  clear a
  have HK := Lib.hid hK2
  clear hK2
  conv => arg 2; whnf
  obtain ⟨j, hj⟩ : ∃ j, j = i - 16 := ⟨_, rfl⟩
  obtain ⟨k, hk⟩ : ∃ k, k = i - 7 := ⟨_, rfl⟩
  rw [← hj] at hx
  rw [← hk] at hy
  have q0 : (i : Int) - 16 = (j : Int) := by omega
  have q1 : j < i := by omega
  have q2 : (i : Int) - 7 = (k : Int) := by omega
  have q3 : k < i := by omega
  have hg := hO.lt g rfl
  have hx2 : ∀ o, (w.alloc o).cell? ⟨g, j, none⟩ = some (.int .i64 (x.toNat : Int)) := fun o => (((Fr.refl noB w).alloc o).cell (a := ⟨g, j, none⟩) hg.2 id).trans hx
  have hy2 : ∀ o, (w.alloc o).cell? ⟨g, k, none⟩ = some (.int .i64 (y.toNat : Int)) := fun o => (((Fr.refl noB w).alloc o).cell (a := ⟨g, k, none⟩) hg.2 id).trans hy
  have xlx : (x.toNat : Int) ≤ 4294967295 := by have := x.toNat_lt; omega
  have xly : (y.toNat : Int) ≤ 4294967295 := by have := y.toNat_lt; omega
  have xlp : (p.toNat : Int) ≤ 4294967295 := by have := p.toNat_lt; omega
  have xlq : (q.toNat : Int) ≤ 4294967295 := by have := q.toNat_lt; omega
  have hs := add4w x p y q
  obtain ⟨r, hr⟩ : ∃ r, r = x + p + y + q := ⟨_, rfl⟩
  rw [← hr] at hs HK
  obtain ⟨v', w3, hap, hO3, hf3⟩ := run_app_int2 w w0 r.toNat _ l hO hf hl
  obtain ⟨wX, hXe⟩ : ∃ z, z = (w.alloc (.cells #[.int .i64 (r.toNat : Int)] 3)).drew := ⟨_, rfl⟩
  rw [← hXe] at hap
  have HXe := Lib.hid hXe
  have cx : ∀ w4, (w4 = w.drew ∨ w4 = wX) → w4.cell? ⟨g, j, none⟩ = some (.int .i64 (x.toNat : Int)) := by rintro w4 (h | h); rw [h]; exact hx; rw [h, HXe.out]; exact hx2 _
  have cy : ∀ w4, (w4 = w.drew ∨ w4 = wX) → w4.cell? ⟨g, k, none⟩ = some (.int .i64 (y.toNat : Int)) := by rintro w4 (h | h); rw [h]; exact hy; rw [h, HXe.out]; exact hy2 _
  clear hx hy hx2 hy2
  have HO3 := Lib.hid hO3
  have Hf3 := Lib.hid hf3
  clear hO hf hO3 hf3 hj hk hr hg hi hXe
  simp only [sumFr, h8, h9, h10, h11]
  clear h8
  obtain ⟨V, hV⟩ : ∃ V : Nat → Value, V = (fun jj => match jj with | 0 => .slice (some ⟨g, 0, none⟩) i c | 1 => .slice (some ⟨g, 0, none⟩) i c | 2 => .int .i64 (i : Int) | 3 => .int .i64 (j : Int) | 4 => .pointer (some ⟨g, j, none⟩) | 5 => .int .i64 (x.toNat : Int) | 6 => .int .i64 (p.toNat : Int) | 7 => .int .i64 ((x.toNat : Int) + (p.toNat : Int)) | 8 => .slice (some ⟨g, 0, none⟩) i c | 9 => .int .i64 (i : Int) | 10 => .int .i64 (k : Int) | 11 => .pointer (some ⟨g, k, none⟩) | 12 => .int .i64 (y.toNat : Int) | 13 => .int .i64 ((x.toNat : Int) + (p.toNat : Int) + (y.toNat : Int)) | 14 => .int .i64 (q.toNat : Int) | 15 => .int .i64 ((x.toNat : Int) + (p.toNat : Int) + (y.toNat : Int) + (q.toNat : Int)) | 16 => .int .i64 (r.toNat : Int) | 17 => .slice (some ⟨w.heap.size, 0, none⟩) 1 1 | 18 => v' | 19 => v' | _ => undef) := ⟨_, rfl⟩
  have q_0 : V 0 = .slice (some ⟨g, 0, none⟩) i c := congrFun hV 0
  have q_1 : V 1 = .slice (some ⟨g, 0, none⟩) i c := congrFun hV 1
  have q_2 : V 2 = .int .i64 (i : Int) := congrFun hV 2
  have q_3 : V 3 = .int .i64 (j : Int) := congrFun hV 3
  have q_4 : V 4 = .pointer (some ⟨g, j, none⟩) := congrFun hV 4
  have q_5 : V 5 = .int .i64 (x.toNat : Int) := congrFun hV 5
  have q_6 : V 6 = .int .i64 (p.toNat : Int) := congrFun hV 6
  have q_7 : V 7 = .int .i64 ((x.toNat : Int) + (p.toNat : Int)) := congrFun hV 7
  have q_8 : V 8 = .slice (some ⟨g, 0, none⟩) i c := congrFun hV 8
  have q_9 : V 9 = .int .i64 (i : Int) := congrFun hV 9
  have q_10 : V 10 = .int .i64 (k : Int) := congrFun hV 10
  have q_11 : V 11 = .pointer (some ⟨g, k, none⟩) := congrFun hV 11
  have q_12 : V 12 = .int .i64 (y.toNat : Int) := congrFun hV 12
  have q_13 : V 13 = .int .i64 ((x.toNat : Int) + (p.toNat : Int) + (y.toNat : Int)) := congrFun hV 13
  have q_14 : V 14 = .int .i64 (q.toNat : Int) := congrFun hV 14
  have q_15 : V 15 = .int .i64 ((x.toNat : Int) + (p.toNat : Int) + (y.toNat : Int) + (q.toNat : Int)) := congrFun hV 15
  have q_16 : V 16 = .int .i64 (r.toNat : Int) := congrFun hV 16
  have q_17 : V 17 = .slice (some ⟨w.heap.size, 0, none⟩) 1 1 := congrFun hV 17
  have q_18 : V 18 = v' := congrFun hV 18
  have q_19 : V 19 = v' := congrFun hV 19
  clear hV
  refine wp_region_ssac (by kernel_rfl) (by kernel_rfl) (by kernel_rfl)
    (fun y => ⟨List.toArray (u 0 :: u 1 :: u 2 :: u 3 :: u 4 :: u 5 :: u 6 :: u 7 :: y 19 :: .int .i64 (i : Int) :: .int .i64 (p.toNat : Int) :: .int .i64 (q.toNat : Int) :: u 12 :: u 13 :: u 14 :: u 15 :: u 16 :: u 17 :: u 18 :: u 19 :: u 20 :: u 21 :: u 22 :: u 23 :: u 24 :: u 25 :: u 26 :: u 27 :: u 28 :: u 29 :: u 30 :: u 31 :: u 32 :: u 33 :: u 34 :: u 35 :: u 36 :: u 37 :: u 38 :: u 39 :: u 40 :: u 41 :: u 42 :: u 43 :: u 44 :: u 45 :: u 46 :: u 47 :: u 48 :: u 49 :: u 50 :: u 51 :: u 52 :: u 53 :: u 54 :: u 55 :: u 56 :: u 57 :: u 58 :: u 59 :: u 60 :: u 61 :: u 62 :: u 63 :: u 64 :: u 65 :: u 66 :: u 67 :: u 68 :: u 69 :: u 70 :: u 71 :: u 72 :: u 73 :: u 74 :: u 75 :: u 76 :: u 77 :: u 78 :: u 79 :: u 80 :: u 81 :: u 82 :: u 83 :: u 84 :: u 85 :: u 86 :: u 87 :: u 88 :: u 89 :: u 90 :: u 91 :: u 92 :: u 93 :: u 94 :: u 95 :: u 96 :: u 97 :: u 98 :: u 99 :: u 100 :: u 101 :: u 102 :: u 103 :: u 104 :: u 105 :: u 106 :: u 107 :: u 108 :: u 109 :: u 110 :: u 111 :: u 112 :: u 113 :: u 114 :: u 115 :: u 116 :: u 117 :: u 118 :: u 119 :: u 120 :: u 121 :: u 122 :: u 123 :: u 124 :: u 125 :: u 126 :: u 127 :: u 128 :: u 129 :: u 130 :: u 131 :: u 132 :: u 133 :: y 0 :: y 1 :: y 2 :: y 3 :: y 4 :: y 5 :: y 6 :: y 7 :: y 8 :: y 9 :: y 10 :: y 11 :: y 12 :: y 13 :: y 14 :: y 15 :: y 16 :: y 17 :: y 18 :: u 153 :: u 154 :: u 155 :: u 156 :: u 157 :: u 158 :: u 159 :: u 160 :: u 161 :: u 162 :: u 163 :: u 164 :: u 165 :: u 166 :: u 167 :: u 168 :: u 169 :: u 170 :: u 171 :: u 172 :: u 173 :: u 174 :: u 175 :: u 176 :: u 177 :: u 178 :: u 179 :: u 180 :: u 181 :: u 182 :: u 183 :: u 184 :: u 185 :: u 186 :: u 187 :: u 188 :: u 189 :: u 190 :: u 191 :: u 192 :: u 193 :: u 194 :: u 195 :: u 196 :: u 197 :: u 198 :: u 199 :: u 200 :: u 201 :: u 202 :: u 203 :: u 204 :: u 205 :: u 206 :: u 207 :: u 208 :: u 209 :: u 210 :: u 211 :: u 212 :: u 213 :: u 214 :: u 215 :: u 216 :: u 217 :: u 218 :: u 219 :: u 220 :: u 221 :: u 222 :: u 223 :: u 224 :: u 225 :: u 226 :: u 227 :: u 228 :: u 229 :: u 230 :: u 231 :: u 232 :: u 233 :: u 234 :: u 235 :: u 236 :: u 237 :: u 238 :: u 239 :: u 240 :: u 241 :: u 242 :: u 243 :: u 244 :: u 245 :: u 246 :: u 247 :: u 248 :: u 249 :: u 250 :: u 251 :: u 252 :: u 253 :: u 254 :: u 255 :: u 256 :: u 257 :: u 258 :: u 259 :: u 260 :: u 261 :: u 262 :: u 263 :: u 264 :: u 265 :: u 266 :: u 267 :: u 268 :: u 269 :: u 270 :: u 271 :: u 272 :: u 273 :: u 274 :: u 275 :: u 276 :: u 277 :: u 278 :: u 279 :: u 280 :: u 281 :: u 282 :: u 283 :: u 284 :: u 285 :: u 286 :: u 287 :: u 288 :: u 289 :: u 290 :: u 291 :: u 292 :: u 293 :: u 294 :: u 295 :: u 296 :: u 297 :: u 298 :: u 299 :: u 300 :: u 301 :: u 302 :: u 303 :: u 304 :: u 305 :: u 306 :: u 307 :: u 308 :: u 309 :: u 310 :: u 311 :: u 312 :: u 313 :: u 314 :: u 315 :: u 316 :: u 317 :: u 318 :: []), []⟩)
    (fun j v _ => v = V j)
    (fun L y w4 => (L 19 = false → y 19 = .slice (some ⟨g, 0, none⟩) i c) ∧ w4 = if L 18 = true then w3 else if L 17 = true then wX else w.drew) (fun j => (([u 134, u 135, u 136, u 137, u 138, u 139, u 140, u 141, u 142, u 143, u 144, u 145, u 146, u 147, u 148, u 149, u 150, u 151, u 152, .slice (some ⟨g, 0, none⟩) i c] : List Value).getD j undef)) ⟨fun _ => rfl, rfl⟩ ?_ ?_
  · rintro L y w4 i o hcl ⟨hI, hG⟩ hΦ ho hL hd K2 hK2
    match i, ho with
    | 0, ho =>
      simp at ho; subst ho
      have HG := Lib.hid hG
      clear hΦ hd hG
      first | go_big_move | go_big_op
      have hnl : L 19 = false := by cases h : L 19 with | false => rfl | true => exact (by rw [(hcl.dep 18 0 (hcl.dep 19 18 h (by rfl)) (by rfl))] at hL; cases hL)
      have hy := hI hnl
      exact hK2 _ _ (by first | exact q_0.symm | (rw [q_0]; first | assumption | exact hy | exact hI (by assumption))) ⟨hI, HG.out⟩ (fun _ _ _ h => h)
    | 1, ho =>
      simp at ho; subst ho
      have HG := Lib.hid hG
      clear hΦ hd hG
      first | go_big_move | go_big_op
      have hnl : L 19 = false := by cases h : L 19 with | false => rfl | true => exact (by rw [(hcl.dep 4 1 (hcl.dep 5 4 (hcl.dep 7 5 (hcl.dep 13 7 (hcl.dep 15 13 (hcl.dep 16 15 (hcl.dep 17 16 (hcl.dep 18 17 (hcl.dep 19 18 h (by rfl)) (by rfl)) (by rfl)) (by rfl)) (by rfl)) (by rfl)) (by rfl)) (by rfl)) (by rfl))] at hL; cases hL)
      have hy := hI hnl
      exact hK2 _ _ (by first | exact q_1.symm | (rw [q_1]; first | assumption | exact hy | exact hI (by assumption))) ⟨hI, HG.out⟩ (fun _ _ _ h => h)
    | 2, ho =>
      simp at ho; subst ho
      have HG := Lib.hid hG
      clear hΦ hd hG
      first | go_big_move | go_big_op
      exact hK2 _ _ (by first | exact q_2.symm | (rw [q_2]; first | assumption | exact hy | exact hI (by assumption))) ⟨hI, HG.out⟩ (fun _ _ _ h => h)
    | 3, ho =>
      simp at ho; subst ho
      have hu2 : y 2 = V 2 := hΦ 2 (hd ⟨2, .data⟩ (by simp) (by rfl))
      rw [q_2] at hu2
      have HG := Lib.hid hG
      clear hΦ hd hG
      first | go_big_move | go_big_op
      exact hK2 _ _ (by first | exact q_3.symm | (rw [q_3]; first | assumption | exact hy | exact hI (by assumption))) ⟨hI, HG.out⟩ (fun _ _ _ h => h)
    | 4, ho =>
      simp at ho; subst ho
      have hu1 : y 1 = V 1 := hΦ 1 (hd ⟨1, .data⟩ (by simp) (by rfl))
      rw [q_1] at hu1
      have hu3 : y 3 = V 3 := hΦ 3 (hd ⟨3, .data⟩ (by simp) (by rfl))
      rw [q_3] at hu3
      have HG := Lib.hid hG
      clear hΦ hd hG
      first | go_big_move | go_big_op
      exact hK2 _ _ (by first | exact q_4.symm | (rw [q_4]; first | assumption | exact hy | exact hI (by assumption))) ⟨hI, HG.out⟩ (fun _ _ _ h => h)
    | 5, ho =>
      simp at ho; subst ho
      have hu4 : y 4 = V 4 := hΦ 4 (hd ⟨4, .data⟩ (by simp) (by rfl))
      rw [q_4] at hu4
      have HG := Lib.hid hG
      have hna : ¬ L 18 = true := fun h => by have h2 := (hcl.dep 7 5 (hcl.dep 13 7 (hcl.dep 15 13 (hcl.dep 16 15 (hcl.dep 17 16 (hcl.dep 18 17 h (by rfl)) (by rfl)) (by rfl)) (by rfl)) (by rfl)) (by rfl)); rw [hL] at h2; cases h2
      rw [if_neg hna] at hG
      have hcell := cx w4 (by rw [hG]; split; exact .inr rfl; exact .inl rfl)
      clear hΦ hd hG
      first | go_big_move | go_big_op
      exact hK2 _ _ (by first | exact q_5.symm | (rw [q_5]; first | assumption | exact hy | exact hI (by assumption))) ⟨hI, HG.out⟩ (fun _ _ _ h => h)
    | 6, ho =>
      simp at ho; subst ho
      have HG := Lib.hid hG
      clear hΦ hd hG
      first | go_big_move | go_big_op
      exact hK2 _ _ (by first | exact q_6.symm | (rw [q_6]; first | assumption | exact hy | exact hI (by assumption))) ⟨hI, HG.out⟩ (fun _ _ _ h => h)
    | 7, ho =>
      simp at ho; subst ho
      have hu5 : y 5 = V 5 := hΦ 5 (hd ⟨5, .data⟩ (by simp) (by rfl))
      rw [q_5] at hu5
      have hu6 : y 6 = V 6 := hΦ 6 (hd ⟨6, .data⟩ (by simp) (by rfl))
      rw [q_6] at hu6
      have HG := Lib.hid hG
      clear hΦ hd hG
      first | go_big_move | go_big_op
      exact hK2 _ _ (by first | exact q_7.symm | (rw [q_7]; first | assumption | exact hy | exact hI (by assumption))) ⟨hI, HG.out⟩ (fun _ _ _ h => h)
    | 8, ho =>
      simp at ho; subst ho
      have HG := Lib.hid hG
      clear hΦ hd hG
      first | go_big_move | go_big_op
      have hnl : L 19 = false := by cases h : L 19 with | false => rfl | true => exact (by rw [(hcl.dep 11 8 (hcl.dep 12 11 (hcl.dep 13 12 (hcl.dep 15 13 (hcl.dep 16 15 (hcl.dep 17 16 (hcl.dep 18 17 (hcl.dep 19 18 h (by rfl)) (by rfl)) (by rfl)) (by rfl)) (by rfl)) (by rfl)) (by rfl)) (by rfl))] at hL; cases hL)
      have hy := hI hnl
      exact hK2 _ _ (by first | exact q_8.symm | (rw [q_8]; first | assumption | exact hy | exact hI (by assumption))) ⟨hI, HG.out⟩ (fun _ _ _ h => h)
    | 9, ho =>
      simp at ho; subst ho
      have HG := Lib.hid hG
      clear hΦ hd hG
      first | go_big_move | go_big_op
      exact hK2 _ _ (by first | exact q_9.symm | (rw [q_9]; first | assumption | exact hy | exact hI (by assumption))) ⟨hI, HG.out⟩ (fun _ _ _ h => h)
    | 10, ho =>
      simp at ho; subst ho
      have hu9 : y 9 = V 9 := hΦ 9 (hd ⟨9, .data⟩ (by simp) (by rfl))
      rw [q_9] at hu9
      have HG := Lib.hid hG
      clear hΦ hd hG
      first | go_big_move | go_big_op
      exact hK2 _ _ (by first | exact q_10.symm | (rw [q_10]; first | assumption | exact hy | exact hI (by assumption))) ⟨hI, HG.out⟩ (fun _ _ _ h => h)
    | 11, ho =>
      simp at ho; subst ho
      have hu8 : y 8 = V 8 := hΦ 8 (hd ⟨8, .data⟩ (by simp) (by rfl))
      rw [q_8] at hu8
      have hu10 : y 10 = V 10 := hΦ 10 (hd ⟨10, .data⟩ (by simp) (by rfl))
      rw [q_10] at hu10
      have HG := Lib.hid hG
      clear hΦ hd hG
      first | go_big_move | go_big_op
      exact hK2 _ _ (by first | exact q_11.symm | (rw [q_11]; first | assumption | exact hy | exact hI (by assumption))) ⟨hI, HG.out⟩ (fun _ _ _ h => h)
    | 12, ho =>
      simp at ho; subst ho
      have hu11 : y 11 = V 11 := hΦ 11 (hd ⟨11, .data⟩ (by simp) (by rfl))
      rw [q_11] at hu11
      have HG := Lib.hid hG
      have hna : ¬ L 18 = true := fun h => by have h2 := (hcl.dep 13 12 (hcl.dep 15 13 (hcl.dep 16 15 (hcl.dep 17 16 (hcl.dep 18 17 h (by rfl)) (by rfl)) (by rfl)) (by rfl)) (by rfl)); rw [hL] at h2; cases h2
      rw [if_neg hna] at hG
      have hcell := cy w4 (by rw [hG]; split; exact .inr rfl; exact .inl rfl)
      clear hΦ hd hG
      first | go_big_move | go_big_op
      exact hK2 _ _ (by first | exact q_12.symm | (rw [q_12]; first | assumption | exact hy | exact hI (by assumption))) ⟨hI, HG.out⟩ (fun _ _ _ h => h)
    | 13, ho =>
      simp at ho; subst ho
      have hu7 : y 7 = V 7 := hΦ 7 (hd ⟨7, .data⟩ (by simp) (by rfl))
      rw [q_7] at hu7
      have hu12 : y 12 = V 12 := hΦ 12 (hd ⟨12, .data⟩ (by simp) (by rfl))
      rw [q_12] at hu12
      have HG := Lib.hid hG
      clear hΦ hd hG
      first | go_big_move | go_big_op
      exact hK2 _ _ (by first | exact q_13.symm | (rw [q_13]; first | assumption | exact hy | exact hI (by assumption))) ⟨hI, HG.out⟩ (fun _ _ _ h => h)
    | 14, ho =>
      simp at ho; subst ho
      have HG := Lib.hid hG
      clear hΦ hd hG
      first | go_big_move | go_big_op
      exact hK2 _ _ (by first | exact q_14.symm | (rw [q_14]; first | assumption | exact hy | exact hI (by assumption))) ⟨hI, HG.out⟩ (fun _ _ _ h => h)
    | 15, ho =>
      simp at ho; subst ho
      have hu13 : y 13 = V 13 := hΦ 13 (hd ⟨13, .data⟩ (by simp) (by rfl))
      rw [q_13] at hu13
      have hu14 : y 14 = V 14 := hΦ 14 (hd ⟨14, .data⟩ (by simp) (by rfl))
      rw [q_14] at hu14
      have HG := Lib.hid hG
      clear hΦ hd hG
      first | go_big_move | go_big_op
      exact hK2 _ _ (by first | exact q_15.symm | (rw [q_15]; first | assumption | exact hy | exact hI (by assumption))) ⟨hI, HG.out⟩ (fun _ _ _ h => h)
    | 16, ho =>
      simp at ho; subst ho
      have hu15 : y 15 = V 15 := hΦ 15 (hd ⟨15, .data⟩ (by simp) (by rfl))
      rw [q_15] at hu15
      have HG := Lib.hid hG
      clear hΦ hd hG
      first | go_big_move | go_big_op
      exact hK2 _ _ (by first | (rw [q_16]; exact congrArg (Value.int IntKind.i64) hs) | exact q_16.symm | (rw [q_16]; first | assumption | exact hy | exact hI (by assumption))) ⟨hI, HG.out⟩ (fun _ _ _ h => h)
    | 17, ho =>
      simp at ho; subst ho
      have hu16 : y 16 = V 16 := hΦ 16 (hd ⟨16, .data⟩ (by simp) (by rfl))
      rw [q_16] at hu16
      have hna : ¬ L 18 = true := fun h => by have h2 := (hcl.dep 18 17 h (by rfl)); rw [hL] at h2; cases h2
      rw [if_neg hna] at hG
      rw [if_neg (by rw [hL]; decide)] at hG
      subst hG
      clear hΦ hd
      clear hap
      go_big_op
      refine hK2 _ _ q_17.symm ⟨hI, ?_⟩ (fun _ _ _ h => h)
      rw [if_neg (show ¬ mark L 17 18 = true from hna), if_pos (show mark L 17 17 = true from rfl), HXe.out]; try rfl
    | 18, ho =>
      simp at ho; subst ho
      have hu0 : y 0 = V 0 := hΦ 0 (hd ⟨0, .data⟩ (by simp) (by rfl))
      rw [q_0] at hu0
      have hu17 : y 17 = V 17 := hΦ 17 (hd ⟨17, .data⟩ (by simp) (by rfl))
      rw [q_17] at hu17
      have hb : L 17 = true := hd ⟨17, .data⟩ (by simp) (by rfl)
      rw [if_neg (by rw [hL]; decide), if_pos hb] at hG
      subst hG
      clear hΦ hd
      refine wp_append_run _ _ _ _ rfl hap hu0 hu17 ?_
      refine hK2 _ _ q_18.symm ⟨hI, ?_⟩ (fun _ _ _ h => h)
      rw [if_pos (show mark L 18 18 = true from rfl)]
    | 19, ho =>
      simp at ho; subst ho
      have hu18 : y 18 = V 18 := hΦ 18 (hd ⟨18, .data⟩ (by simp) (by rfl))
      rw [q_18] at hu18
      have HG := Lib.hid hG
      clear hΦ hd hG
      first | go_big_move | go_big_op
      exact hK2 _ _ (by first | exact q_19.symm | (rw [q_19]; first | assumption | exact hy | exact hI (by assumption))) ⟨fun h => absurd (show (true : Bool) = false from h) (by decide), HG.out⟩ (fun _ _ _ h => h)
  rintro y w4 hΦ L hall ⟨hI, hG⟩
  rw [if_pos (hall 18 (by decide))] at hG
  subst hG
  have hlast := hΦ 19 (by decide)
  rw [q_19] at hlast
  exact HK.out _ _  ⟨rfl, rfl⟩ (KpU.cons (rfl) (KpU.cons (rfl) (KpU.cons (rfl) (KpU.cons (rfl) (KpU.cons (rfl) (KpU.cons (h9.symm) (KpU.cons (h10.symm) (KpU.cons (h11.symm) (KpU.cons (rfl) (KpU.cons (rfl) (KpU.cons (rfl) (KpU.cons (rfl) (KpU.cons (rfl) (KpU.cons (rfl) (KpU.cons (rfl) (KpU.cons (rfl) (KpU.cons (rfl) (KpU.cons (rfl) (KpU.nil _ _)))))))))))))))))))  (by show OI _ _ (y 19) _; rw [hlast]; exact HO3.out) Hf3.out

end Go.Proofs.YtcbkaiakdhiloaaDoor
