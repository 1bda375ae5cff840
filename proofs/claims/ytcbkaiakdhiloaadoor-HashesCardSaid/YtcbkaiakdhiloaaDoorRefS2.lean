/- The reference's Sum: the regions of a block's round, the second half. -/
import Derived.Test.YtcbkaiakdhiloaaDoorRefS1
set_option linter.unusedSimpArgs false
set_option linter.unusedVariables false
namespace Go.Proofs.YtcbkaiakdhiloaaDoor
open Go.RowKit Go.Proofs
attribute [local go_sem] bs_size bs_append bs_extract

set_option maxRecDepth 20000 in
set_option maxHeartbeats 1000000 in
theorem sumR22  (a : Act) (w : World) (K : Exit → Act → World → Prop) (hs : Sz 319 a)
     
    (hK : ∀ a' w', Sz 319 a' → Kp [0, 1, 4, 5, 7, 8, 9, 10, 11, 12, 14, 15, 16, 17, 18, 19, 278, 279] a a' → sl a' 13 = .int .i64 ((0 : Nat) : Int) → Fr noB w w' → K .normal a' w') :
    (regionOf Tryd.f6 22).wp Tryd.prog K a w := by
  have hK2 : ∀ a' w', Sz 319 a' → KpU [0, 1, 4, 5, 7, 8, 9, 10, 11, 12, 14, 15, 16, 17, 18, 19, 278, 279] (sl a) a' → sl a' 13 = .int .i64 ((0 : Nat) : Int) → Fr noB w w' → K .normal a' w' := hK
  clear hK
  rw [sumFr_of hs]
  clear hs
  generalize sl a = u at *
  clear a
  have HK := Lib.hid hK2
  clear hK2
  conv => arg 2; whnf
  simp only [sumFr]
  go_wp2_with fail
  exact HK.out _ _  ⟨rfl, rfl⟩ (KpU.cons (rfl) (KpU.cons (rfl) (KpU.cons (rfl) (KpU.cons (rfl) (KpU.cons (rfl) (KpU.cons (rfl) (KpU.cons (rfl) (KpU.cons (rfl) (KpU.cons (rfl) (KpU.cons (rfl) (KpU.cons (rfl) (KpU.cons (rfl) (KpU.cons (rfl) (KpU.cons (rfl) (KpU.cons (rfl) (KpU.cons (rfl) (KpU.cons (rfl) (KpU.cons (rfl) (KpU.nil _ _))))))))))))))))))) (rfl) (Fr.refl _ _)

set_option maxRecDepth 20000 in
set_option maxHeartbeats 1000000 in
theorem sumR23 (i : Nat) (a : Act) (w : World) (K : Exit → Act → World → Prop) (hs : Sz 319 a)
    (h13 : sl a 13 = .int .i64 (i : Int)) (hi : i ≤ 64)
    (hK : ∀ a' w', Sz 319 a' → Kp [0, 1, 4, 5, 7, 8, 9, 10, 11, 12, 13, 14, 15, 16, 17, 18, 19, 278, 279] a a' → sl a' 156 = .bool (decide (i < 64)) → Fr noB w w' → K .normal a' w') :
    (regionOf Tryd.f6 23).wp Tryd.prog K a w := by
  have hK2 : ∀ a' w', Sz 319 a' → KpU [0, 1, 4, 5, 7, 8, 9, 10, 11, 12, 13, 14, 15, 16, 17, 18, 19, 278, 279] (sl a) a' → sl a' 156 = .bool (decide (i < 64)) → Fr noB w w' → K .normal a' w' := hK
  clear hK
  rw [sumFr_of hs]
  clear hs
  generalize sl a = u at *
  clear a
  have HK := Lib.hid hK2
  clear hK2
  conv => arg 2; whnf
  simp only [sumFr, h13]
  go_wp2_with fail
  exact HK.out _ _  ⟨rfl, rfl⟩ (KpU.cons (rfl) (KpU.cons (rfl) (KpU.cons (rfl) (KpU.cons (rfl) (KpU.cons (rfl) (KpU.cons (rfl) (KpU.cons (rfl) (KpU.cons (rfl) (KpU.cons (rfl) (KpU.cons (rfl) (KpU.cons (h13.symm) (KpU.cons (rfl) (KpU.cons (rfl) (KpU.cons (rfl) (KpU.cons (rfl) (KpU.cons (rfl) (KpU.cons (rfl) (KpU.cons (rfl) (KpU.cons (rfl) (KpU.nil _ _)))))))))))))))))))) (congrArg Value.bool (decide_eq_decide.2 (by omega))) (Fr.refl _ _)

set_option maxRecDepth 20000 in
set_option maxHeartbeats 1000000 in
theorem sumR24 (i : Nat) (a : Act) (w : World) (K : Exit → Act → World → Prop) (hs : Sz 319 a)
    (h13 : sl a 13 = .int .i64 (i : Int)) (hi : i ≤ 64)
    (hK : ∀ a' w', Sz 319 a' → Kp [0, 1, 4, 5, 7, 8, 9, 10, 11, 12, 14, 15, 16, 17, 18, 19, 278, 279] a a' → sl a' 13 = .int .i64 ((i + 1 : Nat) : Int) → Fr noB w w' → K .normal a' w') :
    (regionOf Tryd.f6 24).wp Tryd.prog K a w := by
  have hK2 : ∀ a' w', Sz 319 a' → KpU [0, 1, 4, 5, 7, 8, 9, 10, 11, 12, 14, 15, 16, 17, 18, 19, 278, 279] (sl a) a' → sl a' 13 = .int .i64 ((i + 1 : Nat) : Int) → Fr noB w w' → K .normal a' w' := hK
  clear hK
  rw [sumFr_of hs]
  clear hs
  generalize sl a = u at *
  clear a
  have HK := Lib.hid hK2
  clear hK2
  conv => arg 2; whnf
  simp only [sumFr, h13]
  clear h13
  go_wp2_with fail
  exact HK.out _ _  ⟨rfl, rfl⟩ (KpU.cons (rfl) (KpU.cons (rfl) (KpU.cons (rfl) (KpU.cons (rfl) (KpU.cons (rfl) (KpU.cons (rfl) (KpU.cons (rfl) (KpU.cons (rfl) (KpU.cons (rfl) (KpU.cons (rfl) (KpU.cons (rfl) (KpU.cons (rfl) (KpU.cons (rfl) (KpU.cons (rfl) (KpU.cons (rfl) (KpU.cons (rfl) (KpU.cons (rfl) (KpU.cons (rfl) (KpU.nil _ _))))))))))))))))))) (by simp only [sl]; rfl) (Fr.refl _ _)

set_option maxRecDepth 20000 in
set_option maxHeartbeats 1000000 in
theorem sumR25 (g c : Nat) (x : UInt32) (a : Act) (w : World) (K : Exit → Act → World → Prop) (hs : Sz 319 a)
    (h12 : sl a 12 = .slice (some ⟨g, 0, none⟩) 8 c) (hx : w.cell? ⟨g, 4, none⟩ = some (.int .i64 (x.toNat : Int)))
    (hK : ∀ a' w', Sz 319 a' → Kp [0, 1, 4, 5, 7, 8, 9, 10, 11, 12, 13, 15, 16, 17, 18, 19, 278, 279] a a' → sl a' 14 = .int .i64 ((bg1 x).toNat : Int) → Fr noB w w' → K .normal a' w') :
    (regionOf Tryd.f6 25).wp Tryd.prog K a w := by
  have hK2 : ∀ a' w', Sz 319 a' → KpU [0, 1, 4, 5, 7, 8, 9, 10, 11, 12, 13, 15, 16, 17, 18, 19, 278, 279] (sl a) a' → sl a' 14 = .int .i64 ((bg1 x).toNat : Int) → Fr noB w w' → K .normal a' w' := hK
  clear hK
  rw [sumFr_of hs]
  clear hs
  generalize sl a = u at *
  clear a
  have HK := Lib.hid hK2
  clear hK2
  conv => arg 2; whnf
  have xlx : (x.toNat : Int) ≤ 4294967295 := by have := x.toNat_lt; omega
  simp only [sumFr, h12]
  go_quiet (exact turnQ _ _ _ _ (by decide))
  exact HK.out _ _  ⟨rfl, rfl⟩ (KpU.cons (rfl) (KpU.cons (rfl) (KpU.cons (rfl) (KpU.cons (rfl) (KpU.cons (rfl) (KpU.cons (rfl) (KpU.cons (rfl) (KpU.cons (rfl) (KpU.cons (rfl) (KpU.cons (h12.symm) (KpU.cons (rfl) (KpU.cons (rfl) (KpU.cons (rfl) (KpU.cons (rfl) (KpU.cons (rfl) (KpU.cons (rfl) (KpU.cons (rfl) (KpU.cons (rfl) (KpU.nil _ _))))))))))))))))))) (congrArg (fun v => Value.int .i64 v) (bg1w x)) ((Fr.refl _ _).drewN _)

set_option maxRecDepth 20000 in
set_option maxHeartbeats 1000000 in
theorem sumR26 (g c : Nat) (x y z : UInt32) (a : Act) (w : World) (K : Exit → Act → World → Prop) (hs : Sz 319 a)
    (h12 : sl a 12 = .slice (some ⟨g, 0, none⟩) 8 c) (hx : w.cell? ⟨g, 4, none⟩ = some (.int .i64 (x.toNat : Int))) (hy : w.cell? ⟨g, 5, none⟩ = some (.int .i64 (y.toNat : Int))) (hz : w.cell? ⟨g, 6, none⟩ = some (.int .i64 (z.toNat : Int)))
    (hK : ∀ a' w', Sz 319 a' → Kp [0, 1, 4, 5, 7, 8, 9, 10, 11, 12, 13, 14, 16, 17, 18, 19, 278, 279] a a' → sl a' 15 = .int .i64 ((chs x y z).toNat : Int) → Fr noB w w' → K .normal a' w') :
    (regionOf Tryd.f6 26).wp Tryd.prog K a w := by
  have hK2 : ∀ a' w', Sz 319 a' → KpU [0, 1, 4, 5, 7, 8, 9, 10, 11, 12, 13, 14, 16, 17, 18, 19, 278, 279] (sl a) a' → sl a' 15 = .int .i64 ((chs x y z).toNat : Int) → Fr noB w w' → K .normal a' w' := hK
  clear hK
  rw [sumFr_of hs]
  clear hs
  generalize sl a = u at *
  clear a
  have HK := Lib.hid hK2
  clear hK2
  conv => arg 2; whnf
  have xlx : (x.toNat : Int) ≤ 4294967295 := by have := x.toNat_lt; omega
  have xly : (y.toNat : Int) ≤ 4294967295 := by have := y.toNat_lt; omega
  have xlz : (z.toNat : Int) ≤ 4294967295 := by have := z.toNat_lt; omega
  simp only [sumFr, h12]
  go_quiet (fail)
  exact HK.out _ _  ⟨rfl, rfl⟩ (KpU.cons (rfl) (KpU.cons (rfl) (KpU.cons (rfl) (KpU.cons (rfl) (KpU.cons (rfl) (KpU.cons (rfl) (KpU.cons (rfl) (KpU.cons (rfl) (KpU.cons (rfl) (KpU.cons (h12.symm) (KpU.cons (rfl) (KpU.cons (rfl) (KpU.cons (rfl) (KpU.cons (rfl) (KpU.cons (rfl) (KpU.cons (rfl) (KpU.cons (rfl) (KpU.cons (rfl) (KpU.nil _ _))))))))))))))))))) (congrArg (fun v => Value.int .i64 v) (chsw x y z)) ((Fr.refl _ _).drewN _)

set_option maxRecDepth 20000 in
set_option maxHeartbeats 1000000 in
theorem sumR27 (g c i p gk ck gw cw : Nat) (x s h k e : UInt32) (a : Act) (w : World) (K : Exit → Act → World → Prop) (hs : Sz 319 a)
    (h0 : sl a 0 = .pointer (some ⟨p, 0, none⟩)) (h8 : sl a 8 = .slice (some ⟨gw, 0, none⟩) 64 cw) (h12 : sl a 12 = .slice (some ⟨g, 0, none⟩) 8 c) (h13 : sl a 13 = .int .i64 (i : Int)) (h14 : sl a 14 = .int .i64 (s.toNat : Int)) (h15 : sl a 15 = .int .i64 (h.toNat : Int)) (hi : i < 64) (hx : w.cell? ⟨g, 7, none⟩ = some (.int .i64 (x.toNat : Int))) (hp : w.cell? ⟨p, 1, none⟩ = some (.slice (some ⟨gk, 0, none⟩) 64 ck)) (hk : w.cell? ⟨gk, i, none⟩ = some (.int .i64 (k.toNat : Int))) (he : w.cell? ⟨gw, i, none⟩ = some (.int .i64 (e.toNat : Int)))
    (hK : ∀ a' w', Sz 319 a' → Kp [0, 1, 4, 5, 7, 8, 9, 10, 11, 12, 13, 14, 15, 17, 18, 19, 278, 279] a a' → sl a' 16 = .int .i64 ((x.toNat : Int) + (s.toNat : Int) + (h.toNat : Int) + (k.toNat : Int) + (e.toNat : Int)) → Fr noB w w' → K .normal a' w') :
    (regionOf Tryd.f6 27).wp Tryd.prog K a w := by
  have hK2 : ∀ a' w', Sz 319 a' → KpU [0, 1, 4, 5, 7, 8, 9, 10, 11, 12, 13, 14, 15, 17, 18, 19, 278, 279] (sl a) a' → sl a' 16 = .int .i64 ((x.toNat : Int) + (s.toNat : Int) + (h.toNat : Int) + (k.toNat : Int) + (e.toNat : Int)) → Fr noB w w' → K .normal a' w' := hK
  clear hK
  rw [sumFr_of hs]
  clear hs
  generalize sl a = u at *
  clear a
  have HK := Lib.hid hK2
  clear hK2
  conv => arg 2; whnf
  have xlx : (x.toNat : Int) ≤ 4294967295 := by have := x.toNat_lt; omega
  have xls : (s.toNat : Int) ≤ 4294967295 := by have := s.toNat_lt; omega
  have xlh : (h.toNat : Int) ≤ 4294967295 := by have := h.toNat_lt; omega
  have xlk : (k.toNat : Int) ≤ 4294967295 := by have := k.toNat_lt; omega
  have xle : (e.toNat : Int) ≤ 4294967295 := by have := e.toNat_lt; omega
  simp only [sumFr, h0, h8, h12, h13, h14, h15]
  go_quiet (fail)
  exact HK.out _ _  ⟨rfl, rfl⟩ (KpU.cons (h0.symm) (KpU.cons (rfl) (KpU.cons (rfl) (KpU.cons (rfl) (KpU.cons (rfl) (KpU.cons (h8.symm) (KpU.cons (rfl) (KpU.cons (rfl) (KpU.cons (rfl) (KpU.cons (h12.symm) (KpU.cons (h13.symm) (KpU.cons (h14.symm) (KpU.cons (h15.symm) (KpU.cons (rfl) (KpU.cons (rfl) (KpU.cons (rfl) (KpU.cons (rfl) (KpU.cons (rfl) (KpU.nil _ _))))))))))))))))))) (rfl) ((Fr.refl _ _).drewN _)

set_option maxRecDepth 20000 in
set_option maxHeartbeats 1000000 in
theorem sumR28 (g c : Nat) (x : UInt32) (a : Act) (w : World) (K : Exit → Act → World → Prop) (hs : Sz 319 a)
    (h12 : sl a 12 = .slice (some ⟨g, 0, none⟩) 8 c) (hx : w.cell? ⟨g, 0, none⟩ = some (.int .i64 (x.toNat : Int)))
    (hK : ∀ a' w', Sz 319 a' → Kp [0, 1, 4, 5, 7, 8, 9, 10, 11, 12, 13, 14, 15, 16, 18, 19, 278, 279] a a' → sl a' 17 = .int .i64 ((bg0 x).toNat : Int) → Fr noB w w' → K .normal a' w') :
    (regionOf Tryd.f6 28).wp Tryd.prog K a w := by
  have hK2 : ∀ a' w', Sz 319 a' → KpU [0, 1, 4, 5, 7, 8, 9, 10, 11, 12, 13, 14, 15, 16, 18, 19, 278, 279] (sl a) a' → sl a' 17 = .int .i64 ((bg0 x).toNat : Int) → Fr noB w w' → K .normal a' w' := hK
  clear hK
  rw [sumFr_of hs]
  clear hs
  generalize sl a = u at *
  clear a
  have HK := Lib.hid hK2
  clear hK2
  conv => arg 2; whnf
  have xlx : (x.toNat : Int) ≤ 4294967295 := by have := x.toNat_lt; omega
  simp only [sumFr, h12]
  go_quiet (exact turnQ _ _ _ _ (by decide))
  exact HK.out _ _  ⟨rfl, rfl⟩ (KpU.cons (rfl) (KpU.cons (rfl) (KpU.cons (rfl) (KpU.cons (rfl) (KpU.cons (rfl) (KpU.cons (rfl) (KpU.cons (rfl) (KpU.cons (rfl) (KpU.cons (rfl) (KpU.cons (h12.symm) (KpU.cons (rfl) (KpU.cons (rfl) (KpU.cons (rfl) (KpU.cons (rfl) (KpU.cons (rfl) (KpU.cons (rfl) (KpU.cons (rfl) (KpU.cons (rfl) (KpU.nil _ _))))))))))))))))))) (congrArg (fun v => Value.int .i64 v) (bg0w x)) ((Fr.refl _ _).drewN _)

set_option maxRecDepth 20000 in
set_option maxHeartbeats 1000000 in
theorem sumR29 (g c : Nat) (x y z : UInt32) (a : Act) (w : World) (K : Exit → Act → World → Prop) (hs : Sz 319 a)
    (h12 : sl a 12 = .slice (some ⟨g, 0, none⟩) 8 c) (hx : w.cell? ⟨g, 0, none⟩ = some (.int .i64 (x.toNat : Int))) (hy : w.cell? ⟨g, 1, none⟩ = some (.int .i64 (y.toNat : Int))) (hz : w.cell? ⟨g, 2, none⟩ = some (.int .i64 (z.toNat : Int)))
    (hK : ∀ a' w', Sz 319 a' → Kp [0, 1, 4, 5, 7, 8, 9, 10, 11, 12, 13, 14, 15, 16, 17, 19, 278, 279] a a' → sl a' 18 = .int .i64 ((maj x y z).toNat : Int) → Fr noB w w' → K .normal a' w') :
    (regionOf Tryd.f6 29).wp Tryd.prog K a w := by
  have hK2 : ∀ a' w', Sz 319 a' → KpU [0, 1, 4, 5, 7, 8, 9, 10, 11, 12, 13, 14, 15, 16, 17, 19, 278, 279] (sl a) a' → sl a' 18 = .int .i64 ((maj x y z).toNat : Int) → Fr noB w w' → K .normal a' w' := hK
  clear hK
  rw [sumFr_of hs]
  clear hs
  generalize sl a = u at *
  clear a
  have HK := Lib.hid hK2
  clear hK2
  conv => arg 2; whnf
  have xlx : (x.toNat : Int) ≤ 4294967295 := by have := x.toNat_lt; omega
  have xly : (y.toNat : Int) ≤ 4294967295 := by have := y.toNat_lt; omega
  have xlz : (z.toNat : Int) ≤ 4294967295 := by have := z.toNat_lt; omega
  simp only [sumFr, h12]
  go_quiet (fail)
  exact HK.out _ _  ⟨rfl, rfl⟩ (KpU.cons (rfl) (KpU.cons (rfl) (KpU.cons (rfl) (KpU.cons (rfl) (KpU.cons (rfl) (KpU.cons (rfl) (KpU.cons (rfl) (KpU.cons (rfl) (KpU.cons (rfl) (KpU.cons (h12.symm) (KpU.cons (rfl) (KpU.cons (rfl) (KpU.cons (rfl) (KpU.cons (rfl) (KpU.cons (rfl) (KpU.cons (rfl) (KpU.cons (rfl) (KpU.cons (rfl) (KpU.nil _ _))))))))))))))))))) (congrArg (fun v => Value.int .i64 v) (majw x y z)) ((Fr.refl _ _).drewN _)

set_option maxRecDepth 20000 in
set_option maxHeartbeats 1000000 in
theorem sumR31 (g c : Nat) (a : Act) (w : World) (K : Exit → Act → World → Prop) (hs : Sz 319 a)
    (h7 : sl a 7 = .slice (some ⟨g, 0, none⟩) 8 c) 
    (hK : ∀ a' w', Sz 319 a' → Kp [0, 1, 4, 5, 7, 8, 9, 10, 11, 12, 13, 14, 15, 16, 17, 18, 19] a a' → sl a' 278 = .int .i64 8 → sl a' 279 = .int .i64 ((0 : Nat) : Int) → Fr noB w w' → K .normal a' w') :
    (regionOf Tryd.f6 31).wp Tryd.prog K a w := by
  have hK2 : ∀ a' w', Sz 319 a' → KpU [0, 1, 4, 5, 7, 8, 9, 10, 11, 12, 13, 14, 15, 16, 17, 18, 19] (sl a) a' → sl a' 278 = .int .i64 8 → sl a' 279 = .int .i64 ((0 : Nat) : Int) → Fr noB w w' → K .normal a' w' := hK
  clear hK
  rw [sumFr_of hs]
  clear hs
  generalize sl a = u at *
  clear a
  have HK := Lib.hid hK2
  clear hK2
  conv => arg 2; whnf
  simp only [sumFr, h7]
  go_wp2_with fail
  exact HK.out _ _  ⟨rfl, rfl⟩ (KpU.cons (rfl) (KpU.cons (rfl) (KpU.cons (rfl) (KpU.cons (rfl) (KpU.cons (h7.symm) (KpU.cons (rfl) (KpU.cons (rfl) (KpU.cons (rfl) (KpU.cons (rfl) (KpU.cons (rfl) (KpU.cons (rfl) (KpU.cons (rfl) (KpU.cons (rfl) (KpU.cons (rfl) (KpU.cons (rfl) (KpU.cons (rfl) (KpU.cons (rfl) (KpU.nil _ _)))))))))))))))))) (rfl) (rfl) (Fr.refl _ _)

set_option maxRecDepth 20000 in
set_option maxHeartbeats 1000000 in
theorem sumR32 (i : Nat) (a : Act) (w : World) (K : Exit → Act → World → Prop) (hs : Sz 319 a)
    (h279 : sl a 279 = .int .i64 (i : Int)) (h278 : sl a 278 = .int .i64 8) (hi : i ≤ 8)
    (hK : ∀ a' w', Sz 319 a' → Kp [0, 1, 4, 5, 7, 8, 9, 10, 11, 12, 13, 14, 15, 16, 17, 18, 19, 278, 279] a a' → sl a' 280 = .bool (decide (i < 8)) → Fr noB w w' → K .normal a' w') :
    (regionOf Tryd.f6 32).wp Tryd.prog K a w := by
  have hK2 : ∀ a' w', Sz 319 a' → KpU [0, 1, 4, 5, 7, 8, 9, 10, 11, 12, 13, 14, 15, 16, 17, 18, 19, 278, 279] (sl a) a' → sl a' 280 = .bool (decide (i < 8)) → Fr noB w w' → K .normal a' w' := hK
  clear hK
  rw [sumFr_of hs]
  clear hs
  generalize sl a = u at *
  clear a
  have HK := Lib.hid hK2
  clear hK2
  conv => arg 2; whnf
  simp only [sumFr, h279, h278]
  go_wp2_with fail
  exact HK.out _ _  ⟨rfl, rfl⟩ (KpU.cons (rfl) (KpU.cons (rfl) (KpU.cons (rfl) (KpU.cons (rfl) (KpU.cons (rfl) (KpU.cons (rfl) (KpU.cons (rfl) (KpU.cons (rfl) (KpU.cons (rfl) (KpU.cons (rfl) (KpU.cons (rfl) (KpU.cons (rfl) (KpU.cons (rfl) (KpU.cons (rfl) (KpU.cons (rfl) (KpU.cons (rfl) (KpU.cons (rfl) (KpU.cons (h278.symm) (KpU.cons (h279.symm) (KpU.nil _ _)))))))))))))))))))) (congrArg Value.bool (decide_eq_decide.2 (by omega))) (Fr.refl _ _)

set_option maxRecDepth 20000 in
set_option maxHeartbeats 1000000 in
theorem sumR33 (i : Nat) (a : Act) (w : World) (K : Exit → Act → World → Prop) (hs : Sz 319 a)
    (h279 : sl a 279 = .int .i64 (i : Int)) 
    (hK : ∀ a' w', Sz 319 a' → Kp [0, 1, 4, 5, 7, 8, 9, 10, 11, 12, 13, 14, 15, 16, 17, 18, 278, 279] a a' → sl a' 19 = .int .i64 (i : Int) → Fr noB w w' → K .normal a' w') :
    (regionOf Tryd.f6 33).wp Tryd.prog K a w := by
  have hK2 : ∀ a' w', Sz 319 a' → KpU [0, 1, 4, 5, 7, 8, 9, 10, 11, 12, 13, 14, 15, 16, 17, 18, 278, 279] (sl a) a' → sl a' 19 = .int .i64 (i : Int) → Fr noB w w' → K .normal a' w' := hK
  clear hK
  rw [sumFr_of hs]
  clear hs
  generalize sl a = u at *
  clear a
  have HK := Lib.hid hK2
  clear hK2
  conv => arg 2; whnf
  simp only [sumFr, h279]
  go_wp2_with fail
  exact HK.out _ _  ⟨rfl, rfl⟩ (KpU.cons (rfl) (KpU.cons (rfl) (KpU.cons (rfl) (KpU.cons (rfl) (KpU.cons (rfl) (KpU.cons (rfl) (KpU.cons (rfl) (KpU.cons (rfl) (KpU.cons (rfl) (KpU.cons (rfl) (KpU.cons (rfl) (KpU.cons (rfl) (KpU.cons (rfl) (KpU.cons (rfl) (KpU.cons (rfl) (KpU.cons (rfl) (KpU.cons (rfl) (KpU.cons (h279.symm) (KpU.nil _ _))))))))))))))))))) (rfl) (Fr.refl _ _)

set_option maxRecDepth 20000 in
set_option maxHeartbeats 1000000 in
theorem sumR35 (i : Nat) (a : Act) (w : World) (K : Exit → Act → World → Prop) (hs : Sz 319 a)
    (h279 : sl a 279 = .int .i64 (i : Int)) (hi : i ≤ 8)
    (hK : ∀ a' w', Sz 319 a' → Kp [0, 1, 4, 5, 7, 8, 9, 10, 11, 12, 13, 14, 15, 16, 17, 18, 19, 278] a a' → sl a' 279 = .int .i64 ((i + 1 : Nat) : Int) → Fr noB w w' → K .normal a' w') :
    (regionOf Tryd.f6 35).wp Tryd.prog K a w := by
  have hK2 : ∀ a' w', Sz 319 a' → KpU [0, 1, 4, 5, 7, 8, 9, 10, 11, 12, 13, 14, 15, 16, 17, 18, 19, 278] (sl a) a' → sl a' 279 = .int .i64 ((i + 1 : Nat) : Int) → Fr noB w w' → K .normal a' w' := hK
  clear hK
  rw [sumFr_of hs]
  clear hs
  generalize sl a = u at *
  clear a
  have HK := Lib.hid hK2
  clear hK2
  conv => arg 2; whnf
  simp only [sumFr, h279]
  clear h279
  go_wp2_with fail
  exact HK.out _ _  ⟨rfl, rfl⟩ (KpU.cons (rfl) (KpU.cons (rfl) (KpU.cons (rfl) (KpU.cons (rfl) (KpU.cons (rfl) (KpU.cons (rfl) (KpU.cons (rfl) (KpU.cons (rfl) (KpU.cons (rfl) (KpU.cons (rfl) (KpU.cons (rfl) (KpU.cons (rfl) (KpU.cons (rfl) (KpU.cons (rfl) (KpU.cons (rfl) (KpU.cons (rfl) (KpU.cons (rfl) (KpU.cons (rfl) (KpU.nil _ _))))))))))))))))))) (by simp only [sl]; rfl) (Fr.refl _ _)

set_option maxRecDepth 20000 in
set_option maxHeartbeats 1000000 in
theorem sumR11 (B : List UInt8) (a : Act) (w : World) (K : Exit → Act → World → Prop) (hs : Sz 319 a)
    (h1 : sl a 1 = .string (bs B)) (hB : 64 ≤ B.length) (hBl : B.length ≤ 1000000000000)
    (hK : ∀ a' w', Sz 319 a' → Kp [0, 4, 5, 7, 8, 9, 10, 11, 12, 13, 14, 15, 16, 17, 18, 19, 278, 279] a a' → sl a' 1 = .string (bs (B.drop 64)) → Fr noB w w' → K .normal a' w') :
    (regionOf Tryd.f6 11).wp Tryd.prog K a w := by
  have hK2 : ∀ a' w', Sz 319 a' → KpU [0, 4, 5, 7, 8, 9, 10, 11, 12, 13, 14, 15, 16, 17, 18, 19, 278, 279] (sl a) a' → sl a' 1 = .string (bs (B.drop 64)) → Fr noB w w' → K .normal a' w' := hK
  clear hK
  rw [sumFr_of hs]
  clear hs
  generalize sl a = u at *
  clear a
  have HK := Lib.hid hK2
  clear hK2
  conv => arg 2; whnf
  have hsub : sub B 64 B.length = B.drop 64 := sub_rest B 64
  have hb2 : (64 : Int) ≤ (B.length : Int) := by omega
  simp only [sumFr, h1]
  clear h1
  go_wp2_with fail
  exact HK.out _ _  ⟨rfl, rfl⟩ (KpU.cons (rfl) (KpU.cons (rfl) (KpU.cons (rfl) (KpU.cons (rfl) (KpU.cons (rfl) (KpU.cons (rfl) (KpU.cons (rfl) (KpU.cons (rfl) (KpU.cons (rfl) (KpU.cons (rfl) (KpU.cons (rfl) (KpU.cons (rfl) (KpU.cons (rfl) (KpU.cons (rfl) (KpU.cons (rfl) (KpU.cons (rfl) (KpU.cons (rfl) (KpU.cons (rfl) (KpU.nil _ _))))))))))))))))))) (rfl) (Fr.refl _ _)

end Go.Proofs.YtcbkaiakdhiloaaDoor
