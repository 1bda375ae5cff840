/- The reference's Sum: the loop of a block's rounds, and the loop that adds. -/
import Derived.Test.YtcbkaiakdhiloaaDoorRefS4
set_option linter.unusedSimpArgs false
set_option linter.unusedVariables false
namespace Go.Proofs.YtcbkaiakdhiloaaDoor
open Go.RowKit Go.Proofs

theorem S8.wvl (v : S8) : wv v.list = [v.a.toNat, v.b.toNat, v.c.toNat, v.d.toNat, v.e.toNat, v.f.toNat, v.g.toNat, v.h.toNat] := rfl

set_option maxRecDepth 20000 in
theorem sumRounds (H : S8) (ws : List UInt32) (hws : ws.length = 64) (p gk ck gw cw g c : Nat) (a : Act) (w : World) (K : Exit → Act → World → Prop) (hs : Sz 319 a)
    (h0 : sl a 0 = .pointer (some ⟨p, 0, none⟩)) (h8 : sl a 8 = .slice (some ⟨gw, 0, none⟩) 64 cw) (h12 : sl a 12 = .slice (some ⟨g, 0, none⟩) 8 c) (h13 : sl a 13 = .int .i64 ((0 : Nat) : Int))
    (hp : p < w.heap.size) (hcp : w.cell? ⟨p, 1, none⟩ = some (.slice (some ⟨gk, 0, none⟩) 64 ck)) (hRk : RI w gk (wv kTab)) (hRw : RI w gw (wv ws)) (hR : RI w g (wv H.list))
    (hK : ∀ a' w' g' c', Sz 319 a' → Kp [0, 1, 4, 5, 7] a a' → sl a' 12 = .slice (some ⟨g', 0, none⟩) 8 c' → RI w' g' (wv (rnds H ws 64).list) → (g' = g ∨ w.heap.size ≤ g') → Fr noB w w' → K .normal a' w') :
    (blockOf Tryd.f6 8).wp Tryd.prog K a w := by
  have HK := Lib.hid hK
  clear hK
  conv => arg 2; whnf
  refine wp_block ?_
  refine wp_loop_sz 319 (fun a' w' => ∃ (i g' c' : Nat), i ≤ 64 ∧ sl a' 13 = .int .i64 (i : Int) ∧ Kp [0, 1, 4, 5, 7, 8] a a' ∧ sl a' 12 = .slice (some ⟨g', 0, none⟩) 8 c' ∧ RI w' g' (wv (rnds H ws i).list) ∧ (g' = g ∨ w.heap.size ≤ g') ∧ Fr noB w w') (fun a' _ => 64 - (intOf (sl a' 13)).toNat)
    hs ⟨0, g, c, by omega, h13, Kp.refl _ _, h12, hR, .inl rfl, Fr.refl _ _⟩ ?_
  rintro a1 w1 hs1 ⟨i, g1, c1, hi, e13, k1, e12, hR1, hg1, hf⟩
  refine wp_seq (wp_seq ?_)
  refine sumR23 i a1 w1 _ hs1 e13 hi ?_
  intro a2 w2 hs2 k2 o156 f2
  have e13b : sl a2 13 = .int .i64 (i : Int) := (k2 13 (by decide)).trans e13
  have k2a : Kp [0, 1, 4, 5, 7, 8] a a2 := fun x hx => (k2 x (by revert hx; revert x; decide)).trans (k1 x hx)
  have e12b := (k2 12 (by decide)).trans e12
  have hR2 := hR1.keep f2 id
  have hf2 := hf.trans f2
  refine wp_if o156 (fun hb => ?_) (fun hb => ?_)
  · have hlt : i < 64 := of_decide_eq_true hb
    have hk : kTab[i]? = some (kTab.getD i 0) := getD_of kTab i hlt
    have hx : ws[i]? = some (ws.getD i 0) := getD_of ws i (by omega)
    generalize hv : rnds H ws i = v at *
    have hnx : rnds H ws (i + 1) = rnd v (kTab.getD i 0) (ws.getD i 0) := by rw [rnds, hv]
    generalize kTab.getD i 0 = kk at *
    generalize ws.getD i 0 = xx at *
    refine wp_skip ?_
    refine wp_seq (wp_block (wp_seq ?_))
    have G : ∀ {w' : World}, RI w' g1 (wv v.list) → ∀ (k x : Nat), (wv v.list)[k]? = some x → w'.cell? ⟨g1, k, none⟩ = some (.int .i64 (x : Int)) := fun h k x hx => h.get k x hx
    refine sumR25 g1 c1 v.e a2 w2 _ hs2 e12b (G hR2 4 _ rfl) ?_
    intro a3 w3 hs3 k3 o14 f3
    have hR3 := hR2.keep f3 id
    have e12c := (k3 12 (by decide)).trans e12b
    refine wp_seq ?_
    refine sumR26 g1 c1 v.e v.f v.g a3 w3 _ hs3 e12c (G hR3 4 _ rfl) (G hR3 5 _ rfl) (G hR3 6 _ rfl) ?_
    intro a4 w4 hs4 k4 o15 f4
    have hR4 := hR3.keep f4 id
    have e12d := (k4 12 (by decide)).trans e12c
    have e14d := (k4 14 (by decide)).trans o14
    have e13d := (k4 13 (by decide)).trans ((k3 13 (by decide)).trans e13b)
    have hf4 : Fr noB w w4 := (hf2.trans f3).trans f4
    have k4a : Kp [0, 1, 4, 5, 7, 8] a a4 := fun x hx => (k4 x (by revert hx; revert x; decide)).trans ((k3 x (by revert hx; revert x; decide)).trans (k2a x hx))
    refine wp_seq ?_
    refine sumR27 g1 c1 i p gk ck gw cw v.h (bg1 v.e) (chs v.e v.f v.g) kk xx a4 w4 _ hs4 ((k4a 0 (by decide)).trans h0) ((k4a 8 (by decide)).trans h8) e12d e13d e14d o15 hlt
      (G hR4 7 _ rfl) ((hf4.cell (a := ⟨p, 1, none⟩) hp id).trans hcp) ((hRk.keep hf4 id).get _ _ (wv_get _ _ _ hk)) ((hRw.keep hf4 id).get _ _ (wv_get _ _ _ hx)) ?_
    intro a5 w5 hs5 k5 o16 f5
    have hR5 := hR4.keep f5 id
    have e12e := (k5 12 (by decide)).trans e12d
    refine wp_seq ?_
    refine sumR28 g1 c1 v.a a5 w5 _ hs5 e12e (G hR5 0 _ rfl) ?_
    intro a6 w6 hs6 k6 o17 f6
    have hR6 := hR5.keep f6 id
    have e12f := (k6 12 (by decide)).trans e12e
    have e16f := (k6 16 (by decide)).trans o16
    refine wp_seq ?_
    refine sumR29 g1 c1 v.a v.b v.c a6 w6 _ hs6 e12f (G hR6 0 _ rfl) (G hR6 1 _ rfl) (G hR6 2 _ rfl) ?_
    intro a7 w7 hs7 k7 o18 f7
    have hR7 := hR6.keep f7 id
    have e12g := (k7 12 (by decide)).trans e12f
    have e16g := (k7 16 (by decide)).trans e16f
    have e17g := (k7 17 (by decide)).trans o17
    have z1 := v.h.toNat_lt
    have z2 := (bg1 v.e).toNat_lt
    have z3 := (chs v.e v.f v.g).toNat_lt
    have z4 := kk.toNat_lt
    have z5 := xx.toNat_lt
    have hf7 : Fr noB w w7 := ((hf4.trans f5).trans f6).trans f7
    refine sumR30 g1 c1 ((v.h.toNat : Int) + ((bg1 v.e).toNat : Int) + ((chs v.e v.f v.g).toNat : Int) + (kk.toNat : Int) + (xx.toNat : Int)) (bg0 v.a) (maj v.a v.b v.c) v.a v.b v.c v.d v.e v.f v.g
      ((v.h + bg1 v.e + chs v.e v.f v.g + kk + xx) + (bg0 v.a + maj v.a v.b v.c)) (v.d + (v.h + bg1 v.e + chs v.e v.f v.g + kk + xx)) a7 w7 _ hs7 e12g e16g e17g o18 (by omega) (by omega)
      (x7w v.h (bg1 v.e) (chs v.e v.f v.g) kk xx (bg0 v.a) (maj v.a v.b v.c)) (x5w v.h (bg1 v.e) (chs v.e v.f v.g) kk xx v.d)
      (G hR7 0 _ rfl) (G hR7 1 _ rfl) (G hR7 2 _ rfl) (G hR7 3 _ rfl) (G hR7 4 _ rfl) (G hR7 5 _ rfl) (G hR7 6 _ rfl) ?_
    intro a8 w8 hs8 k8 o12 hI8 f8
    have hf8 := hf7.trans f8
    have e13h : sl a8 13 = .int .i64 (i : Int) := (k8 13 (by decide)).trans ((k7 13 (by decide)).trans ((k6 13 (by decide)).trans ((k5 13 (by decide)).trans e13d)))
    have k8a : Kp [0, 1, 4, 5, 7, 8] a a8 := fun x hx => (k8 x (by revert hx; revert x; decide)).trans ((k7 x (by revert hx; revert x; decide)).trans ((k6 x (by revert hx; revert x; decide)).trans ((k5 x (by revert hx; revert x; decide)).trans (k4a x hx))))
    refine sumR24 i a8 w8 _ hs8 e13h hi ?_
    intro a9 w9 hs9 k9 o13 f9
    refine ⟨hs9, ⟨i + 1, w7.heap.size, 8, by omega, o13, fun x hx => (k9 x (by revert hx; revert x; decide)).trans (k8a x hx), (k9 12 (by decide)).trans o12, ?_, .inr hf7.size, hf8.trans f9⟩, ?_⟩
    · rw [hnx]; exact (hI8.ri).keep f9 id
    · rw [o13, e13]; simp only [intOf]; omega
  · have : i = 64 := by have := of_decide_eq_false hb; omega
    subst this
    refine wp_exit (then_exit (then_exit (inBlock_self ?_)))
    exact HK.out a2 w2 g1 c1 hs2 (fun x hx => k2a x (by revert hx; revert x; decide)) e12b hR2 hg1 hf2

set_option maxRecDepth 20000 in
theorem sumMix (H V : S8) (g cg gv cv base : Nat) (a : Act) (w : World) (K : Exit → Act → World → Prop) (hs : Sz 319 a)
    (h7 : sl a 7 = .slice (some ⟨g, 0, none⟩) 8 cg) (h12 : sl a 12 = .slice (some ⟨gv, 0, none⟩) 8 cv) (h278 : sl a 278 = .int .i64 8) (h279 : sl a 279 = .int .i64 ((0 : Nat) : Int)) (hgv : gv ≠ g)
    (hO : OI w base (.slice (some ⟨g, 0, none⟩) 8 cg) (wv H.list)) (hR : RI w gv (wv V.list))
    (hK : ∀ a' w', Sz 319 a' → Kp [0, 1, 4, 5, 7] a a' → OI w' base (.slice (some ⟨g, 0, none⟩) 8 cg) (wv (H.add V).list) → Fr (fun q => q = g) w w' → K .normal a' w') :
    (blockOf Tryd.f6 10).wp Tryd.prog K a w := by
  have HK := Lib.hid hK
  clear hK
  conv => arg 2; whnf
  refine wp_block ?_
  refine wp_loop_sz 319 (fun a' w' => ∃ (i : Nat), i ≤ 8 ∧ sl a' 279 = .int .i64 (i : Int) ∧ Kp [0, 1, 4, 5, 7, 12, 278] a a' ∧ OI w' base (.slice (some ⟨g, 0, none⟩) 8 cg) (wv (mixN H V i)) ∧ Fr (fun q => q = g) w w') (fun a' _ => 8 - (intOf (sl a' 279)).toNat)
    hs ⟨0, by omega, h279, Kp.refl _ _, by rw [mixN_zero]; exact hO, Fr.refl _ _⟩ ?_
  rintro a1 w1 hs1 ⟨i, hi, e279, k1, hO1, hf⟩
  refine wp_seq ?_
  refine sumR32 i a1 w1 _ hs1 e279 ((k1 278 (by decide)).trans h278) hi ?_
  intro a2 w2 hs2 k2 o280 f2
  have k2a : Kp [0, 1, 4, 5, 7, 12, 278] a a2 := fun x hx => (k2 x (by revert hx; revert x; decide)).trans (k1 x hx)
  have hO2 := hO1.quiet f2
  have hf2 := hf.none f2
  have e279b := (k2 279 (by decide)).trans e279
  refine wp_seq ?_
  refine wp_if o280 (fun hb => ?_) (fun hb => ?_)
  · have hlt : i < 8 := of_decide_eq_true hb
    obtain ⟨x, y, hx, hy, hnx⟩ := mixN_step H V i hlt
    refine wp_skip ?_
    refine wp_seq (wp_block (wp_seq ?_))
    refine sumR33 i a2 w2 _ hs2 e279b ?_
    intro a3 w3 hs3 k3 o19 f3
    have hO3 := hO2.quiet f3
    have hf3 := hf2.none f3
    have k3a : Kp [0, 1, 4, 5, 7, 12, 278] a a3 := fun x hx => (k3 x (by revert hx; revert x; decide)).trans (k2a x hx)
    refine sumR34 g cg gv cv i x y a3 w3 _ hs3 ((k3a 7 (by decide)).trans h7) ((k3a 12 (by decide)).trans h12) o19 hlt (hO3.get _ _ (wv_get _ _ _ hx)) ((hR.keep hf3 hgv).get _ _ (wv_get _ _ _ hy)) (hO3.free _) ?_
    intro a4 w4 hs4 k4 hw4
    subst hw4
    have hO4 : OI (w3.drew.setCell ⟨g, i, none⟩ (.int .i64 ((x + y).toNat : Int))) base (.slice (some ⟨g, 0, none⟩) 8 cg) (wv (mixN H V (i + 1))) := by
      have h := OI.put (w := w3.drew) (hO3.quiet (Fr.drew (Fr.refl noB w3))) i (x + y).toNat
      have e : wv (mixN H V (i + 1)) = (wv (mixN H V i)).set i (x + y).toNat := by rw [hnx]; simp [wv, List.map_set]
      rw [e]; exact h
    have hf4 : Fr (fun q => q = g) w (w3.drew.setCell ⟨g, i, none⟩ (.int .i64 ((x + y).toNat : Int))) := (hf3.drew).setCell (p := ⟨g, i, none⟩) (fun _ => rfl) _
    refine sumR35 i a4 _ _ hs4 ((k4 279 (by decide)).trans ((k3 279 (by decide)).trans e279b)) hi ?_
    intro a5 w5 hs5 k5 o279 f5
    refine ⟨hs5, ⟨i + 1, by omega, o279, fun x hx => (k5 x (by revert hx; revert x; decide)).trans ((k4 x (by revert hx; revert x; decide)).trans (k3a x hx)), hO4.quiet f5, hf4.none f5⟩, ?_⟩
    rw [o279, e279]; simp only [intOf]; omega
  · have : i = 8 := by have := of_decide_eq_false hb; omega
    subst this
    refine wp_exit (then_exit (then_exit (inBlock_self ?_)))
    rw [mixN_all] at hO2
    exact HK.out a2 w2 hs2 (fun x hx => k2a x (by revert hx; revert x; decide)) hO2 hf2
end Go.Proofs.YtcbkaiakdhiloaaDoor
