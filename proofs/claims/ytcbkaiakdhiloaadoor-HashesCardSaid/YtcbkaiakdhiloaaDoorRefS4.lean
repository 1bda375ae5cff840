/- The reference's Sum: the loops of a block's round. -/
import Derived.Test.YtcbkaiakdhiloaaDoorRefS3
set_option linter.unusedSimpArgs false
set_option linter.unusedVariables false
namespace Go.Proofs.YtcbkaiakdhiloaaDoor
open Go.RowKit Go.Proofs

theorem inBlock_self {id : Nat} {Q : Exit → Act → World → Prop} {a : Act} {w : World} (h : Q .normal a w) : Exit.inBlock id Q (.exit id) a w := by simp only [Exit.inBlock, if_true]; exact h
theorem then_exit {id : Nat} {K : Act → World → Prop} {Q : Exit → Act → World → Prop} {a : Act} {w : World} (h : Q (.exit id) a w) : Exit.then K Q (.exit id) a w := h
theorem OI.get {w : World} {base g n c : Nat} {l : List Nat} (h : OI w base (.slice (some ⟨g, 0, none⟩) n c) l) (k x : Nat) (hx : l[k]? = some x) : w.cell? ⟨g, k, none⟩ = some (.int .i64 (x : Int)) := by
  have hl : 0 < l.length := by
    rcases Nat.eq_zero_or_pos l.length with h0 | h0
    · rw [List.length_eq_zero_iff.1 h0] at hx; cases hx
    · exact h0
  obtain ⟨g2, c2, he, hR, _⟩ := h.form hl
  injection he with h1 _ _
  injection h1 with h1
  injection h1 with h1
  subst h1
  exact hR.get k x hx
theorem OI.free {w : World} {base g n c : Nat} {l : List Nat} (h : OI w base (.slice (some ⟨g, 0, none⟩) n c) l) (k : Nat) : w.frozen? ⟨g, k, none⟩ = false := by
  rcases h.2 with ⟨h0, _⟩ | ⟨g', cap, cur, h0, hb, hg, _⟩
  · cases h0
  · injection h0 with h1 _ _
    injection h1 with h1
    injection h1 with h1
    subst h1
    exact Bk.free (t := 3) (cs := cur) hg k
theorem OI.put {w : World} {base g n c : Nat} {l : List Nat} (h : OI w base (.slice (some ⟨g, 0, none⟩) n c) l) (k x : Nat) : OI (w.setCell ⟨g, k, none⟩ (.int .i64 (x : Int))) base (.slice (some ⟨g, 0, none⟩) n c) (l.set k x) := by
  have hn : n = l.length := by
    rcases h.2 with ⟨h0, _⟩ | ⟨g', cap, cur, h0, _⟩
    · cases h0
    · injection h0
  have h1 := h
  unfold OI at h1 ⊢
  rw [hn] at h1 ⊢
  rw [List.length_set]
  have h2 := (World.ownsRow.stored h1 k (.int .i64 (x : Int))).1
  have e : (ints l).set k (.int .i64 (x : Int)) = ints (l.set k x) := by simp [ints, List.map_set]
  rw [e] at h2
  exact h2
theorem wv_at (l : List UInt32) (k : Nat) (h : k < l.length) : (wv l)[k]? = some (l.getD k 0).toNat := wv_get l k _ (getD_of l k h)

set_option maxRecDepth 20000 in
theorem sumSched (B : List UInt8) (hB : 64 ≤ B.length) (hBl : B.length ≤ 1000000000000) (a : Act) (w : World) (K : Exit → Act → World → Prop) (hs : Sz 319 a)
    (h1 : sl a 1 = .string (bs B)) (h8 : sl a 8 = .slice none 0 0) (h9 : sl a 9 = .int .i64 ((0 : Nat) : Int))
    (hK : ∀ a' w', Sz 319 a' → Kp [0, 1, 4, 5, 7] a a' → OI w' w.heap.size (sl a' 8) (wv (wsN B 64)) → Fr noB w w' → K .normal a' w') :
    (blockOf Tryd.f6 6).wp Tryd.prog K a w := by
  have HK := Lib.hid hK
  clear hK
  conv => arg 2; whnf
  refine wp_block ?_
  refine wp_loop_sz 319 (fun a' w' => ∃ i : Nat, i ≤ 64 ∧ sl a' 9 = .int .i64 (i : Int) ∧ Kp [0, 1, 4, 5, 7] a a' ∧ OI w' w.heap.size (sl a' 8) (wv (wsN B i)) ∧ Fr noB w w') (fun a' _ => 64 - (intOf (sl a' 9)).toNat)
    hs ⟨0, by omega, h9, Kp.refl _ _, by rw [h8, wsN_zero]; exact OI.nil _ _, Fr.refl _ _⟩ ?_
  rintro a1 w1 hs1 ⟨i, hi, e9, k1, hO, hf⟩
  refine wp_seq (wp_seq ?_)
  refine sumR14 i a1 w1 _ hs1 e9 hi ?_
  intro a2 w2 hs2 k2 o57 f2
  have e9b : sl a2 9 = .int .i64 (i : Int) := (k2 9 (by decide)).trans e9
  have k2a : Kp [0, 1, 4, 5, 7] a a2 := fun x hx => (k2 x (by revert hx; revert x; decide)).trans (k1 x hx)
  have e8b := k2 8 (by decide)
  have e1b : sl a2 1 = .string (bs B) := (k2a 1 (by decide)).trans h1
  have hO2 : OI w2 w.heap.size (sl a2 8) (wv (wsN B i)) := by rw [e8b]; exact hO.quiet f2
  have hf2 := hf.trans f2
  refine wp_if o57 (fun hb => ?_) (fun hb => ?_)
  · have hlt : i < 64 := of_decide_eq_true hb
    refine wp_skip ?_
    refine wp_seq (wp_block (wp_seq (wp_seq ?_)))
    refine sumR16 i a2 w2 _ hs2 e9b hi ?_
    intro a3 w3 hs3 k3 o61 f3
    have e9c : sl a3 9 = .int .i64 (i : Int) := (k3 9 (by decide)).trans e9b
    have k3a : Kp [0, 1, 4, 5, 7] a a3 := fun x hx => (k3 x (by revert hx; revert x; decide)).trans (k2a x hx)
    have e8c := k3 8 (by decide)
    have e1c : sl a3 1 = .string (bs B) := (k3a 1 (by decide)).trans h1
    have hO3 : OI w3 w.heap.size (sl a3 8) (wv (wsN B i)) := by rw [e8c]; exact hO2.quiet f3
    have hf3 := hf2.trans f3
    have hend : ∀ (a5 : Act) (w5 : World), Sz 319 a5 → sl a5 9 = .int .i64 (i : Int) → Kp [0, 1, 4, 5, 7] a a5 → OI w5 w.heap.size (sl a5 8) (wv (wsN B (i + 1))) → Fr noB w w5 →
        (regionOf Tryd.f6 15).wp Tryd.prog (Exit.then (fun a' w' => Sz 319 a' ∧ (∃ i : Nat, i ≤ 64 ∧ sl a' 9 = .int .i64 (i : Int) ∧ Kp [0, 1, 4, 5, 7] a a' ∧ OI w' w.heap.size (sl a' 8) (wv (wsN B i)) ∧ Fr noB w w') ∧ 64 - (intOf (sl a' 9)).toNat < 64 - (intOf (sl a1 9)).toNat) (Exit.inBlock 6 K)) a5 w5 := by
      intro a5 w5 hs5 e5 k5 hO5 hf5
      refine sumR15 i a5 w5 _ hs5 e5 hi ?_
      intro a6 w6 hs6 k6 o9 f6
      refine ⟨hs6, ⟨i + 1, by omega, o9, fun x hx => (k6 x (by revert hx; revert x; decide)).trans (k5 x hx), ?_, hf5.trans f6⟩, ?_⟩
      · rw [k6 8 (by decide)]; exact hO5.quiet f6
      · rw [o9, e9]; simp only [intOf]; omega
    have Hend := Lib.hid hend
    clear hend
    refine wp_if o61 (fun hb2 => ?_) (fun hb2 => ?_)
    · have h16 : i < 16 := of_decide_eq_true hb2
      have hat : ∀ j, j < B.length → B[j]? = some (B.getD j 0) := fun j hj => by rw [List.getD_eq_getElem?_getD, List.getElem?_eq_getElem hj]; rfl
      refine wp_seq ?_
      refine sumR17 i B _ _ _ _ (sl a3 8) w (wv (wsN B i)) a3 w3 _ hs3 e1c rfl e9c h16 hB hBl (hat _ (by omega)) (hat _ (by omega)) (hat _ (by omega)) (hat _ (by omega)) hO3 hf3 (by rw [wv_length, wsN_length]; omega) ?_
      intro a4 w4 hs4 k4 hO4 hf4
      refine wp_exit (then_exit (inBlock_self ?_))
      refine Hend.out a4 w4 hs4 ((k4 9 (by decide)).trans e9c) (fun x hx => (k4 x (by revert hx; revert x; decide)).trans (k3a x hx)) ?_ hf4
      rw [wsN_lo B i h16, wv_append]; exact hO4
    · have h16 : 16 ≤ i := by have := of_decide_eq_false hb2; omega
      refine wp_skip ?_
      have hlen : (wsN B i).length = i := wsN_length B i
      obtain ⟨g, c, e8, hR, hgb⟩ := hO3.form (by rw [wv_length, hlen]; omega)
      rw [wv_length, hlen] at e8
      refine wp_seq ?_
      refine sumR18 i g c ((wsN B i).getD (i - 15) 0) a3 w3 _ hs3 e8 e9c h16 hlt (hR.get _ _ (wv_at _ _ (by omega))) ?_
      intro a4 w4 hs4 k4 o10 f4
      have hR4 := hR.keep f4 id
      have e8d := (k4 8 (by decide)).trans e8
      have e9d := (k4 9 (by decide)).trans e9c
      refine wp_seq ?_
      refine sumR19 i g c ((wsN B i).getD (i - 2) 0) a4 w4 _ hs4 e8d e9d h16 hlt (hR4.get _ _ (wv_at _ _ (by omega))) ?_
      intro a5 w5 hs5 k5 o11 f5
      have hR5 := hR4.keep f5 id
      have e8e := (k5 8 (by decide)).trans e8d
      have e9e := (k5 9 (by decide)).trans e9d
      have e10e := (k5 10 (by decide)).trans o10
      have hO5 : OI w5 w.heap.size (.slice (some ⟨g, 0, none⟩) i c) (wv (wsN B i)) := by have := (hO3.quiet f4).quiet f5; rw [e8] at this; exact this
      refine sumR20 i g c ((wsN B i).getD (i - 16) 0) ((wsN B i).getD (i - 7) 0) _ _ w (wv (wsN B i)) a5 w5 _ hs5 e8e e9e e10e o11 h16 hlt (hR5.get _ _ (wv_at _ _ (by omega))) (hR5.get _ _ (wv_at _ _ (by omega))) hO5 ((hf3.trans f4).trans f5) (by rw [wv_length, hlen]; omega) ?_
      intro a6 w6 hs6 k6 hO6 hf6
      refine Hend.out a6 w6 hs6 ((k6 9 (by decide)).trans e9e) (fun x hx => (k6 x (by revert hx; revert x; decide)).trans ((k5 x (by revert hx; revert x; decide)).trans ((k4 x (by revert hx; revert x; decide)).trans (k3a x hx)))) ?_ hf6
      rw [wsN_hi B i h16, wv_append, nextW, hlen]; exact hO6
  · have : i = 64 := by have := of_decide_eq_false hb; omega
    subst this
    refine wp_exit (then_exit (then_exit (inBlock_self ?_)))
    exact HK.out a2 w2 hs2 k2a hO2 hf2
end Go.Proofs.YtcbkaiakdhiloaaDoor
