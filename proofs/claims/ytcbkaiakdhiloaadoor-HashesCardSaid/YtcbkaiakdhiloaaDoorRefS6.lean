/- The reference's Sum: the loop over the blocks. -/
import Derived.Test.YtcbkaiakdhiloaaDoorRefS5
set_option linter.unusedSimpArgs false
set_option linter.unusedVariables false
namespace Go.Proofs.YtcbkaiakdhiloaaDoor
open Go.RowKit Go.Proofs

def loopIn : Code → Code
  | .block _ c => c
  | c => c
theorem words32_take (u : List UInt8) : words32 (u.take 64) 16 = words32 u 16 := by
  unfold words32
  apply List.map_congr_left
  intro i hi
  have hi2 : i < 16 := by simpa using hi
  have h : ∀ k, k < 64 → (u.take 64).getD k 0 = u.getD k 0 := by
    intro k hk
    rw [List.getD_eq_getElem?_getD, List.getD_eq_getElem?_getD, List.getElem?_take, if_pos hk]
  rw [h _ (by omega), h _ (by omega), h _ (by omega), h _ (by omega)]
theorem blk_wsN (H : S8) (u : List UInt8) : blk H (u.take 64) = H.add (rnds H (wsN u 64) 64) := by
  rw [blk, words32_take, wsN_all]

set_option maxRecDepth 20000 in
theorem sumBlocks (t : List UInt8) (ht : t.length % 64 = 0) (htl : t.length ≤ 1000000000000) (p g c gk ck : Nat) (wB : World) (a : Act) (w : World) (K : Exit → Act → World → Prop) (hs : Sz 319 a)
    (h0 : sl a 0 = .pointer (some ⟨p, 0, none⟩)) (h1 : sl a 1 = .string (bs t)) (h7 : sl a 7 = .slice (some ⟨g, 0, none⟩) 8 c)
    (hf : Fr noB wB w) (hp : p < wB.heap.size) (hcp : wB.cell? ⟨p, 1, none⟩ = some (.slice (some ⟨gk, 0, none⟩) 64 ck)) (hRk : RI wB gk (wv kTab)) (hO : OI w wB.heap.size (.slice (some ⟨g, 0, none⟩) 8 c) (wv Go.Proofs.YtcbkaiakdhiloaaDoor.h0.list))
    (hK : ∀ a' w', Sz 319 a' → Kp [0, 4, 7] a a' → OI w' wB.heap.size (.slice (some ⟨g, 0, none⟩) 8 c) (wv (feed Go.Proofs.YtcbkaiakdhiloaaDoor.h0 t).1.list) → Fr noB wB w' → K (.exit 4) a' w') :
    (loopIn (blockOf Tryd.f6 4)).wp Tryd.prog K a w := by
  have HK := Lib.hid hK
  clear hK
  conv => arg 2; whnf
  refine wp_loop_sz 319 (fun a' w' => ∃ (H : S8) (u : List UInt8), sl a' 1 = .string (bs u) ∧ u.length % 64 = 0 ∧ u.length ≤ t.length ∧ feed H u = feed Go.Proofs.YtcbkaiakdhiloaaDoor.h0 t ∧ Kp [0, 4, 7] a a' ∧ OI w' wB.heap.size (.slice (some ⟨g, 0, none⟩) 8 c) (wv H.list) ∧ Fr noB wB w') (fun a' _ => strLen (sl a' 1))
    hs ⟨Go.Proofs.YtcbkaiakdhiloaaDoor.h0, t, h1, ht, Nat.le_refl _, rfl, Kp.refl _ _, hO, hf⟩ ?_
  rintro a1 w1 hs1 ⟨H, u, e1, hu, hul, hfeed, k1, hO1, hf1⟩
  refine wp_seq (wp_seq ?_)
  rcases Nat.eq_zero_or_pos u.length with hz | hz
  · obtain rfl : u = [] := List.eq_nil_of_length_eq_zero hz
    refine sumR10n a1 w1 _ hs1 e1 ?_
    intro a2 w2 hs2 k2 o53 f2
    refine wp_if o53 (fun hb => by cases hb) (fun _ => ?_)
    refine wp_exit (then_exit (then_exit ?_))
    have hfe : (feed Go.Proofs.YtcbkaiakdhiloaaDoor.h0 t).1 = H := by rw [← hfeed]; rfl
    refine HK.out a2 w2 hs2 (fun x hx => (k2 x (by revert hx; revert x; decide)).trans (k1 x hx)) ?_ (hf1.trans f2)
    rw [hfe]; exact hO1.quiet f2
  · have hu64 : 64 ≤ u.length := by omega
    refine sumR10 u a1 w1 _ hs1 e1 hz ?_
    intro a2 w2 hs2 k2 o53 f2
    refine wp_if o53 (fun _ => ?_) (fun hb => by cases hb)
    have k2a : Kp [0, 4, 7] a a2 := fun x hx => (k2 x (by revert hx; revert x; decide)).trans (k1 x hx)
    have hO2 := hO1.quiet f2
    have hf2 := hf1.trans f2
    have e1b := (k2 1 (by decide)).trans e1
    refine wp_skip ?_
    refine wp_seq (wp_block (wp_seq ?_))
    refine sumR12 a2 w2 _ hs2 ?_
    intro a3 w3 hs3 k3 o8 f3
    have k3a : Kp [0, 4, 7] a a3 := fun x hx => (k3 x (by revert hx; revert x; decide)).trans (k2a x hx)
    refine wp_seq (wp_seq ?_)
    refine sumR13 a3 w3 _ hs3 ?_
    intro a4 w4 hs4 k4 o9 f4
    have k4a : Kp [0, 4, 7] a a4 := fun x hx => (k4 x (by revert hx; revert x; decide)).trans (k3a x hx)
    have hO4 := (hO2.quiet f3).quiet f4
    have hf4 := (hf2.trans f3).trans f4
    have e1d : sl a4 1 = .string (bs u) := (k4 1 (by decide)).trans ((k3 1 (by decide)).trans e1b)
    refine sumSched u hu64 (by omega) a4 w4 _ hs4 e1d ((k4 8 (by decide)).trans o8) o9 ?_
    intro a5 w5 hs5 k5 hOw f5
    have hlen : (wsN u 64).length = 64 := wsN_length u 64
    obtain ⟨gw, cw, e8, hRw, hgw⟩ := hOw.form (by rw [wv_length, hlen]; omega)
    rw [wv_length, hlen] at e8
    have k5a : Kp [0, 4, 7] a a5 := fun x hx => (k5 x (by revert hx; revert x; decide)).trans (k4a x hx)
    have hO5 := hO4.quiet f5
    have hf5 := hf4.trans f5
    have e1e : sl a5 1 = .string (bs u) := (k5 1 (by decide)).trans e1d
    have e7e : sl a5 7 = .slice (some ⟨g, 0, none⟩) 8 c := (k5a 7 (by decide)).trans h7
    have hRh : RI w5 g (wv H.list) := by
      obtain ⟨g2, c2, he, hR2, _⟩ := hO5.form (by rw [wv_length, S8.list_length]; decide)
      injection he with x1 _ _
      injection x1 with x1
      injection x1 with x1
      subst x1
      exact hR2
    refine wp_seq ?_
    refine sumR21 g c (wv H.list) a5 w5 _ hs5 e7e hRh rfl ?_
    intro a6 w6 hs6 k6 hOv f6
    obtain ⟨gv, cv, e12, hRv, hgv⟩ := hOv.form (by rw [wv_length, S8.list_length]; decide)
    rw [show (wv H.list).length = 8 from rfl] at e12
    have k6a : Kp [0, 4, 7] a a6 := fun x hx => (k6 x (by revert hx; revert x; decide)).trans (k5a x hx)
    have hO6 := hO5.quiet f6
    have hf6 := hf5.trans f6
    have hgg : g < w5.heap.size := hRh.lt
    refine wp_seq (wp_seq ?_)
    refine sumR22 a6 w6 _ hs6 ?_
    intro a7 w7 hs7 k7 o13 f7
    have k7a : Kp [0, 4, 7] a a7 := fun x hx => (k7 x (by revert hx; revert x; decide)).trans (k6a x hx)
    have hO7 := hO6.quiet f7
    have hf7 := hf6.trans f7
    have e8g : sl a7 8 = .slice (some ⟨gw, 0, none⟩) 64 cw := (k7 8 (by decide)).trans ((k6 8 (by decide)).trans e8)
    refine sumRounds H (wsN u 64) hlen p gk ck gw cw gv cv a7 w7 _ hs7 ((k7a 0 (by decide)).trans h0) e8g ((k7 12 (by decide)).trans e12) o13
      (Nat.lt_of_lt_of_le hp hf7.size) ((hf7.cell (a := ⟨p, 1, none⟩) hp id).trans hcp) (hRk.keep hf7 id) ((hRw.keep f6 id).keep f7 id) (hRv.keep f7 id) ?_
    intro a8 w8 g8 c8 hs8 k8 e12h hR8 hg8 f8
    have k8a : Kp [0, 4, 7] a a8 := fun x hx => (k8 x (by revert hx; revert x; decide)).trans (k7a x hx)
    have hO8 := hO7.quiet f8
    have hf8 := hf7.trans f8
    have hne8 : g8 ≠ g := by
      rcases hg8 with h | h
      · omega
      · have := (f6.trans f7).size; omega
    refine wp_seq ?_
    refine sumR31 g c a8 w8 _ hs8 ((k8a 7 (by decide)).trans h7) ?_
    intro a9 w9 hs9 k9 o278 o279 f9
    have k9a : Kp [0, 4, 7] a a9 := fun x hx => (k9 x (by revert hx; revert x; decide)).trans (k8a x hx)
    have hO9 := hO8.quiet f9
    have hf9 := hf8.trans f9
    have e1i : sl a9 1 = .string (bs u) := (k9 1 (by decide)).trans ((k8 1 (by decide)).trans ((k7 1 (by decide)).trans ((k6 1 (by decide)).trans e1e)))
    refine sumMix H (rnds H (wsN u 64) 64) g c g8 c8 wB.heap.size a9 w9 _ hs9 ((k9a 7 (by decide)).trans h7) ((k9 12 (by decide)).trans e12h) o278 o279 hne8 hO9 (hR8.keep f9 id) ?_
    intro a10 w10 hs10 k10 hO10 f10
    have hgB : wB.heap.size ≤ g := (World.ownsRow.lt hO g rfl).1
    have hf10 : Fr noB wB w10 := hf9.trans' f10 fun b hb he => by exfalso; omega
    have k10a : Kp [0, 4, 7] a a10 := fun x hx => (k10 x (by revert hx; revert x; decide)).trans (k9a x hx)
    rw [← blk_wsN] at hO10
    refine sumR11 u a10 w10 _ hs10 ((k10 1 (by decide)).trans e1i) hu64 (by omega) ?_
    intro a11 w11 hs11 k11 o1 f11
    refine ⟨hs11, ⟨blk H (u.take 64), u.drop 64, o1, by rw [List.length_drop]; omega, by rw [List.length_drop]; omega, by rw [← feed_big H u hu64]; exact hfeed, fun x hx => (k11 x (by revert hx; revert x; decide)).trans (k10a x hx), hO10.quiet f11, hf10.trans f11⟩, ?_⟩
    rw [o1, e1]; simp only [strLen, bs_size, List.length_drop]; omega
end Go.Proofs.YtcbkaiakdhiloaaDoor
