/- The program's block: its contract. -/
import Derived.Test.YtcbkaiakdhiloabDoorHashB4
set_option linter.unusedSimpArgs false
set_option linter.unusedVariables false
namespace Go.Proofs.YtcbkaiakdhiloabDoor
open Go.RowKit Go.Proofs

/-- the state of a hash at block p: eight words, the rest, the number -/
def StB (w : World) (p : Nat) (l : List UInt32) (r n : Value) : Prop := Bk w p 75 (u32s l ++ [r, n]).toArray
theorem StB.ru {w : World} {p : Nat} {l : List UInt32} {r n : Value} (h : StB w p l r n) : RU w p l := ⟨Bk.lt h, fun k x hx => by
  have hk : k < l.length := by
    rcases Nat.lt_or_ge k l.length with h | h
    · exact h
    · rw [List.getElem?_eq_none h] at hx; cases hx
  rw [Bk.cell h k]
  simp only [List.getElem?_toArray]
  rw [List.getElem?_append_left (by rw [u32s_length]; exact hk)]
  exact u32s_get l k x hx⟩
theorem StB.free {w : World} {p : Nat} {l : List UInt32} {r n : Value} (h : StB w p l r n) (k : Nat) : w.frozen? ⟨p, k, none⟩ = false := Bk.free h k
theorem StB.set {w : World} {p : Nat} {l : List UInt32} {r n : Value} (h : StB w p l r n) (k : Nat) (x : UInt32) (hk : k < l.length) : StB (w.setCell ⟨p, k, none⟩ (.int .u32 (x.toNat : Int))) p (l.set k x) r n := by
  have h1 := Bk.set h k (.int .u32 (x.toNat : Int))
  have e : (u32s l ++ [r, n]).toArray.setIfInBounds k (.int .u32 (x.toNat : Int)) = (u32s (l.set k x) ++ [r, n]).toArray := by
    rw [List.setIfInBounds_toArray, List.set_append_left _ _ (by rw [u32s_length]; exact hk)]
    simp [u32s, List.map_set]
  rw [e] at h1; exact h1
theorem StB.keep {S : Nat → Prop} {w w' : World} {p : Nat} {l : List UInt32} {r n : Value} (h : StB w p l r n) (hf : Fr S w w') (hp : ¬ S p) : StB w' p l r n := Bk.keep h hf hp
theorem mixN_length (x y : S8) (i : Nat) (h : i ≤ 8) : (mixN x y i).length = 8 := by
  unfold mixN; rw [List.length_append, List.length_take, List.length_drop, S8.list_length, S8.list_length]; omega

set_option maxRecDepth 20000 in
theorem blkAdd (H V : S8) (r n : Value) (p gh : Nat) (hne : gh ≠ p) (a : Act) (w : World) (K : Exit → Act → World → Prop) (hs : Sz 195 a)
    (h0 : sl a 0 = .pointer (some ⟨p, 0, none⟩)) (h11 : sl a 11 = .pointer (some ⟨gh, 0, none⟩)) (h178 : sl a 178 = .int .i64 ((0 : Nat) : Int))
    (hS : StB w p H.list r n) (hR : RU w gh V.list)
    (hK : ∀ a' w', Sz 195 a' → StB w' p (H.add V).list r n → Fr (oneB p) w w' → K .normal a' w') :
    (blockOf fBlk 6).wp Tryd.prog K a w := by
  have HK := Lib.hid hK
  clear hK
  conv => arg 2; whnf
  refine wp_block ?_
  refine wp_loop_sz 195 (fun a' w' => ∃ i : Nat, i ≤ 8 ∧ sl a' 178 = .int .i64 (i : Int) ∧ Kp [0, 11] a a' ∧ StB w' p (mixN H V i) r n ∧ Fr (oneB p) w w') (fun a' _ => 8 - (intOf (sl a' 178)).toNat)
    hs ⟨0, by omega, h178, Kp.refl _ _, by rw [mixN_zero]; exact hS, Fr.refl _ _⟩ ?_
  rintro a1 w1 hs1 ⟨i, hi, e178, k1, hS1, hf⟩
  refine wp_seq ?_
  refine blkR25 i a1 w1 _ hs1 e178 hi ?_
  intro a2 w2 hs2 k2 o179 f2
  have k2a : Kp [0, 11] a a2 := fun x hx => (k2 x (by revert hx; revert x; decide)).trans (k1 x hx)
  have e178b := (k2 178 (by decide)).trans e178
  have hS2 := hS1.keep f2 id
  have hf2 := hf.none f2
  refine wp_seq ?_
  refine wp_if o179 (fun hb2 => ?_) (fun hb2 => ?_)
  · have hlt : i < 8 := of_decide_eq_true hb2
    obtain ⟨x, y, hx, hy, hnx⟩ := mixN_step H V i hlt
    refine wp_skip ?_
    refine wp_seq (wp_block (wp_seq ?_))
    refine blkR26 i a2 w2 _ hs2 e178b ?_
    intro a3 w3 hs3 k3 o17 f3
    have hS3 := hS2.keep f3 id
    have hf3 := hf2.none f3
    have k3a : Kp [0, 11] a a3 := fun x hx => (k3 x (by revert hx; revert x; decide)).trans (k2a x hx)
    refine blkR27 i p gh x y a3 w3 _ hs3 ((k3a 0 (by decide)).trans h0) ((k3a 11 (by decide)).trans h11) o17 hlt (hS3.ru.2 _ _ hx) ((hR.keep hf3 hne).2 _ _ hy) (hS3.free i) ?_
    intro a4 w4 hs4 k4 hw4
    subst hw4
    have hS4 := StB.set (w := w3.drew) hS3 i (x + y) (by rw [mixN_length _ _ _ hi]; exact hlt)
    rw [← hnx] at hS4
    have hf4 := hf3.drew.setCell (p := ⟨p, i, none⟩) (fun _ => rfl) (.int .u32 ((x + y).toNat : Int))
    refine blkR28 i a4 _ _ hs4 ((k4 178 (by decide)).trans ((k3 178 (by decide)).trans e178b)) hi ?_
    intro a5 w5 hs5 k5 o178 f5
    refine ⟨hs5, ⟨i + 1, by omega, o178, fun x hx => (k5 x (by revert hx; revert x; decide)).trans ((k4 x (by revert hx; revert x; decide)).trans (k3a x hx)), hS4.keep f5 id, hf4.none f5⟩, ?_⟩
    rw [o178, e178]; simp only [intOf]; omega
  · have : i = 8 := by have := of_decide_eq_false hb2; omega
    subst this
    refine wp_exit (then_exit (then_exit (inBlock_self ?_)))
    rw [mixN_all] at hS2
    exact HK.out a2 w2 hs2 hS2 hf2

set_option maxRecDepth 20000 in
/-- one block of 64 bytes -/
theorem hashBlock (H : S8) (B : List UInt8) (hB : 64 ≤ B.length) (p gb off cb : Nat) (r n : Value) (w : World)
    (hS : StB w p H.list r n) (hb : RB w gb off B) (hgp : gb ≠ p) (hRk : RU w 3 kTab) (hkp : 3 ≠ p) :
    Calls Tryd.prog 63 #[.pointer (some ⟨p, 0, none⟩), .slice (some ⟨gb, off, none⟩) 64 cb] w
      (fun e w' => e = .returned (.tuple #[]) ∧ StB w' p (blk H (B.take 64)).list r n ∧ Fr (oneB p) w w') := by
  have hpl : p < w.heap.size := Bk.lt hS
  go_enter Tryd.func63, Tryd.ntmps63
  refine wp_seq ?_
  refine blkR0 _ w _ ⟨rfl, rfl⟩ ?_
  intro a1 w1 hs1 k1 o4 hw1
  subst hw1
  have hf1 : Fr noB w (w.alloc (.cells (u32s (List.replicate 64 0)).toArray 117)) := (Fr.refl _ _).alloc _
  have hU1 : UB (w.alloc (.cells (u32s (List.replicate 64 0)).toArray 117)) w.heap.size 117 (lay64 []) := Bk.new w _ _
  generalize w.alloc (.cells (u32s (List.replicate 64 0)).toArray 117) = w1 at *
  have e0 : sl a1 0 = .pointer (some ⟨p, 0, none⟩) := (k1 0 (by decide)).trans rfl
  have e1 : sl a1 1 = .slice (some ⟨gb, off, none⟩) 64 cb := (k1 1 (by decide)).trans rfl
  have hgw : w.heap.size < w1.heap.size := Bk.lt hU1
  generalize hgwe : w.heap.size = gw at *
  have hgbl := hb.1
  refine wp_seq (wp_seq ?_)
  refine blkR1 a1 w1 _ hs1 ?_
  intro a2 w2 hs2 k2 o18 f2
  refine blkWords B hB gw gb off cb (by omega) a2 w2 _ hs2 ((k2 1 (by decide)).trans e1) ((k2 4 (by decide)).trans o4) o18 ((hb.keep hf1 id).keep f2 id) (Bk.keep hU1 f2 id) ?_
  intro a3 w3 hs3 k3 hU3 f3
  have hf3 : Fr noB w w3 := (hf1.trans f2).trans' f3 fun b hb he => by unfold oneB at he; omega
  have k3a : Kp [0, 1, 4] a1 a3 := fun x hx => (k3 x hx).trans (k2 x (by revert hx; revert x; decide))
  refine wp_seq (wp_seq ?_)
  refine blkR6 a3 w3 _ hs3 ?_
  intro a4 w4 hs4 k4 o6 f4
  refine blkSched B hB gw a4 w4 _ hs4 ((k4 4 (by decide)).trans ((k3a 4 (by decide)).trans o4)) o6 (Bk.keep hU3 f4 id) ?_
  intro a5 w5 hs5 k5 hU5 f5
  have hf5 : Fr noB w w5 := (hf3.trans f4).trans' f5 fun b hb he => by unfold oneB at he; omega
  have k5a : Kp [0, 1, 4] a1 a5 := fun x hx => (k5 x hx).trans ((k4 x (by revert hx; revert x; decide)).trans (k3a x hx))
  have hS5 : StB w5 p H.list r n := hS.keep hf5 id
  refine wp_seq ?_
  refine blkR13 p H a5 w5 _ hs5 ((k5a 0 (by decide)).trans e0) hS5.ru ?_
  intro a6 w6 hs6 k6 o11 hU6 f6
  have hgw5 : gw < w5.heap.size := Bk.lt hU5
  have hp5 : p < w5.heap.size := Bk.lt hS5
  have hk5 : 3 < w5.heap.size := (hRk.keep hf5 id).1
  generalize hghe : w5.heap.size = gh at *
  have hU6w : UB w6 gw 117 (wsN B 64) := Bk.keep hU5 f6 id
  have hf6 := hf5.trans f6
  have k6a : Kp [0, 1, 4] a1 a6 := fun x hx => (k6 x (by revert hx; revert x; decide)).trans (k5a x hx)
  refine wp_seq (wp_seq ?_)
  refine blkR14 a6 w6 _ hs6 ?_
  intro a7 w7 hs7 k7 o104 f7
  have hU7w : UB w7 gw 117 (wsN B 64) := Bk.keep hU6w f7 id
  have hf7 := hf6.trans f7
  refine blkRounds H (wsN B 64) (wsN_length B 64) gw gh (by omega) (by omega) a7 w7 _ hs7 ((k7 4 (by decide)).trans ((k6a 4 (by decide)).trans o4)) ((k7 11 (by decide)).trans o11) o104 hU7w.ru (hRk.keep hf7 id) (Bk.keep hU6 f7 id) ?_
  intro a8 w8 hs8 k8 hU8 f8
  have hf8 : Fr noB w w8 := hf7.trans' f8 fun b hb he => by unfold oneB at he; have := hf5.size; omega
  have hS8 : StB w8 p H.list r n := hS.keep hf8 id
  refine wp_seq ?_
  refine blkR24 a8 w8 _ hs8 ?_
  intro a9 w9 hs9 k9 o178 f9
  have k9a : Kp [0] a1 a9 := fun x hx => (k9 x (by revert hx; revert x; decide)).trans ((k8 x (by revert hx; revert x; decide)).trans ((k7 x (by revert hx; revert x; decide)).trans (k6a x (by revert hx; revert x; decide))))
  have e11 : sl a9 11 = .pointer (some ⟨gh, 0, none⟩) := (k9 11 (by decide)).trans ((k8 11 (by decide)).trans ((k7 11 (by decide)).trans o11))
  refine blkAdd H (rnds H (wsN B 64) 64) r n p gh (by omega) a9 w9 _ hs9 ((k9a 0 (by decide)).trans e0) e11 o178 (hS8.keep f9 id) ((UB.ru hU8).keep f9 id) ?_
  intro a10 w10 hs10 hS10 f10
  refine bodyPost_end (results_none rfl _ _ _) hs10.defers ?_
  rw [← blk_wsN] at hS10
  exact ⟨rfl, hS10, ((hf8.trans f9).of_no (oneB p)).trans f10⟩
end Go.Proofs.YtcbkaiakdhiloabDoor
