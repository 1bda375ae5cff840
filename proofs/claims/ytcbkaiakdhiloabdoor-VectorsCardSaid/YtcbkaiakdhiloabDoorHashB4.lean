/- The program's block: one block of SHA-256. -/
import Derived.Test.YtcbkaiakdhiloabDoorHashB3
set_option linter.unusedSimpArgs false
set_option linter.unusedVariables false
namespace Go.Proofs.YtcbkaiakdhiloabDoor
open Go.RowKit Go.Proofs

noncomputable abbrev fBlk : Func := Tryd.f63
/-- the schedule as far as it is laid: the rest of the 64 words is 0 -/
def lay64 (l : List UInt32) : List UInt32 := l ++ List.replicate (64 - l.length) 0
theorem lay64_set (l : List UInt32) (x : UInt32) (h : l.length < 64) : (lay64 l).set l.length x = lay64 (l ++ [x]) := by
  unfold lay64
  rw [List.set_append_right _ _ (Nat.le_refl _), Nat.sub_self, show 64 - l.length = (64 - (l ++ [x]).length) + 1 by simp; omega, List.replicate_succ, List.set_cons_zero, List.append_assoc]; rfl
theorem lay64_get (l : List UInt32) (k : Nat) (h : k < l.length) : (lay64 l)[k]? = some (l.getD k 0) := by
  unfold lay64
  rw [List.getElem?_append_left h, getD_of l k h]
theorem lay64_new (l : List UInt32) (h : l.length < 64) : ∃ z, (lay64 l)[l.length]? = some z := ⟨_, by unfold lay64; rw [List.getElem?_append_right (Nat.le_refl _), Nat.sub_self, show 64 - l.length = (63 - l.length) + 1 by omega, List.replicate_succ]; rfl⟩
theorem lay64_all (l : List UInt32) (h : l.length = 64) : lay64 l = l := by unfold lay64; rw [h]; simp

/-- the bytes of a slice at block gb from off on -/
def RB (w : World) (gb off : Nat) (B : List UInt8) : Prop := gb < w.heap.size ∧ ∀ (k : Nat) (x : UInt8), B[k]? = some x → w.cell? ⟨gb, off + k, none⟩ = some (.int .u8 (x.toNat : Int))
theorem RB.keep {S : Nat → Prop} {w w' : World} {g off : Nat} {l : List UInt8} (h : RB w g off l) (hf : Fr S w w') (hg : ¬ S g) : RB w' g off l :=
  ⟨Nat.lt_of_lt_of_le h.1 hf.size, fun k x hx => (hf.cell (a := ⟨g, off + k, none⟩) h.1 hg).trans (h.2 k x hx)⟩

set_option maxRecDepth 20000 in
theorem blkWords (B : List UInt8) (hB : 64 ≤ B.length) (gw gb off cb : Nat) (hne : gb ≠ gw) (a : Act) (w : World) (K : Exit → Act → World → Prop) (hs : Sz 195 a)
    (h1 : sl a 1 = .slice (some ⟨gb, off, none⟩) 64 cb) (h4 : sl a 4 = .pointer (some ⟨gw, 0, none⟩)) (h18 : sl a 18 = .int .i64 ((0 : Nat) : Int))
    (hb : RB w gb off B) (hU : UB w gw 117 (lay64 []))
    (hK : ∀ a' w', Sz 195 a' → Kp [0, 1, 4] a a' → UB w' gw 117 (lay64 (wsN B 16)) → Fr (oneB gw) w w' → K .normal a' w') :
    (blockOf fBlk 0).wp Tryd.prog K a w := by
  have HK := Lib.hid hK
  clear hK
  conv => arg 2; whnf
  refine wp_block ?_
  refine wp_loop_sz 195 (fun a' w' => ∃ i : Nat, i ≤ 16 ∧ sl a' 18 = .int .i64 (i : Int) ∧ Kp [0, 1, 4] a a' ∧ UB w' gw 117 (lay64 (wsN B i)) ∧ Fr (oneB gw) w w') (fun a' _ => 16 - (intOf (sl a' 18)).toNat)
    hs ⟨0, by omega, h18, Kp.refl _ _, hU, Fr.refl _ _⟩ ?_
  rintro a1 w1 hs1 ⟨i, hi, e18, k1, hU1, hf⟩
  refine wp_seq ?_
  refine blkR2 i a1 w1 _ hs1 e18 hi ?_
  intro a2 w2 hs2 k2 o19 f2
  have k2a : Kp [0, 1, 4] a a2 := fun x hx => (k2 x (by revert hx; revert x; decide)).trans (k1 x hx)
  have e18b := (k2 18 (by decide)).trans e18
  have hU2 := Bk.keep hU1 f2 id
  have hf2 := hf.none f2
  refine wp_seq ?_
  refine wp_if o19 (fun hb2 => ?_) (fun hb2 => ?_)
  · have hlt : i < 16 := of_decide_eq_true hb2
    refine wp_skip ?_
    refine wp_seq (wp_block (wp_seq ?_))
    refine blkR3 i a2 w2 _ hs2 e18b ?_
    intro a3 w3 hs3 k3 o5 f3
    have k3a : Kp [0, 1, 4] a a3 := fun x hx => (k3 x (by revert hx; revert x; decide)).trans (k2a x hx)
    have hU3 : UB w3 gw 117 (lay64 (wsN B i)) := Bk.keep hU2 f3 id
    have hf3 := hf2.none f3
    have hb3 : RB w3 gb off B := hb.keep hf3 hne
    have hat : ∀ j, j < B.length → B[j]? = some (B.getD j 0) := fun j hj => by rw [List.getD_eq_getElem?_getD, List.getElem?_eq_getElem hj]; rfl
    have hlen : (wsN B i).length = i := wsN_length B i
    obtain ⟨z, hz⟩ := lay64_new (wsN B i) (by omega)
    rw [hlen] at hz
    refine blkR4 i gw gb off cb _ _ _ _ _ a3 w3 _ hs3 ((k3a 1 (by decide)).trans h1) ((k3a 4 (by decide)).trans h4) o5 hlt (hb3.2 _ _ (hat _ (by omega))) (hb3.2 _ _ (hat _ (by omega))) (hb3.2 _ _ (hat _ (by omega))) (hb3.2 _ _ (hat _ (by omega))) (hU3.get i z hz) (hU3.free i) ?_
    intro a4 w4 hs4 k4 hw4
    subst hw4
    have hU4 := UB.set (w := w3.drew) hU3 i (wd (B.getD (4 * i + 0) 0) (B.getD (4 * i + 1) 0) (B.getD (4 * i + 2) 0) (B.getD (4 * i + 3) 0))
    have hset := lay64_set (wsN B i) (wd (B.getD (4 * i + 0) 0) (B.getD (4 * i + 1) 0) (B.getD (4 * i + 2) 0) (B.getD (4 * i + 3) 0)) (by omega)
    rw [hlen] at hset
    rw [hset, show wsN B i ++ [wd (B.getD (4 * i + 0) 0) (B.getD (4 * i + 1) 0) (B.getD (4 * i + 2) 0) (B.getD (4 * i + 3) 0)] = wsN B (i + 1) from (wsN_lo B i hlt).symm] at hU4
    have hf4 : Fr (oneB gw) w (w3.drew.setCell ⟨gw, i, none⟩ (.int .u32 ((wd (B.getD (4 * i + 0) 0) (B.getD (4 * i + 1) 0) (B.getD (4 * i + 2) 0) (B.getD (4 * i + 3) 0)).toNat : Int))) := hf3.drew.setCell (p := ⟨gw, i, none⟩) (fun _ => rfl) _
    refine blkR5 i a4 _ _ hs4 ((k4 18 (by decide)).trans ((k3 18 (by decide)).trans e18b)) hi ?_
    intro a5 w5 hs5 k5 o18 f5
    refine ⟨hs5, ⟨i + 1, by omega, o18, fun x hx => (k5 x (by revert hx; revert x; decide)).trans ((k4 x (by revert hx; revert x; decide)).trans (k3a x hx)), Bk.keep hU4 f5 id, hf4.none f5⟩, ?_⟩
    rw [o18, e18]; simp only [intOf]; omega
  · have : i = 16 := by have := of_decide_eq_false hb2; omega
    subst this
    refine wp_exit (then_exit (then_exit (inBlock_self ?_)))
    exact HK.out a2 w2 hs2 k2a hU2 hf2

set_option maxRecDepth 20000 in
theorem blkSched (B : List UInt8) (hB : 64 ≤ B.length) (gw : Nat) (a : Act) (w : World) (K : Exit → Act → World → Prop) (hs : Sz 195 a)
    (h4 : sl a 4 = .pointer (some ⟨gw, 0, none⟩)) (h6 : sl a 6 = .int .i64 ((16 : Nat) : Int)) (hU : UB w gw 117 (lay64 (wsN B 16)))
    (hK : ∀ a' w', Sz 195 a' → Kp [0, 1, 4] a a' → UB w' gw 117 (wsN B 64) → Fr (oneB gw) w w' → K .normal a' w') :
    (blockOf fBlk 2).wp Tryd.prog K a w := by
  have HK := Lib.hid hK
  clear hK
  conv => arg 2; whnf
  refine wp_block ?_
  refine wp_loop_sz 195 (fun a' w' => ∃ i : Nat, 16 ≤ i ∧ i ≤ 64 ∧ sl a' 6 = .int .i64 (i : Int) ∧ Kp [0, 1, 4] a a' ∧ UB w' gw 117 (lay64 (wsN B i)) ∧ Fr (oneB gw) w w') (fun a' _ => 64 - (intOf (sl a' 6)).toNat)
    hs ⟨16, by omega, by omega, h6, Kp.refl _ _, hU, Fr.refl _ _⟩ ?_
  rintro a1 w1 hs1 ⟨i, h16, hi, e6, k1, hU1, hf⟩
  refine wp_seq (wp_seq ?_)
  refine blkR7 i a1 w1 _ hs1 e6 hi ?_
  intro a2 w2 hs2 k2 o58 f2
  have k2a : Kp [0, 1, 4] a a2 := fun x hx => (k2 x (by revert hx; revert x; decide)).trans (k1 x hx)
  have e6b := (k2 6 (by decide)).trans e6
  have hU2 := Bk.keep hU1 f2 id
  have hf2 := hf.none f2
  have hlen : (wsN B i).length = i := wsN_length B i
  refine wp_if o58 (fun hb2 => ?_) (fun hb2 => ?_)
  · have hlt : i < 64 := of_decide_eq_true hb2
    refine wp_skip ?_
    refine wp_seq (wp_block (wp_seq ?_))
    have G : ∀ {w' : World}, UB w' gw 117 (lay64 (wsN B i)) → ∀ k, k < i → w'.cell? ⟨gw, k, none⟩ = some (.int .u32 (((wsN B i).getD k 0).toNat : Int)) := fun h k hk => h.get k _ (lay64_get _ _ (by omega))
    refine blkR9 i gw _ _ a2 w2 _ hs2 ((k2a 4 (by decide)).trans h4) e6b h16 hlt (G hU2 _ (by omega)) (G hU2 _ (by omega)) ?_
    intro a3 w3 hs3 k3 o7 o8 f3
    have hU3 : UB w3 gw 117 (lay64 (wsN B i)) := Bk.keep hU2 f3 id
    refine wp_seq ?_
    refine blkR10 _ a3 w3 _ hs3 o7 ?_
    intro a4 w4 hs4 k4 o9 f4
    have hU4 : UB w4 gw 117 (lay64 (wsN B i)) := Bk.keep hU3 f4 id
    refine wp_seq ?_
    refine blkR11 _ a4 w4 _ hs4 ((k4 8 (by decide)).trans o8) ?_
    intro a5 w5 hs5 k5 o10 f5
    have hU5 : UB w5 gw 117 (lay64 (wsN B i)) := Bk.keep hU4 f5 id
    have hf5 := ((hf2.none f3).none f4).none f5
    have k5a : Kp [0, 1, 4] a a5 := fun x hx => (k5 x (by revert hx; revert x; decide)).trans ((k4 x (by revert hx; revert x; decide)).trans ((k3 x (by revert hx; revert x; decide)).trans (k2a x hx)))
    have e6e := (k5 6 (by decide)).trans ((k4 6 (by decide)).trans ((k3 6 (by decide)).trans e6b))
    obtain ⟨z, hz⟩ := lay64_new (wsN B i) (by omega)
    rw [hlen] at hz
    refine blkR12 i gw _ _ _ _ _ a5 w5 _ hs5 ((k5a 4 (by decide)).trans h4) e6e ((k5 9 (by decide)).trans o9) o10 h16 hlt (G hU5 _ (by omega)) (G hU5 _ (by omega)) (hU5.get i z hz) (hU5.free i) ?_
    intro a6 w6 hs6 k6 hw6
    subst hw6
    have hU6 := UB.set (w := w5.drew) hU5 i (nextW (wsN B i))
    have hset := lay64_set (wsN B i) (nextW (wsN B i)) (by omega)
    rw [hlen] at hset
    rw [hset, ← wsN_hi B i h16] at hU6
    have hnx : nextW (wsN B i) = (wsN B i).getD (i - 16) 0 + sg0 ((wsN B i).getD (i - 15) 0) + (wsN B i).getD (i - 7) 0 + sg1 ((wsN B i).getD (i - 2) 0) := by rw [nextW, hlen]
    rw [hnx] at hU6
    have hf6 := hf5.drew.setCell (p := ⟨gw, i, none⟩) (fun _ => rfl) (.int .u32 (((wsN B i).getD (i - 16) 0 + sg0 ((wsN B i).getD (i - 15) 0) + (wsN B i).getD (i - 7) 0 + sg1 ((wsN B i).getD (i - 2) 0)).toNat : Int))
    refine blkR8 i a6 _ _ hs6 ((k6 6 (by decide)).trans e6e) hi ?_
    intro a7 w7 hs7 k7 o6 f7
    refine ⟨hs7, ⟨i + 1, by omega, by omega, o6, fun x hx => (k7 x (by revert hx; revert x; decide)).trans ((k6 x (by revert hx; revert x; decide)).trans (k5a x hx)), Bk.keep hU6 f7 id, hf6.none f7⟩, ?_⟩
    rw [o6, e6]; simp only [intOf]; omega
  · have : i = 64 := by have := of_decide_eq_false hb2; omega
    subst this
    refine wp_exit (then_exit (then_exit (inBlock_self ?_)))
    rw [lay64_all _ hlen] at hU2
    exact HK.out a2 w2 hs2 k2a hU2 hf2

set_option maxRecDepth 20000 in
theorem blkRounds (H : S8) (ws : List UInt32) (hws : ws.length = 64) (gw gh : Nat) (hne : gw ≠ gh) (hnr : 3 ≠ gh) (a : Act) (w : World) (K : Exit → Act → World → Prop) (hs : Sz 195 a)
    (h4 : sl a 4 = .pointer (some ⟨gw, 0, none⟩)) (h11 : sl a 11 = .pointer (some ⟨gh, 0, none⟩)) (h104 : sl a 104 = .int .i64 ((0 : Nat) : Int))
    (hRw : RU w gw ws) (hRk : RU w 3 kTab) (hU : UB w gh 72 H.list)
    (hK : ∀ a' w', Sz 195 a' → Kp [0, 1, 4, 11] a a' → UB w' gh 72 (rnds H ws 64).list → Fr (oneB gh) w w' → K .normal a' w') :
    (blockOf fBlk 4).wp Tryd.prog K a w := by
  have HK := Lib.hid hK
  clear hK
  conv => arg 2; whnf
  refine wp_block ?_
  refine wp_loop_sz 195 (fun a' w' => ∃ i : Nat, i ≤ 64 ∧ sl a' 104 = .int .i64 (i : Int) ∧ Kp [0, 1, 4, 11] a a' ∧ UB w' gh 72 (rnds H ws i).list ∧ Fr (oneB gh) w w') (fun a' _ => 64 - (intOf (sl a' 104)).toNat)
    hs ⟨0, by omega, h104, Kp.refl _ _, hU, Fr.refl _ _⟩ ?_
  rintro a1 w1 hs1 ⟨i, hi, e104, k1, hU1, hf⟩
  refine wp_seq ?_
  refine blkR15 i a1 w1 _ hs1 e104 hi ?_
  intro a2 w2 hs2 k2 o105 f2
  have k2a : Kp [0, 1, 4, 11] a a2 := fun x hx => (k2 x (by revert hx; revert x; decide)).trans (k1 x hx)
  have e104b := (k2 104 (by decide)).trans e104
  have hU2 := Bk.keep hU1 f2 id
  have hf2 := hf.none f2
  refine wp_seq ?_
  refine wp_if o105 (fun hb2 => ?_) (fun hb2 => ?_)
  · have hlt : i < 64 := of_decide_eq_true hb2
    have hk : kTab[i]? = some (kTab.getD i 0) := getD_of kTab i hlt
    have hx : ws[i]? = some (ws.getD i 0) := getD_of ws i (by omega)
    have hnx : rnds H ws (i + 1) = rnd (rnds H ws i) (kTab.getD i 0) (ws.getD i 0) := rfl
    generalize rnds H ws i = v at *
    generalize kTab.getD i 0 = kk at *
    generalize ws.getD i 0 = xx at *
    refine wp_skip ?_
    refine wp_seq (wp_block (wp_seq ?_))
    refine blkR16 i a2 w2 _ hs2 e104b ?_
    intro a3 w3 hs3 k3 o12 f3
    have hU3 : UB w3 gh 72 v.list := Bk.keep hU2 f3 id
    have e11c := (k3 11 (by decide)).trans ((k2a 11 (by decide)).trans h11)
    refine wp_seq ?_
    refine blkR17 gh v.e v.a a3 w3 _ hs3 e11c (hU3.get 4 _ rfl) (hU3.get 0 _ rfl) ?_
    intro a4 w4 hs4 k4 o13 o14 f4
    have hU4 : UB w4 gh 72 v.list := Bk.keep hU3 f4 id
    have hf4 := (hf2.none f3).none f4
    have e11d := (k4 11 (by decide)).trans e11c
    have e4d := (k4 4 (by decide)).trans ((k3 4 (by decide)).trans ((k2a 4 (by decide)).trans h4))
    refine wp_seq ?_
    refine blkR18 i gh gw v.e v.f v.g v.h kk xx a4 w4 _ hs4 e4d e11d ((k4 12 (by decide)).trans o12) o13 hlt (hU4.get 7 _ rfl) (hU4.get 5 _ rfl) (hU4.get 6 _ rfl) ((hRk.keep hf4 hnr).2 _ _ hk) ((hRw.keep hf4 hne).2 _ _ hx) ?_
    intro a5 w5 hs5 k5 o15 f5
    have hU5 : UB w5 gh 72 v.list := Bk.keep hU4 f5 id
    have e11e := (k5 11 (by decide)).trans e11d
    refine wp_seq ?_
    refine blkR19 gh v.a v.b v.c a5 w5 _ hs5 e11e ((k5 14 (by decide)).trans o14) (hU5.get 1 _ rfl) (hU5.get 2 _ rfl) ?_
    intro a6 w6 hs6 k6 o16 f6
    have hU6 : UB w6 gh 72 v.list := Bk.keep hU5 f6 id
    have hf6 := (hf4.none f5).none f6
    have e11f := (k6 11 (by decide)).trans e11e
    refine wp_seq ?_
    refine blkR20 gh v.a v.b v.c v.d v.e v.f v.g v.h a6 w6 _ hs6 e11f hU6 ?_
    intro a7 w7 hs7 k7 hU7 f7
    have hf7 := hf6.trans f7
    have e11g := (k7 11 (by decide)).trans e11f
    have e15g := (k7 15 (by decide)).trans ((k6 15 (by decide)).trans o15)
    have e16g := (k7 16 (by decide)).trans o16
    refine wp_seq ?_
    refine blkR21 gh v.d _ a7 w7 _ hs7 e11g e15g (hU7.get 4 _ rfl) (hU7.free 4) ?_
    intro a8 w8 hs8 k8 hw8
    subst hw8
    have hU8 := UB.set hU7 4 (v.d + (v.h + bg1 v.e + chs v.e v.f v.g + kk + xx))
    have hf8 := hf7.setCell (p := ⟨gh, 4, none⟩) (fun _ => rfl) (.int .u32 ((v.d + (v.h + bg1 v.e + chs v.e v.f v.g + kk + xx)).toNat : Int))
    refine blkR22 gh _ _ _ a8 _ _ hs8 ((k8 11 (by decide)).trans e11g) ((k8 15 (by decide)).trans e15g) ((k8 16 (by decide)).trans e16g) (hU8.get 0 _ rfl) (hU8.free 0) ?_
    intro a9 w9 hs9 k9 hw9
    subst hw9
    have hU9 := UB.set hU8 0 ((v.h + bg1 v.e + chs v.e v.f v.g + kk + xx) + (bg0 v.a + maj v.a v.b v.c))
    have hf9 := hf8.setCell (p := ⟨gh, 0, none⟩) (fun _ => rfl) (.int .u32 (((v.h + bg1 v.e + chs v.e v.f v.g + kk + xx) + (bg0 v.a + maj v.a v.b v.c)).toNat : Int))
    have k9a : Kp [0, 1, 4, 11, 104] a2 a9 := fun x hx => (k9 x (by revert hx; revert x; decide)).trans ((k8 x (by revert hx; revert x; decide)).trans ((k7 x (by revert hx; revert x; decide)).trans ((k6 x (by revert hx; revert x; decide)).trans ((k5 x (by revert hx; revert x; decide)).trans ((k4 x (by revert hx; revert x; decide)).trans (k3 x (by revert hx; revert x; decide)))))))
    refine blkR23 i a9 _ _ hs9 ((k9a 104 (by decide)).trans e104b) hi ?_
    intro a10 w10 hs10 k10 o104 f10
    refine ⟨hs10, ⟨i + 1, by omega, o104, fun x hx => (k10 x (by revert hx; revert x; decide)).trans ((k9a x (by revert hx; revert x; decide)).trans (k2a x hx)), ?_, hf9.none f10⟩, ?_⟩
    · rw [hnx]; exact Bk.keep hU9 f10 id
    · rw [o104, e104]; simp only [intOf]; omega
  · have : i = 64 := by have := of_decide_eq_false hb2; omega
    subst this
    refine wp_exit (then_exit (then_exit (inBlock_self ?_)))
    exact HK.out a2 w2 hs2 k2a hU2 hf2
end Go.Proofs.YtcbkaiakdhiloabDoor
