/- The program's sum: its contract. -/
import Derived.Test.YtcbkaiakdhiloabDoorHashS2
set_option linter.unusedSimpArgs false
set_option linter.unusedVariables false
namespace Go.Proofs.YtcbkaiakdhiloabDoor
open Go.RowKit Go.Proofs

set_option maxRecDepth 20000 in
theorem smOut (v : S8) (gd : Nat) (a : Act) (w : World) (K : Exit → Act → World → Prop) (hs : Sz 77 a)
    (e6 : sl a 6 = .pointer (some ⟨gd, 0, none⟩)) (e44 : sl a 44 = .agg (u32s v.list).toArray) (e45 : sl a 45 = .int .i64 ((0 : Nat) : Int)) (hB : YB w gd 56 (dg v 0))
    (hK : ∀ a' w', Sz 77 a' → Kp [2, 6] a a' → YB w' gd 56 (out8 v) → Fr (oneB gd) w w' → K .normal a' w') :
    (blockOf fSm 4).wp Tryd.prog K a w := by
  have HK := Lib.hid hK
  clear hK
  conv => arg 2; whnf
  refine wp_block ?_
  refine wp_loop_sz 77 (fun a' w' => ∃ i : Nat, i ≤ 8 ∧ sl a' 45 = .int .i64 (i : Int) ∧ Kp [2, 6, 44] a a' ∧ YB w' gd 56 (dg v i) ∧ Fr (oneB gd) w w') (fun a' _ => 8 - (intOf (sl a' 45)).toNat)
    hs ⟨0, by omega, e45, Kp.refl _ _, hB, Fr.refl _ _⟩ ?_
  rintro a1 w1 hs1 ⟨i, hi, e45, k1, hB1, hf⟩
  refine wp_seq ?_
  refine smR14 i a1 w1 _ hs1 e45 hi ?_
  intro a2 w2 hs2 k2 o46 f2
  have k2a : Kp [2, 6, 44] a a2 := fun x hx => (k2 x (by revert hx; revert x; decide)).trans (k1 x hx)
  have hB2 := hB1.keep f2 id
  have hf2 := hf.none f2
  refine wp_seq ?_
  refine wp_if o46 (fun hb => ?_) (fun hb => ?_)
  · have hlt : i < 8 := of_decide_eq_true hb
    obtain ⟨x, hx⟩ : ∃ x, v.list[i]? = some x := ⟨_, List.getElem?_eq_getElem (by rw [S8.list_length]; exact hlt)⟩
    refine wp_skip ?_
    refine wp_seq (wp_block (wp_seq ?_))
    refine smR15 i v x a2 w2 _ hs2 ((k2a 44 (by decide)).trans e44) ((k2 45 (by decide)).trans e45) hlt hx ?_
    intro a3 w3 hs3 k3 o7 o8 f3
    have hB3 := hB2.keep f3 id
    have hf3 := hf2.none f3
    have k3a : Kp [2, 6, 44] a a3 := fun x hx => (k3 x (by revert hx; revert x; decide)).trans (k2a x hx)
    have hdl := dg_length v i hi
    have hset := dg_step v i hlt x hx
    have hxl := x.toNat_lt
    obtain ⟨b3, h3⟩ : ∃ b, b = UInt8.ofNat (x.toNat / 256 / 256 / 256) := ⟨_, rfl⟩
    obtain ⟨b2, h2⟩ : ∃ b, b = UInt8.ofNat (x.toNat / 256 / 256) := ⟨_, rfl⟩
    obtain ⟨b1, h1⟩ : ∃ b, b = UInt8.ofNat (x.toNat / 256) := ⟨_, rfl⟩
    obtain ⟨b0, hb0⟩ : ∃ b, b = UInt8.ofNat x.toNat := ⟨_, rfl⟩
    have q3 : (x.toNat : Int) / 16777216 = (b3.toNat : Int) := by rw [h3, UInt8.toNat_ofNat']; omega
    have q2 : (x.toNat : Int) / 65536 % 256 = (b2.toNat : Int) := by rw [h2, UInt8.toNat_ofNat']; omega
    have q1 : (x.toNat : Int) / 256 % 256 = (b1.toNat : Int) := by rw [h1, UInt8.toNat_ofNat']; omega
    have q0 : (x.toNat : Int) % 256 = (b0.toNat : Int) := by rw [hb0, UInt8.toNat_ofNat']; omega
    rw [← h3, ← h2, ← h1, ← hb0] at hset
    have y0 := hB3.set (4 * i) b3
    have y1 := y0.set (4 * i + 1) b2
    have y2 := y1.set (4 * i + 2) b1
    have y3 := y2.set (4 * i + 3) b0
    rw [hset] at y3
    have hat : ∀ (l : List UInt8) (k : Nat), k < l.length → ∃ z, l[k]? = some z := fun l k h => ⟨_, List.getElem?_eq_getElem h⟩
    obtain ⟨z0, hz0⟩ := hat (dg v i) (4 * i) (by omega)
    obtain ⟨z1, hz1⟩ := hat ((dg v i).set (4 * i) b3) (4 * i + 1) (by rw [List.length_set]; omega)
    obtain ⟨z2, hz2⟩ := hat (((dg v i).set (4 * i) b3).set (4 * i + 1) b2) (4 * i + 2) (by rw [List.length_set, List.length_set]; omega)
    obtain ⟨z3, hz3⟩ := hat ((((dg v i).set (4 * i) b3).set (4 * i + 1) b2).set (4 * i + 2) b1) (4 * i + 3) (by rw [List.length_set, List.length_set, List.length_set]; omega)
    refine smR16 i _ _ _ _ gd x b0 b1 b2 b3 _ _ _ _ a3 w3 _ hs3 ((k3a 6 (by decide)).trans e6) o7 o8 hlt rfl rfl rfl rfl q3 q2 q1 q0
      (hB3.get _ _ hz0) (hB3.free _) (y0.get _ _ hz1) (y0.free _) (y1.get _ _ hz2) (y1.free _) (y2.get _ _ hz3) (y2.free _) ?_
    intro a4 w4 hs4 k4 hw4
    have hf4 : Fr (oneB gd) w w4 := by
      rw [hw4]
      exact (((hf3.setCell (p := ⟨gd, 4 * i, none⟩) (fun _ => rfl) _).setCell (p := ⟨gd, 4 * i + 1, none⟩) (fun _ => rfl) _).setCell (p := ⟨gd, 4 * i + 2, none⟩) (fun _ => rfl) _).setCell (p := ⟨gd, 4 * i + 3, none⟩) (fun _ => rfl) _
    rw [← hw4] at y3
    refine smR17 i a4 _ _ hs4 ((k4 45 (by decide)).trans ((k3 45 (by decide)).trans ((k2 45 (by decide)).trans e45))) hi ?_
    intro a5 w5 hs5 k5 o45 f5
    refine ⟨hs5, ⟨i + 1, by omega, o45, fun x hx => (k5 x (by revert hx; revert x; decide)).trans ((k4 x (by revert hx; revert x; decide)).trans (k3a x hx)), y3.keep f5 id, hf4.none f5⟩, ?_⟩
    rw [o45, e45]; simp only [intOf]; omega
  · have : i = 8 := by have := of_decide_eq_false hb; omega
    subst this
    refine wp_exit (then_exit (then_exit (inBlock_self ?_)))
    rw [dg_all] at hB2
    exact HK.out a2 w2 hs2 (fun x hx => k2a x (by revert hx; revert x; decide)) hB2 hf2

set_option maxRecDepth 20000 in
theorem hashSumM (pre : List UInt8) (hlen : pre.length ≤ 100000000000) (p : Nat) (X : Nat → Prop) (w : World) (hS : HSt w p X pre) (hX : ∀ q, w.heap.size ≤ q → X q)
    (hRk : RU w 3 kTab) (hgb : ¬ X 3) (hkp : 3 ≠ p) :
    Calls Tryd.prog 36 #[.pointer (some ⟨p, 0, none⟩)] w
      (fun e w' => e = .returned (.agg (u8s (sha pre)).toArray) ∧ Fr (ownS p X) w w') := by
  have hpX := hS.1
  have hpl : p < w.heap.size := by obtain ⟨-, r, h, -⟩ := hS; exact Bk.lt h
  have hkl := hRk.1
  go_enter Tryd.func36, Tryd.ntmps36
  refine wp_seq ?_
  refine smR0 _ w _ ⟨rfl, rfl⟩ ?_
  intro a1 w1 hs1 k1 o2 hw1
  subst hw1
  have hf1 : Fr noB w (w.alloc (.cells (u8s (List.replicate 32 0)).toArray 56)) := (Fr.refl _ _).alloc _
  have hR1 : YB (w.alloc (.cells (u8s (List.replicate 32 0)).toArray 56)) w.heap.size 56 (List.replicate 32 0) := Bk.new w _ _
  generalize w.alloc (.cells (u8s (List.replicate 32 0)).toArray 56) = w1 at *
  have e0 : sl a1 0 = .pointer (some ⟨p, 0, none⟩) := (k1 0 (by decide)).trans rfl
  generalize hgr : w.heap.size = gr at *
  have hgrl : gr < w1.heap.size := Bk.lt hR1
  -- X without the result's block
  obtain ⟨Y, hY⟩ : ∃ Y : Nat → Prop, ∀ q, Y q ↔ (X q ∧ q ≠ gr) := ⟨_, fun _ => Iff.rfl⟩
  have hYp : ¬ Y p := fun h => hpX ((hY p).1 h).1
  have hYk : ¬ Y 3 := fun h => hgb ((hY _).1 h).1
  have hYr : ¬ Y gr := fun h => ((hY gr).1 h).2 rfl
  have hYX : ∀ q, w1.heap.size ≤ q → Y q := fun q hq => (hY q).2 ⟨hX q (by omega), by omega⟩
  have hYs : ∀ q, ownS p Y q → ownS p X q := fun q h => h.elim .inl fun h => .inr ((hY q).1 h).1
  have hS1 : HSt w1 p Y pre := by
    obtain ⟨-, r, h1, h2⟩ := hS
    exact ⟨hYp, r, h1.keep hf1 id, (h2.lower fun q hq hx => (hY q).2 ⟨hx, by omega⟩).keep hf1 fun _ _ h => h⟩
  have hgp : gr ≠ p := by omega
  refine wp_seq ?_
  obtain ⟨-, r1, hSt1, -⟩ := id hS1
  refine smR1 p pre.length a1 w1 _ hs1 e0 (by omega) hSt1.num ?_
  intro a2 w2 hs2 k2 o3 f2
  have hf2 : Fr (ownS p X) w w2 := (hf1.trans f2).of_no _
  have hS2 := hS1.keep f2 id fun _ _ h => h
  have hR2 := hR1.keep f2 id
  have hsz2 := f2.size
  refine wp_seq ?_
  refine smR2 p Y pre a2 w2 _ hs2 ((k2 0 (by decide)).trans e0) hS2 (fun q hq => hYX q (Nat.le_trans hsz2 hq)) (by omega) ((hRk.keep hf1 id).keep f2 id) hYk hkp ?_
  intro a3 w3 hs3 k3 hS3 f3
  have hf3 : Fr (ownS p X) w w3 := hf2.trans' f3 fun b _ h => hYs b h
  have hR3 := hR2.keep f3 (ownS_no hgp hYr)
  have hRk3 : RU w3 3 kTab := hRk.keep hf3 (ownS_no hkp hgb)
  have k3a : Kp [0, 2, 3] a2 a3 := fun x hx => k3 x (by revert hx; revert x; decide)
  have hpl3 : (pre ++ [128]).length = pre.length + 1 := by simp
  refine wp_seq ?_
  refine smPad (pre ++ [128]) (by omega) p Y a3 w3 _ hs3 ((k3a 0 (by decide)).trans ((k2 0 (by decide)).trans e0)) hS3 (fun q hq => hYX q (by have := f3.size; omega)) hRk3 hYk hkp ?_
  intro a4 w4 hs4 k4 hS4 f4
  have hpad : pre ++ [128] ++ List.replicate ((120 - (pre ++ [128]).length % 64) % 64) 0 = padTo pre := by rw [hpl3, padTo]; congr 2; omega
  rw [hpad] at hS4
  have hf4 : Fr (ownS p X) w w4 := hf3.trans' f4 fun b _ h => hYs b h
  have hR4 := hR3.keep f4 (ownS_no hgp hYr)
  have k4a : Kp [0, 2, 3] a2 a4 := fun x hx => (k4 x hx).trans (k3a x hx)
  have e3d : sl a4 3 = .int .u64 ((pre.length * 8 : Nat) : Int) := (k4a 3 (by decide)).trans o3
  have e2d : sl a4 2 = .pointer (some ⟨gr, 0, none⟩) := (k4a 2 (by decide)).trans ((k2 2 (by decide)).trans o2)
  have e0d : sl a4 0 = .pointer (some ⟨p, 0, none⟩) := (k4a 0 (by decide)).trans ((k2 0 (by decide)).trans e0)
  refine wp_seq ?_
  refine smR5 a4 w4 _ hs4 ?_
  intro a5 w5 hs5 k5 o4 hw5
  subst hw5
  have f5 : Fr noB w4 (w4.alloc (.cells (u8s (List.replicate 8 0)).toArray 104)) := (Fr.refl _ _).alloc _
  have hB5 : YB (w4.alloc (.cells (u8s (List.replicate 8 0)).toArray 104)) w4.heap.size 104 (nb8 (pre.length * 8) 0) := Bk.new w4 _ _
  generalize w4.alloc (.cells (u8s (List.replicate 8 0)).toArray 104) = w5 at *
  have hgl4 : gr < w4.heap.size := Bk.lt hR4
  have hpl4 : p < w4.heap.size := by obtain ⟨-, r, h, -⟩ := hS4; exact Bk.lt h
  generalize hgle : w4.heap.size = gl at *
  have hgl5 : gl < w5.heap.size := Bk.lt hB5
  -- Y without the eight bytes' block
  obtain ⟨Z, hZ⟩ : ∃ Z : Nat → Prop, ∀ q, Z q ↔ (Y q ∧ q ≠ gl) := ⟨_, fun _ => Iff.rfl⟩
  have hZp : ¬ Z p := fun h => hYp ((hZ p).1 h).1
  have hZk : ¬ Z 3 := fun h => hYk ((hZ _).1 h).1
  have hZr : ¬ Z gr := fun h => hYr ((hZ _).1 h).1
  have hZl : ¬ Z gl := fun h => ((hZ gl).1 h).2 rfl
  have hsz14 : w1.heap.size ≤ gl := by rw [← hgle]; exact Nat.le_trans (Nat.le_trans hsz2 f3.size) f4.size
  have hZX : ∀ q, w5.heap.size ≤ q → Z q := fun q hq => (hZ q).2 ⟨hYX q (by omega), by omega⟩
  have hZs : ∀ q, ownS p Z q → ownS p X q := fun q h => hYs q (h.elim .inl fun h => .inr ((hZ q).1 h).1)
  have hS5 : HSt w5 p Z (padTo pre) := by
    obtain ⟨-, r, h1, h2⟩ := hS4
    exact ⟨hZp, r, h1.keep f5 id, (h2.lower fun q hq hx => (hZ q).2 ⟨hx, by omega⟩).keep f5 fun _ _ h => h⟩
  have hf5 : Fr (ownS p X) w w5 := hf4.none f5
  have hR5 := hR4.keep f5 id
  refine wp_seq (wp_seq ?_)
  refine smR6 a5 w5 _ hs5 ?_
  intro a6 w6 hs6 k6 o26 f6
  refine smNum (pre.length * 8) gl (by omega) a6 w6 _ hs6 ((k6 3 (by decide)).trans ((k5 3 (by decide)).trans e3d)) ((k6 4 (by decide)).trans o4) o26 (hB5.keep f6 id) ?_
  intro a7 w7 hs7 k7 hB7 f7
  have hX5 : X gl := ((hY gl).1 (hYX gl hsz14)).1
  have hf7 : Fr (ownS p X) w w7 := (hf5.none f6).trans' f7 fun b _ h => by unfold oneB at h; subst h; exact .inr hX5
  have hS7 : HSt w7 p Z (padTo pre) := (hS5.keep f6 id fun _ _ h => h).keep f7 (by unfold oneB; omega) fun q hq h => by unfold oneB at h; subst h; exact hZl hq
  have hR7 := (hR5.keep f6 id).keep f7 (by unfold oneB; omega)
  have hRk7 : RU w7 3 kTab := hRk.keep hf7 (ownS_no hkp hgb)
  have k7a : Kp [0, 2] a4 a7 := fun x hx => (k7 x (by revert hx; revert x; decide)).trans ((k6 x (by revert hx; revert x; decide)).trans (k5 x (by revert hx; revert x; decide)))
  have hsz7 : w5.heap.size ≤ w7.heap.size := Nat.le_trans f6.size f7.size
  refine wp_seq ?_
  refine smR11 p gl Z (padTo pre) (big 8 (pre.length * 8)) a7 w7 _ hs7 ((k7a 0 (by decide)).trans e0d) ((k7 4 (by decide)).trans ((k6 4 (by decide)).trans o4)) hS7 hB7 (big_length _ _) (by omega) (fun q hq => hZX q (by omega))
    (by unfold padTo; simp; omega) hRk7 hZk hkp ?_
  intro a8 w8 hs8 k8 hS8 f8
  have hpd : padTo pre ++ big 8 (pre.length * 8) = padded64 pre := by rw [padded64, Nat.mul_comm]
  rw [hpd] at hS8
  have hf8 : Fr (ownS p X) w w8 := hf7.trans' f8 fun b _ h => hZs b h
  have hR8 := hR7.keep f8 (ownS_no hgp hZr)
  have k8a : Kp [0, 2] a4 a8 := fun x hx => (k8 x (by revert hx; revert x; decide)).trans (k7a x hx)
  obtain ⟨-, r8, hSt8, -⟩ := hS8
  refine wp_seq ?_
  refine smR12 a8 w8 _ hs8 ?_
  intro a9 w9 hs9 k9 o6 hw9
  subst hw9
  have f9 : Fr noB w8 (w8.alloc (.cells (u8s (List.replicate 32 0)).toArray 56)) := (Fr.refl _ _).alloc _
  have hD9 : YB (w8.alloc (.cells (u8s (List.replicate 32 0)).toArray 56)) w8.heap.size 56 (dg (feed h0 (padded64 pre)).1 0) := Bk.new w8 _ _
  generalize w8.alloc (.cells (u8s (List.replicate 32 0)).toArray 56) = w9 at *
  have hgr8 : gr < w8.heap.size := Bk.lt hR8
  have hw8 : w5.heap.size ≤ w8.heap.size := Nat.le_trans hsz7 f8.size
  have hfin : out8 (feed h0 (padded64 pre)).1 = sha pre := rfl
  have hSt9 := hSt8.keep f9 id
  generalize (feed h0 (padded64 pre)).1 = F at *
  generalize hgde : w8.heap.size = gd at *
  refine wp_seq (wp_seq ?_)
  refine smR13 p F a9 w9 _ hs9 ((k9 0 (by decide)).trans ((k8a 0 (by decide)).trans e0d)) hSt9.ru ?_
  intro a10 w10 hs10 k10 o44 o45 f10
  refine smOut F gd a10 w10 _ hs10 ((k10 6 (by decide)).trans o6) o44 o45 (hD9.keep f10 id) ?_
  intro a11 w11 hs11 k11 hD11 f11
  have hXd : X gd := hX gd (by omega)
  have hf11 : Fr (ownS p X) w w11 := ((hf8.none f9).none f10).trans' f11 fun b _ h => by unfold oneB at h; subst h; exact .inr hXd
  have hR11 := ((hR8.keep f9 id).keep f10 id).keep f11 (by unfold oneB; omega)
  have e2k : sl a11 2 = .pointer (some ⟨gr, 0, none⟩) := (k11 2 (by decide)).trans ((k10 2 (by decide)).trans ((k9 2 (by decide)).trans ((k8a 2 (by decide)).trans e2d)))
  refine wp_seq ?_
  refine smR18 gd gr (out8 F) _ a11 w11 _ hs11 e2k ((k11 6 (by decide)).trans ((k10 6 (by decide)).trans o6)) hD11 (out8_length F) hR11 rfl ?_
  intro a12 w12 hs12 k12 hR12 f12
  have hXr : X gr := hX gr (Nat.le_refl _)
  refine wp_ret ?_
  refine bodyPost_ret (results_cell_row Tryd.results36 a12.tmps w12 gr _ _ _ _ ((k12 2 (by decide)).trans e2k) hR12 Tryd.underlying56 rfl (by
    have hsz : (Tryd.prog.info? 56).map (·.size) = some 32 := by kernel_rfl
    rw [hsz]; simp [u8s, out8_length])) hs12.defers ?_
  rw [hfin]
  exact ⟨rfl, hf11.trans' f12 fun b _ h => by unfold oneB at h; subst h; exact .inr hXr⟩
end Go.Proofs.YtcbkaiakdhiloabDoor
