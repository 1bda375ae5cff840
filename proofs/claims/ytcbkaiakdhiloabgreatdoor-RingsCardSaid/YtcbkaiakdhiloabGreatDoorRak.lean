/- Parts of the walk; written by programs, merged. -/
import Derived.Test.YtcbkaiakdhiloabGreatDoorRaj
import Derived.Lib.SlBytesRow
import Derived.Lib.ItoaMem
set_option linter.unusedSimpArgs false
set_option linter.unusedVariables false
set_option maxRecDepth 20000
set_option maxHeartbeats 8000000
set_option maxRecDepth 20000
namespace Go.Proofs.YtcbkaiakdhiloabGreatDoor
open Go.RowKit Go.Proofs
attribute [local go_sem] bs_size bs_append bs_extract bs_toList
theorem own_cut0 {w : World} {e : TypeId} {size n : Nat} {v : Value} {xs : List Value} (h : w.ownsRow 0 e size v n xs) : ∃ A c, v = .slice A n c ∧ w.ownsRow 0 e size (.slice A n c) n xs := by
  rcases h.2 with ⟨hv, h0⟩ | ⟨g, c, cur, hv, _⟩
  · subst hv; subst h0; exact ⟨none, 0, rfl, h⟩
  · subst hv; exact ⟨_, c, rfl, h⟩
theorem own_some {w : World} {e : TypeId} {size n c : Nat} {A : Option Addr} {xs : List Value} (h : w.ownsRow 0 e size (.slice A (n + 1) c) (n + 1) xs) : ∃ g, A = some ⟨g, 0, none⟩ ∧ n + 1 ≤ c ∧ ∀ j u, xs[j]? = some u → w.cell? ⟨g, j, none⟩ = some u := by
  rcases h.2 with ⟨_, h0⟩ | ⟨g, cc, cur, hv, _, _, hc, _⟩
  · omega
  · injection hv with e1 e2 e3
    subst e1; subst e3
    exact ⟨g, rfl, hc, fun j u hj => by have := h.cells (g := g) rfl j u hj; cases j <;> simpa [Addr.add] using this⟩
def mtF (u : Nat → Value) : Act := ⟨#[u 0, u 1, u 2, u 3, u 4, u 5, u 6, u 7, u 8, u 9, u 10, u 11, u 12, u 13, u 14, u 15, u 16, u 17, u 18, u 19, u 20, u 21, u 22, u 23, u 24, u 25], []⟩
set_option maxRecDepth 100000 in
theorem mtF_eq (u : Nat → Value) : mtF u = frN 26 u := rfl
theorem mtF_of {a : Act} (h : Sz 26 a) : a = mtF (sl a) := h.eq.trans (mtF_eq _).symm
theorem mtR0  (a : Act) (w : World) (K : Exit → Act → World → Prop) (hs : Sz 26 a)
     
    (hK : ∀ a' w', Sz 26 a' → Kp [0, 1] a a' → sl a' 4 = .bool false → w' = w → K .normal a' w') :
    (regionOf Tryz.f101 0).wp Tryz.prog K a w := by
  unfold Kp at hK; rw [mtF_of hs]; clear hs; generalize sl a = u at *; clear a; have HK := Lib.hid hK; clear hK; conv => arg 2; whnf
  simp only [mtF]
  go_wp2_with fail
  exact HK.out _ _  ⟨rfl, rfl⟩ (Kc rfl (Kc rfl (Kn _ _))) (rfl) rfl
theorem mtR1 (p T : Nat) (M : MLay) (s : St) (b : Bool) (a : Act) (w : World) (K : Exit → Act → World → Prop) (hs : Sz 26 a)
    (h0 : sl a 0 = .pointer (some ⟨p, 0, none⟩)) (h : ModelAt w p T M s) (hb : ((s.rx.length : Int) == (s.c.rx : Int)) = b)
    (hK : ∀ a' w', Sz 26 a' → Kp [0, 1, 4] a a' → sl a' 15 = .bool b → ModelAt w' p T M s → Fr noB w w' → K .normal a' w') :
    (regionOf Tryz.f101 1).wp Tryz.prog K a w := by
  unfold Kp at hK; rw [mtF_of hs]; clear hs; generalize sl a = u at *; clear a; have HK := Lib.hid hK; clear hK; conv => arg 2; whnf
  simp only [mtF, h0]
  refine wp_region_pls (by kernel_rfl) (fun w' => ModelAt w' p T M s ∧ Fr noB w w') [] (.p 0 (.p 1 (.p 2 (.p 5 (.p 6 (.p 7 (.p 8 (.q 3 (.p 4 (.q 9 (.p 10 .nil))))))))))) (by kernel_rfl) (⟨h.drew, (Fr.refl _ _).drew⟩) ?_
  intro ops Q' hO hQ' wr1 hR1
  iterate 7 (refine pl_p0 hO rfl rfl ?_ (fun w' => ?_) ?_; rotate_left 1; (focus (go_simp; ((try with_reducible rfl); done))); simp only [Act.put, List.setIfInBounds_toArray, List.set_cons_zero, List.set_cons_succ])
  refine pl_q0 hO rfl rfl ?_ (fun w' hS => ?_) ?_; rotate_left 1; (focus (obtain ⟨hB, hF⟩ := hS; have c12 := hB.g12; have c14 := hB.g14; go_simp; ((try with_reducible rfl); done))); simp only [Act.put, List.setIfInBounds_toArray, List.set_cons_zero, List.set_cons_succ]
  refine pl_p0 hO rfl rfl ?_ (fun w' => ?_) ?_; rotate_left 1; (focus (go_simp; ((try with_reducible rfl); done))); simp only [Act.put, List.setIfInBounds_toArray, List.set_cons_zero, List.set_cons_succ]
  refine pl_q0 hO rfl rfl ?_ (fun w' hS => ?_) ?_; rotate_left 1; (focus (obtain ⟨hB, hF⟩ := hS; have c12 := hB.g12; have c14 := hB.g14; go_simp; ((try with_reducible rfl); done))); simp only [Act.put, List.setIfInBounds_toArray, List.set_cons_zero, List.set_cons_succ]
  refine pl_p0 hO rfl rfl ?_ (fun w' => ?_) ?_; rotate_left 1; (focus (go_simp; ((try with_reducible rfl); done))); simp only [Act.put, List.setIfInBounds_toArray, List.set_cons_zero, List.set_cons_succ]
  refine pl_nil (hQ' _ _ ?_)
  exact HK.out _ _  ⟨rfl, rfl⟩ (Kc h0.symm (Kc rfl (Kc rfl (Kn _ _)))) (rfl) hR1.1 hR1.2
theorem mtR2  (a : Act) (w : World) (K : Exit → Act → World → Prop) (hs : Sz 26 a)
     
    (hK : ∀ a' w', Sz 26 a' → Kp [0, 1] a a' → sl a' 4 = .bool false → w' = w → K .normal a' w') :
    (regionOf Tryz.f101 2).wp Tryz.prog K a w := by
  unfold Kp at hK; rw [mtF_of hs]; clear hs; generalize sl a = u at *; clear a; have HK := Lib.hid hK; clear hK; conv => arg 2; whnf
  simp only [mtF]
  go_wp2_with fail
  exact HK.out _ _  ⟨rfl, rfl⟩ (Kc rfl (Kc rfl (Kn _ _))) (rfl) rfl
theorem mtR3 (p T : Nat) (M : MLay) (s : St) (f : List UInt8) (a : Act) (w : World) (K : Exit → Act → World → Prop) (hs : Sz 26 a)
    (h0 : sl a 0 = .pointer (some ⟨p, 0, none⟩)) (h1 : sl a 1 = .string (bs f)) (h : ModelAt w p T M s) (hlt : s.rx.length < s.c.rx)
    (hK : ∀ a' w', Sz 26 a' → Kp [0, 1, 4] a a' → MNow p T M w { s with rx := s.rx ++ [f] } w' → K .normal a' w') :
    (regionOf Tryz.f101 3).wp Tryz.prog K a w := by
  unfold Kp at hK; rw [mtF_of hs]; clear hs; generalize sl a = u at *; clear a; have HK := Lib.hid hK; clear hK; conv => arg 2; whnf
  simp only [mtF, h0, h1]
  obtain ⟨i0, hi, hz0, hz1, hz2⟩ := info_parts strInfo
  have hA1 := h.none ((Fr.refl noB w).alloc (.cells #[.string (bs f)] 9))
  have c14 := h.g14
  have ow := hA1.rx
  have hl1 := h.rxl
  have hl2 := h.ok.rx1
  go_wp2_with (at_builtin; refine wpList_append_own_at _ rfl _ _ 54 rfl 0 9 i0 (.string ⟨#[]⟩) 1 16 Tryz.underlying54 hi hz0 hz1 hz2 rfl (by decide) _ _ _ rfl ow ⟨w.heap.size, 0, none⟩ 1 1 [.string (bs f)] rfl rfl (cell_one_new _ _ _) (by simp [Value.oneCell']) (by unfold maxLen; omega) (by omega) (Nat.zero_le _) ?_; intro v' w3 hown' hg3 hnil3 hbk3; obtain ⟨g', c', hv', hown2⟩ := own_cut hown'; subst hv'; have hf3 : Fr (fun b => b ∈ blkA M.rx) (w.alloc (.cells #[.string (bs f)] 9)) w3 := (Fr.refl _ _).grown hg3 (fun g h _ => sl_blk h); have hB3 := hA1.bk.keep hf3 (fun hx => hA1.nd.pr hx); have cc := hB3.cell 14; have hfz := hB3.frees)
  have hb : ∀ b ∈ blkA (some ⟨g', 0, none⟩), b ∈ blkA M.rx ∨ (w.alloc (.cells #[.string (bs f)] 9)).heap.size ≤ b := fun b hb => by
    have hb1 := blk_sl (n := s.rx.length + 1) (c := c') hb
    rcases hbk3 with e | e
    · exact .inl (sl_blk (e.symm.trans hb1))
    · exact .inr (by rw [e] at hb1; injection hb1 with hb1; omega)
  have hl : (s.rx ++ [f]).length = s.rx.length + 1 := by simp
  have hq := hA1.rxTurn (q := s.rx ++ [f]) (A := some ⟨g', 0, none⟩) (c := c') hf3 (by rw [hl, strV_app]; exact hown2) hb (by omega)
  rw [hl] at hq
  exact HK.out _ _  ⟨rfl, rfl⟩ (Kc h0.symm (Kc h1.symm (Kc rfl (Kn _ _))))  (MNow.pre ((Fr.refl noB w).alloc _) hq)
theorem mtR4  (a : Act) (w : World) (K : Exit → Act → World → Prop) (hs : Sz 26 a)
     
    (hK : ∀ a' w', Sz 26 a' → Kp [0, 1] a a' → sl a' 4 = .bool true → w' = w → K .normal a' w') :
    (regionOf Tryz.f101 4).wp Tryz.prog K a w := by
  unfold Kp at hK; rw [mtF_of hs]; clear hs; generalize sl a = u at *; clear a; have HK := Lib.hid hK; clear hK; conv => arg 2; whnf
  simp only [mtF]
  go_wp2_with fail
  exact HK.out _ _  ⟨rfl, rfl⟩ (Kc rfl (Kc rfl (Kn _ _))) (rfl) rfl
theorem modPut (p T : Nat) (M : MLay) (s : St) (f : List UInt8) (w : World) (h : ModelAt w p T M s) :
    Calls Tryz.prog 101 #[.pointer (some ⟨p, 0, none⟩), .string (bs f)] w fun e w' => e = .returned (.bool (s.put f).2) ∧ MNow p T M w (s.put f).1 w' := by
  go_enter Tryz.func101, Tryz.ntmps101
  refine wp_seq ?_
  refine mtR0 _ w _ ⟨rfl, rfl⟩ ?_
  intro a0 w0 hs0 k0 o4 hw; subst w0
  have e0 : sl a0 0 = .pointer (some ⟨p, 0, none⟩) := (k0 0 (by decide)).trans rfl
  refine wp_seq ?_
  refine wp_seq ?_
  refine mtR1 p T M s (decide (s.rx.length = s.c.rx)) a0 w _ hs0 e0 h (by rw [Bool.eq_iff_iff]; simp only [beq_iff_eq, decide_eq_true_eq]; omega) ?_
  intro a1 w1 hs1 k1 o15 h1 hf1
  refine wp_if o15 (fun hb => ?_) (fun hb => ?_)
  · have hp : s.put f = (s, false) := if_pos (of_decide_eq_true hb)
    refine wp_seq ?_
    refine mtR2 a1 w1 _ hs1 ?_
    intro a2 w2 hs2 k2 o4 hw; subst w2
    refine wp_ret ?_
    refine bodyPost_ret (P := Tryz.prog) (fn := Tryz.f101) (R := fun e w' => e = .returned (.bool (s.put f).2) ∧ MNow p T M w (s.put f).1 w') (results_tmp rfl _ _ _) hs2.defers (by rw [hp]; exact ⟨by rw [show a2.tmps.getD 4 undef = _ from o4], MNow.of h1 (hf1.of_no _)⟩)
  · have hp : s.put f = ({ s with rx := s.rx ++ [f] }, true) := if_neg (of_decide_eq_false hb)
    refine wp_skip ?_
    refine wp_seq ?_
    refine mtR3 p T M s f a1 w1 _ hs1 ((k1 0 (by decide)).trans e0) ((k1 1 (by decide)).trans ((k0 1 (by decide)).trans rfl)) h1 (by have := h1.rxl; have := of_decide_eq_false hb; omega) ?_
    intro a2 w2 hs2 k2 hN
    refine wp_seq ?_
    refine mtR4 a2 w2 _ hs2 ?_
    intro a3 w3 hs3 k3 o4 hw; subst w3
    refine wp_ret ?_
    refine bodyPost_ret (P := Tryz.prog) (fn := Tryz.f101) (R := fun e w' => e = .returned (.bool (s.put f).2) ∧ MNow p T M w (s.put f).1 w') (results_tmp rfl _ _ _) hs3.defers (by rw [hp]; exact ⟨by rw [show a3.tmps.getD 4 undef = _ from o4], MNow.pre hf1 hN⟩)
def mkF (u : Nat → Value) : Act := ⟨#[u 0, u 1, u 2, u 3, u 4, u 5, u 6, u 7, u 8, u 9, u 10, u 11, u 12, u 13, u 14, u 15, u 16, u 17, u 18, u 19, u 20, u 21, u 22, u 23, u 24, u 25, u 26], []⟩
set_option maxRecDepth 100000 in
theorem mkF_eq (u : Nat → Value) : mkF u = frN 27 u := rfl
theorem mkF_of {a : Act} (h : Sz 27 a) : a = mkF (sl a) := h.eq.trans (mkF_eq _).symm
theorem mkR0  (a : Act) (w : World) (K : Exit → Act → World → Prop) (hs : Sz 27 a)
     
    (hK : ∀ a' w', Sz 27 a' → Kp [0, 4] a a' → sl a' 2 = .string ⟨#[]⟩ → sl a' 3 = .bool false → w' = w → K .normal a' w') :
    (regionOf Tryz.f102 0).wp Tryz.prog K a w := by
  unfold Kp at hK; rw [mkF_of hs]; clear hs; generalize sl a = u at *; clear a; have HK := Lib.hid hK; clear hK; conv => arg 2; whnf
  simp only [mkF]
  go_wp2_with fail
  exact HK.out _ _  ⟨rfl, rfl⟩ (Kc rfl (Kc rfl (Kn _ _))) (rfl) (rfl) rfl
theorem mkR1 (p T : Nat) (M : MLay) (s : St) (b : Bool) (a : Act) (w : World) (K : Exit → Act → World → Prop) (hs : Sz 27 a)
    (h0 : sl a 0 = .pointer (some ⟨p, 0, none⟩)) (h : ModelAt w p T M s) (hb : ((s.tx.length : Int) == 0) = b)
    (hK : ∀ a' w', Sz 27 a' → Kp [0, 2, 3, 4] a a' → sl a' 10 = .bool b → w' = w → K .normal a' w') :
    (regionOf Tryz.f102 1).wp Tryz.prog K a w := by
  unfold Kp at hK; rw [mkF_of hs]; clear hs; generalize sl a = u at *; clear a; have HK := Lib.hid hK; clear hK; conv => arg 2; whnf
  simp only [mkF, h0]
  have c15 := h.g15
  go_wp2_with fail
  exact HK.out _ _  ⟨rfl, rfl⟩ (Kc h0.symm (Kc rfl (Kc rfl (Kc rfl (Kn _ _))))) (rfl) rfl
theorem mkR2  (a : Act) (w : World) (K : Exit → Act → World → Prop) (hs : Sz 27 a)
     
    (hK : ∀ a' w', Sz 27 a' → Kp [0, 4] a a' → sl a' 2 = .string ⟨#[]⟩ → sl a' 3 = .bool false → w' = w → K .normal a' w') :
    (regionOf Tryz.f102 2).wp Tryz.prog K a w := by
  unfold Kp at hK; rw [mkF_of hs]; clear hs; generalize sl a = u at *; clear a; have HK := Lib.hid hK; clear hK; conv => arg 2; whnf
  simp only [mkF]
  go_wp2_with fail
  exact HK.out _ _  ⟨rfl, rfl⟩ (Kc rfl (Kc rfl (Kn _ _))) (rfl) (rfl) rfl
theorem mkR3 (p T : Nat) (M : MLay) (s : St) (f : List UInt8) (r : List (List UInt8)) (a : Act) (w : World) (K : Exit → Act → World → Prop) (hs : Sz 27 a)
    (h0 : sl a 0 = .pointer (some ⟨p, 0, none⟩)) (h : ModelAt w p T M s) (ht : s.tx = f :: r)
    (hK : ∀ a' w', Sz 27 a' → Kp [0, 2, 3] a a' → sl a' 4 = .string (bs f) → w' = w → K .normal a' w') :
    (regionOf Tryz.f102 3).wp Tryz.prog K a w := by
  unfold Kp at hK; rw [mkF_of hs]; clear hs; generalize sl a = u at *; clear a; have HK := Lib.hid hK; clear hK; conv => arg 2; whnf
  simp only [mkF, h0]
  have c15 := h.g15
  have ow := h.tx
  rw [ht] at c15 ow
  obtain ⟨g, hA, hc, hat⟩ := own_some (n := r.length) ow
  rw [hA] at c15
  have q0 := hat 0 _ rfl
  clear hat ow
  go_wp2_with fail
  exact HK.out _ _  ⟨rfl, rfl⟩ (Kc h0.symm (Kc rfl (Kc rfl (Kn _ _)))) (rfl) rfl
theorem mkR4a (p T : Nat) (M : MLay) (s : St) (f : List UInt8) (a : Act) (w : World) (K : Exit → Act → World → Prop) (hs : Sz 27 a)
    (h0 : sl a 0 = .pointer (some ⟨p, 0, none⟩)) (h : ModelAt w p T M s) (ht : s.tx = [f]) (hne : M.txc = 1)
    (hK : ∀ a' w', Sz 27 a' → Kp [0, 2, 3, 4] a a' → MNow p T M w { s with tx := [] } w' → K .normal a' w') :
    (regionOf Tryz.f102 4).wp Tryz.prog K a w := by
  unfold Kp at hK; rw [mkF_of hs]; clear hs; generalize sl a = u at *; clear a; have HK := Lib.hid hK; clear hK; conv => arg 2; whnf
  simp only [mkF, h0]
  have c15 := h.g15
  have hfz := h.fr
  have ow := h.tx
  rw [ht] at c15 ow
  obtain ⟨g, hA, hc, hat⟩ := own_some (n := 0) ow
  rw [hA, hne] at c15
  have q0 := hat 0 _ rfl
  clear hat ow
  obtain ⟨i0, hi, hz0, hz1, hz2⟩ := info_parts strInfo
  have hap : ∀ w, (Builtin.append_ #[54, 54] 54 #[.slice none 0 0, .slice (some ⟨g, 0, none⟩) 0 0]).run Tryz.prog w = .ok (.slice none 0 0) w := fun w => by
    simp [Builtin.append_, run_underlying Tryz.underlying54, sizeOf, typeInfo, hi, Builtin.lenOf, Builtin.firstCells, loadCells, loadCellsFrom]
  go_wp2_with fail
  have hq := h.txTurn (q := []) (A := none) (c := 0) (Fr.refl _ _) (World.ownsRow_nil _ _ _ _) (fun b hb => by cases hb) (Nat.zero_le _)
  exact HK.out _ _  ⟨rfl, rfl⟩ (Kc h0.symm (Kc rfl (Kc rfl (Kc rfl (Kn _ _)))))  hq
theorem mkR4b (p T : Nat) (M : MLay) (s : St) (f : List UInt8) (r : List (List UInt8)) (a : Act) (w : World) (K : Exit → Act → World → Prop) (hs : Sz 27 a)
    (h0 : sl a 0 = .pointer (some ⟨p, 0, none⟩)) (h : ModelAt w p T M s) (ht : s.tx = f :: r) (hne : M.txc ≠ 1)
    (hK : ∀ a' w', Sz 27 a' → Kp [0, 2, 3, 4] a a' → MNow p T M w { s with tx := r } w' → K .normal a' w') :
    (regionOf Tryz.f102 4).wp Tryz.prog K a w := by
  unfold Kp at hK; rw [mkF_of hs]; clear hs; generalize sl a = u at *; clear a; have HK := Lib.hid hK; clear hK; conv => arg 2; whnf
  simp only [mkF, h0]
  have c15 := h.g15
  have ow := h.tx
  rw [ht] at c15 ow
  obtain ⟨g, hA, hc, hat⟩ := own_some (n := r.length) ow
  have htl := h.txl
  have ht1 := h.ok.tx1
  rw [ht, List.length_cons] at htl
  rw [hA] at c15
  obtain ⟨i0, hi, hz0, hz1, hz2⟩ := info_parts strInfo
  have hat1 : ∀ j u, (strV r)[j]? = some u → w.cell? ((⟨g, 1, none⟩ : Addr).add j) = some u := fun j u hj => by
    have := hat (j + 1) u (by simpa [strV] using hj)
    rw [show (⟨g, 1, none⟩ : Addr).add j = ⟨g, j + 1, none⟩ by simp [Addr.add, Nat.add_comm]]
    exact this
  clear hat ow
  rw [List.length_cons] at c15
  go_wp2_with (at_builtin; refine wpList_append_own_at _ rfl _ _ 54 rfl 0 9 i0 (.string ⟨#[]⟩) 1 16 Tryz.underlying54 hi hz0 hz1 hz2 rfl (by decide) _ 0 [] rfl (World.ownsRow_nil _ _ _ _) ⟨g, 1, none⟩ r.length (M.txc - 1) (strV r) rfl (by simp [strV]) hat1 (by simp [strV, Value.oneCell']) (by unfold maxLen; omega) (by omega) (Nat.zero_le _) ?_; intro v' w3 hown' hg3 hnil3 hbk3; obtain ⟨A', c', hv', hown2⟩ := own_cut0 hown'; subst hv'; have hf3 : Fr noB w w3 := (Fr.refl _ _).grown hg3 (fun g h _ => by cases h); have hB3 := h.none hf3; have cc := hB3.g15; have hfz := hB3.fr; skip)
  have hq := h.txTurn (q := r) (A := A') (c := c') (hf3.of_no _) (by simpa using hown2) (fun b hb => by
    have hb1 := blk_sl (n := 0 + r.length) (c := c') hb
    rcases hbk3 with e | e
    · rw [e] at hb1; cases hb1
    · exact .inr (by rw [e] at hb1; injection hb1 with hb1; omega)) (by omega)
  exact HK.out _ _  ⟨rfl, rfl⟩ (Kc h0.symm (Kc rfl (Kc rfl (Kc rfl (Kn _ _)))))  hq
theorem mkR5 (f : List UInt8) (a : Act) (w : World) (K : Exit → Act → World → Prop) (hs : Sz 27 a)
    (h4 : sl a 4 = .string (bs f)) 
    (hK : ∀ a' w', Sz 27 a' → Kp [0, 4] a a' → sl a' 2 = .string (bs f) → sl a' 3 = .bool true → w' = w → K .normal a' w') :
    (regionOf Tryz.f102 5).wp Tryz.prog K a w := by
  unfold Kp at hK; rw [mkF_of hs]; clear hs; generalize sl a = u at *; clear a; have HK := Lib.hid hK; clear hK; conv => arg 2; whnf
  simp only [mkF, h4]
  go_wp2_with fail
  exact HK.out _ _  ⟨rfl, rfl⟩ (Kc rfl (Kc h4.symm (Kn _ _))) (rfl) (rfl) rfl
theorem modTake (p T : Nat) (M : MLay) (s : St) (w : World) (h : ModelAt w p T M s) :
    Calls Tryz.prog 102 #[.pointer (some ⟨p, 0, none⟩)] w fun e w' => e = .returned (.tuple #[.string (bs (s.take.2.getD [])), .bool s.take.2.isSome]) ∧ MNow p T M w s.take.1 w' := by
  go_enter Tryz.func102, Tryz.ntmps102
  refine wp_seq ?_
  refine mkR0 _ w _ ⟨rfl, rfl⟩ ?_
  intro a0 w0 hs0 k0 o2 o3 hw; subst w0
  have e0 : sl a0 0 = .pointer (some ⟨p, 0, none⟩) := (k0 0 (by decide)).trans rfl
  refine wp_seq ?_
  refine wp_seq ?_
  refine mkR1 p T M s (decide (s.tx = [])) a0 w _ hs0 e0 h (by cases s.tx <;> simp; omega) ?_
  intro a1 w1 hs1 k1 o10 hw; subst w1
  have e1 := (k1 0 (by decide)).trans e0
  cases hq : s.tx with
  | nil =>
    rw [hq] at o10
    refine wp_if o10 (fun hb => ?_) (fun hb => by cases hb)
    refine wp_seq ?_
    refine mkR2 a1 w _ hs1 ?_
    intro a2 w2 hs2 k2 o2 o3 hw; subst w2
    refine wp_ret ?_
    refine bodyPost_ret (P := Tryz.prog) (fn := Tryz.f102) (R := fun e w' => e = .returned (.tuple #[.string (bs (s.take.2.getD [])), .bool s.take.2.isSome]) ∧ MNow p T M w s.take.1 w') (results_tmp2 rfl _ _ _) hs2.defers (by rw [show s.take = (s, none) by unfold St.take; rw [hq]]; exact ⟨by rw [show a2.tmps.getD 2 undef = _ from o2, show a2.tmps.getD 3 undef = _ from o3]; rfl, MNow.at_ h⟩)
  | cons f r =>
    rw [hq] at o10
    refine wp_if o10 (fun hb => by cases hb) (fun hb => ?_)
    refine wp_skip ?_
    refine wp_seq ?_
    refine mkR3 p T M s f r a1 w _ hs1 e1 h hq ?_
    intro a2 w2 hs2 k2 o4 hw; subst w2
    refine wp_seq ?_
    have e2 := (k2 0 (by decide)).trans e1
    have key : ∀ K : Exit → Act → World → Prop, (∀ a' w', Sz 27 a' → Kp [0, 2, 3, 4] a2 a' → MNow p T M w { s with tx := r } w' → K .normal a' w') → (regionOf Tryz.f102 4).wp Tryz.prog K a2 w := fun K hK => by
      by_cases hc : M.txc = 1
      · have hr : r = [] := by
          have ow := h.tx
          rw [hq] at ow
          obtain ⟨g, hA, hcc, _⟩ := own_some (n := r.length) ow
          exact List.length_eq_zero_iff.1 (by omega)
        subst hr
        exact mkR4a p T M s f a2 w K hs2 e2 h hq hc hK
      · exact mkR4b p T M s f r a2 w K hs2 e2 h hq hc hK
    refine key _ ?_
    intro a3 w3 hs3 k3 hN
    refine wp_seq ?_
    refine mkR5 f a3 w3 _ hs3 ((k3 4 (by decide)).trans o4) ?_
    intro a4 w4 hs4 k4 o2 o3 hw; subst w4
    refine wp_ret ?_
    refine bodyPost_ret (P := Tryz.prog) (fn := Tryz.f102) (R := fun e w' => e = .returned (.tuple #[.string (bs (s.take.2.getD [])), .bool s.take.2.isSome]) ∧ MNow p T M w s.take.1 w') (results_tmp2 rfl _ _ _) hs4.defers (by rw [show s.take = ({ s with tx := r }, some f) by unfold St.take; rw [hq]]; exact ⟨by rw [show a4.tmps.getD 2 undef = _ from o2, show a4.tmps.getD 3 undef = _ from o3]; rfl, hN⟩)
def mlF (u : Nat → Value) : Act := ⟨#[u 0, u 1, u 2, u 3, u 4, u 5, u 6, u 7, u 8, u 9, u 10, u 11, u 12, u 13, u 14, u 15, u 16, u 17, u 18, u 19, u 20, u 21, u 22, u 23, u 24, u 25, u 26, u 27, u 28, u 29, u 30, u 31, u 32, u 33, u 34, u 35], []⟩
set_option maxRecDepth 100000 in
theorem mlF_eq (u : Nat → Value) : mlF u = frN 36 u := rfl
theorem mlF_of {a : Act} (h : Sz 36 a) : a = mlF (sl a) := h.eq.trans (mlF_eq _).symm
theorem mlR0  (a : Act) (w : World) (K : Exit → Act → World → Prop) (hs : Sz 36 a)
     
    (hK : ∀ a' w', Sz 36 a' → Kp [0] a a' → sl a' 2 = .pointer (some ⟨w.heap.size, 0, none⟩) → Fr noB w w' → Bk w' w.heap.size 59 #[.int .i64 0, .int .i64 0, .int .i64 0, .int .u32 0, .int .i64 0, .int .i64 0, .int .i64 0, .int .i64 0] → K .normal a' w') :
    (regionOf Tryz.f106 0).wp Tryz.prog K a w := by
  unfold Kp at hK; rw [mlF_of hs]; clear hs; generalize sl a = u at *; clear a; have HK := Lib.hid hK; clear hK; conv => arg 2; whnf
  simp only [mlF]
  go_wp2_with fail
  exact HK.out _ _  ⟨rfl, rfl⟩ (Kc rfl (Kn _ _)) (rfl) ((Fr.refl _ _).alloc _) (Bk.new _ _ _)
theorem mlR1 (p T : Nat) (M : MLay) (s : St) (g : Nat) (a : Act) (w : World) (K : Exit → Act → World → Prop) (hs : Sz 36 a)
    (h0 : sl a 0 = .pointer (some ⟨p, 0, none⟩)) (h2 : sl a 2 = .pointer (some ⟨g, 0, none⟩)) (h : ModelAt w p T M s) (hG : Bk w g 59 #[.int .i64 0, .int .i64 0, .int .i64 0, .int .u32 0, .int .i64 0, .int .i64 0, .int .i64 0, .int .i64 0])
    (hK : ∀ a' w', Sz 36 a' → Kp [0, 2] a a' → Bk w' g 59 #[.int .i64 s.now, .int .i64 (s.lease : Int), .int .i64 (s.phase : Int), .int .u32 (s.address : Int), .int .i64 s.boots, .int .i64 (s.image.length : Int), .int .i64 s.lost, .int .i64 (s.cache.length : Int)] → Fr (oneB g) w w' → K .normal a' w') :
    (regionOf Tryz.f106 1).wp Tryz.prog K a w := by
  unfold Kp at hK; rw [mlF_of hs]; clear hs; generalize sl a = u at *; clear a; have HK := Lib.hid hK; clear hK; conv => arg 2; whnf
  simp only [mlF, h0, h2]
  refine wp_region_pls (by kernel_rfl) (fun w' => ModelAt w' p T M s ∧ Bk w' g 59 #[.int .i64 0, .int .i64 0, .int .i64 0, .int .u32 0, .int .i64 0, .int .i64 0, .int .i64 0, .int .i64 0] ∧ Fr noB w w') [33] (.p 0 (.p 1 (.p 2 (.p 4 (.p 5 (.p 6 (.p 8 (.p 9 (.p 10 (.p 12 (.p 14 (.p 15 (.p 16 (.p 18 (.p 19 (.p 20 (.p 23 (.p 24 (.p 25 (.p 27 (.p 28 (.p 29 (.q 3 (.q 7 (.q 11 (.q 17 (.q 21 (.p 22 (.q 26 (.q 30 (.p 31 (.e 13 (.p 32 (.e 33 (.nil))))))))))))))))))))))))))))))))))) (by kernel_rfl) (⟨h.drew, hG.drew, (Fr.refl _ _).drew⟩) ?_
  intro ops Q' hO hQ' wr1 hR1
  iterate 22 (refine pl_p0 hO rfl rfl ?_ (fun w' => ?_) ?_; rotate_left 1; (focus (go_simp; ((try with_reducible rfl); done))); simp only [Act.put, List.setIfInBounds_toArray, List.set_cons_zero, List.set_cons_succ])
  iterate 5 (refine pl_q0 hO rfl rfl ?_ (fun w' hS => ?_) ?_; rotate_left 1; (focus (obtain ⟨hB, hG, hF⟩ := hS; have c16 := hB.g16; have c18 := hB.g18; have c19 := hB.g19; have c21 := hB.g21; have c22 := hB.g22; have c34 := hB.g34; have c45 := hB.g45; go_simp; ((try with_reducible rfl); done))); simp only [Act.put, List.setIfInBounds_toArray, List.set_cons_zero, List.set_cons_succ])
  refine pl_p0 hO rfl rfl ?_ (fun w' => ?_) ?_; rotate_left 1; (focus (go_simp; ((try with_reducible rfl); done))); simp only [Act.put, List.setIfInBounds_toArray, List.set_cons_zero, List.set_cons_succ]
  iterate 2 (refine pl_q0 hO rfl rfl ?_ (fun w' hS => ?_) ?_; rotate_left 1; (focus (obtain ⟨hB, hG, hF⟩ := hS; have c16 := hB.g16; have c18 := hB.g18; have c19 := hB.g19; have c21 := hB.g21; have c22 := hB.g22; have c34 := hB.g34; have c45 := hB.g45; go_simp; ((try with_reducible rfl); done))); simp only [Act.put, List.setIfInBounds_toArray, List.set_cons_zero, List.set_cons_succ])
  refine pl_p0 hO rfl rfl ?_ (fun w' => ?_) ?_; rotate_left 1; (focus (go_simp; ((try with_reducible rfl); done))); simp only [Act.put, List.setIfInBounds_toArray, List.set_cons_zero, List.set_cons_succ]
  refine pl_e0 hO rfl rfl rfl (fun K hK => ?_)
  go_simp
  refine (modAddress p T M s _ hR1.1).mono ?_
  rintro e w2 ⟨rfl, h2⟩
  subst h2
  refine hK _ _ (hR1) (fun hR_13 => ?_)
  clear hK K
  refine pl_p0 hO rfl rfl ?_ (fun w' => ?_) ?_; rotate_left 1; (focus (go_simp; ((try with_reducible rfl); done))); simp only [Act.put, List.setIfInBounds_toArray, List.set_cons_zero, List.set_cons_succ]
  refine pl_b0 hO rfl rfl rfl (fun K hK => ?_)
  refine wp_store_bk 59 (.tmp 2) (.tmp 35) rfl g _ _ #[.int .i64 s.now, .int .i64 (s.lease : Int), .int .i64 (s.phase : Int), .int .u32 (s.address : Int), .int .i64 s.boots, .int .i64 (s.image.length : Int), .int .i64 s.lost, .int .i64 (s.cache.length : Int)] rfl rfl hR_13.2.1 rfl (by kernel_rfl) (by kernel_rfl) ?_
  intro w9 hx9 hf9
  refine hK _ _ ?_
  clear hK K
  refine pl_nil (hQ' _ _ ?_)
  exact HK.out _ _  ⟨rfl, rfl⟩ (Kc h0.symm (Kc h2.symm (Kn _ _)))  hx9 ((hR_13.2.2.of_no _).trans hf9)
theorem modLook (p T : Nat) (M : MLay) (s : St) (w : World) (h : ModelAt w p T M s) :
    Calls Tryz.prog 106 #[.pointer (some ⟨p, 0, none⟩)] w fun e w' => e = .returned (.agg #[.int .i64 s.now, .int .i64 (s.lease : Int), .int .i64 (s.phase : Int), .int .u32 (s.address : Int), .int .i64 s.boots, .int .i64 (s.image.length : Int), .int .i64 s.lost, .int .i64 (s.cache.length : Int)]) ∧ MNow p T M w s w' := by
  go_enter Tryz.func106, Tryz.ntmps106
  refine wp_seq ?_
  refine mlR0 _ w _ ⟨rfl, rfl⟩ ?_
  intro a1 w1 hs1 k1 o2 hf1 hG1
  refine wp_seq ?_
  refine mlR1 p T M s _ a1 w1 _ hs1 ((k1 0 (by decide)).trans rfl) o2 (h.none hf1) hG1 ?_
  intro a2 w2 hs2 k2 hG2 hf2
  have hF : Fr noB w w2 := hf1.trans' hf2 (fun b hb e => by have e' : b = w.heap.size := e; omega)
  refine wp_ret ?_
  exact bodyPost_ret (results_cell_row Tryz.results106 _ w2 _ _ _ _ _ ((k2 2 (by decide)).trans o2) hG2 Tryz.underlying59 rfl (by kernel_rfl)) hs2.defers ⟨rfl, MNow.of (h.none hF) (hF.of_no _)⟩
end Go.Proofs.YtcbkaiakdhiloabGreatDoor
namespace Go.Proofs.YtcbkaiakdhiloabGreatDoor
open Go.RowKit Go.Proofs
attribute [local go_sem] bs_size bs_append bs_extract
def optC : List OptD → List Value
  | [] => []
  | o :: r => .int .u8 (o.code.toNat : Int) :: .string (bs o.data) :: optC r
theorem optC_length : ∀ os : List OptD, (optC os).length = os.length * 2
  | [] => rfl
  | o :: r => by simp only [optC, List.length_cons, optC_length r]; omega
theorem optC_append : ∀ a b : List OptD, optC (a ++ b) = optC a ++ optC b
  | [], _ => rfl
  | o :: r, b => by simp only [List.cons_append, optC, optC_append r b]
theorem optC_code : ∀ (os : List OptD) (k : Nat) (o : OptD), os[k]? = some o → (optC os)[k * 2]? = some (.int .u8 (o.code.toNat : Int))
  | [], _, _, h => by cases h
  | o :: r, 0, o', h => by cases h; rfl
  | o :: r, k + 1, o', h => by
    rw [show (k + 1) * 2 = k * 2 + 1 + 1 by omega]
    exact optC_code r k o' h
theorem optC_data : ∀ (os : List OptD) (k : Nat) (o : OptD), os[k]? = some o → (optC os)[k * 2 + 1]? = some (.string (bs o.data))
  | [], _, _, h => by cases h
  | o :: r, 0, o', h => by cases h; rfl
  | o :: r, k + 1, o', h => by
    rw [show (k + 1) * 2 + 1 = k * 2 + 1 + 1 + 1 by omega]
    exact optC_data r k o' h
theorem optOf_drop {os : List OptD} {k : Nat} {o : OptD} (h : os[k]? = some o) (c : UInt8) : optOf (os.drop k) c = if o.code = c then some o.data else optOf (os.drop (k + 1)) c := by
  have hk : k < os.length := by
    rcases Nat.lt_or_ge k os.length with h1 | h1
    · exact h1
    · rw [List.getElem?_eq_none h1] at h; cases h
  rw [List.drop_eq_getElem_cons hk]
  rw [List.getElem?_eq_getElem hk] at h
  cases h
  rfl
theorem SlR.opt {w : World} {S : Nat → Prop} {A : Option Addr} {n : Nat} {os : List OptD} (h : SlR w S 2 A n (optC os)) : os.length = n := by
  have := h.1; rw [optC_length] at this; omega
theorem SlR.optAt {w : World} {S : Nat → Prop} {A : Option Addr} {n k : Nat} {os : List OptD} {o : OptD} (h : SlR w S 2 A n (optC os)) (hk : os[k]? = some o) :
    ∃ ad, A = some ad ∧ w.cell? (ad.add (k * 2)) = some (.int .u8 (o.code.toNat : Int)) ∧ w.cell? ⟨(ad.add (k * 2)).block, (ad.add (k * 2)).off + 1, none⟩ = some (.string (bs o.data)) := by
  have hl : k < os.length := by
    rcases Nat.lt_or_ge k os.length with h1 | h1
    · exact h1
    · rw [List.getElem?_eq_none h1] at hk; cases hk
  have hn := h.opt
  obtain ⟨ad, e, _, _, hc⟩ := h.2 (by omega)
  exact ⟨ad, e, hc _ _ (optC_code os k o hk), by
    have := hc _ _ (optC_data os k o hk)
    rw [← add_add] at this
    exact this⟩
theorem u8_ne {a b : UInt8} (h : a ≠ b) : ((a.toNat : Int) == (b.toNat : Int)) = false := by
  rw [beq_eq_false_iff_ne]
  intro e
  exact h (UInt8.toNat.inj (by omega))
theorem dhcOf (S : Nat → Prop) (A : Option Addr) (n cap : Nat) (os : List OptD) (c : UInt8) (w : World) (hA : SlR w S 2 A n (optC os)) (hn : n ≤ 4611686018427387904) :
    Calls Tryz.prog 158 #[.slice A n cap, .int .u8 (c.toNat : Int)] w fun e w' =>
      e = .returned (.tuple #[.string (bs ((optOf os c).getD [])), .bool (optOf os c).isSome]) ∧ Fr noB w w' := by
  have hlen := hA.opt
  go_enter Tryz.func158, Tryz.ntmps158
  go_wp2_with fail
  go_loopw [10] (fun iv wr => ∃ (i : Nat), i ≤ n ∧ iv = .int .i64 (i : Int) ∧ optOf os c = optOf (os.drop i) c ∧ Fr noB w wr) (fun iv _ => n - (intOf iv).toNat)
  case atStart => exact ⟨0, by omega, rfl, rfl, Fr.refl _ _⟩
  case round =>
    obtain ⟨i, hi, rfl, ha, hw⟩ := hrel
    by_cases hlt : i < n
    · obtain ⟨o, ho⟩ : ∃ o, os[i]? = some o := ⟨_, List.getElem?_eq_getElem (by omega)⟩
      obtain ⟨ad, rfl, c1, c2⟩ := ((hA.sub (T := noB) (fun _ _ x => x.elim)).keep hw).optAt ho
      have ha2 := ha.trans (optOf_drop ho c)
      have Ha := Lib.hid ha2
      clear ha ha2 ho
      have hne := Lib.hid (Fr.alloc hw (.cells #[.int .u8 (o.code.toNat : Int), .string (bs o.data)] 72))
      by_cases he : o.code = c
      · subst he
        have H1 : Hid (optOf os o.code = some o.data) := Lib.hid (by have := Ha.out; rw [if_pos rfl] at this; exact this)
        clear Ha
        go_wp2_with fail
        go_ret2
        rw [H1.out]
        exact ⟨rfl, hne.out⟩
      · have hb := u8_ne he
        have H1 : Hid (optOf os c = optOf (os.drop (i + 1)) c) := Lib.hid (by have := Ha.out; rw [if_neg he] at this; exact this)
        have hbi : ¬ (o.code.toNat : Int) = (c.toNat : Int) := by simpa using hb
        clear Ha he
        go_wp2_with fail
        exact ⟨⟨i + 1, by omega, by rw [Int.natCast_add]; rfl, H1.out, hne.out⟩, by simp only [intOf]; omega⟩
    · obtain rfl : i = n := by omega
      have H1 : Hid (optOf os c = none) := Lib.hid (by rw [ha, List.drop_of_length_le (by omega)]; rfl)
      clear ha
      go_wp2_with fail
      go_ret2
      rw [H1.out]
      exact ⟨rfl, hw⟩
theorem refOption (S : Nat → Prop) (A : Option Addr) (n cap : Nat) (os : List OptD) (c : UInt8) (w : World) (hA : SlR w S 2 A n (optC os)) (hn : n ≤ 4611686018427387904) :
    Calls Tryz.prog 231 #[.slice A n cap, .int .u8 (c.toNat : Int)] w fun e w' =>
      e = .returned (.tuple #[.string (bs ((optOf os c).getD [])), .bool (optOf os c).isSome]) ∧ Fr noB w w' := by
  have hlen := hA.opt
  go_enter Tryz.func231, Tryz.ntmps231
  go_wp2_with fail
  go_loopw [10] (fun iv wr => ∃ (i : Nat), i ≤ n ∧ iv = .int .i64 (i : Int) ∧ optOf os c = optOf (os.drop i) c ∧ Fr noB w wr) (fun iv _ => n - (intOf iv).toNat)
  case atStart => exact ⟨0, by omega, rfl, rfl, Fr.refl _ _⟩
  case round =>
    obtain ⟨i, hi, rfl, ha, hw⟩ := hrel
    by_cases hlt : i < n
    · obtain ⟨o, ho⟩ : ∃ o, os[i]? = some o := ⟨_, List.getElem?_eq_getElem (by omega)⟩
      obtain ⟨ad, rfl, c1, c2⟩ := ((hA.sub (T := noB) (fun _ _ x => x.elim)).keep hw).optAt ho
      have ha2 := ha.trans (optOf_drop ho c)
      have Ha := Lib.hid ha2
      clear ha ha2 ho
      have hne := Lib.hid (Fr.alloc hw (.cells #[.int .u8 (o.code.toNat : Int), .string (bs o.data)] 72))
      by_cases he : o.code = c
      · subst he
        have H1 : Hid (optOf os o.code = some o.data) := Lib.hid (by have := Ha.out; rw [if_pos rfl] at this; exact this)
        clear Ha
        go_wp2_with fail
        go_ret2
        rw [H1.out]
        exact ⟨rfl, hne.out⟩
      · have hb := u8_ne he
        have H1 : Hid (optOf os c = optOf (os.drop (i + 1)) c) := Lib.hid (by have := Ha.out; rw [if_neg he] at this; exact this)
        have hbi : ¬ (o.code.toNat : Int) = (c.toNat : Int) := by simpa using hb
        clear Ha he
        go_wp2_with fail
        exact ⟨⟨i + 1, by omega, by rw [Int.natCast_add]; rfl, H1.out, hne.out⟩, by simp only [intOf]; omega⟩
    · obtain rfl : i = n := by omega
      have H1 : Hid (optOf os c = none) := Lib.hid (by rw [ha, List.drop_of_length_le (by omega)]; rfl)
      clear ha
      go_wp2_with fail
      go_ret2
      rw [H1.out]
      exact ⟨rfl, hw⟩
end Go.Proofs.YtcbkaiakdhiloabGreatDoor
namespace Go.Proofs.YtcbkaiakdhiloabGreatDoor
open Go.RowKit Go.Proofs
attribute [local go_sem] bs_size bs_append bs_extract
theorem own_set {w : World} {base : Nat} {e : TypeId} {size n cap g j : Nat} {xs : List Value} {u : Value} (h : w.ownsRow base e size (.slice (some ⟨g, 0, none⟩) n cap) n xs) (hj : j < n * size) :
    (w.setCell ⟨g, j, none⟩ u).ownsRow base e size (.slice (some ⟨g, 0, none⟩) n cap) n (xs.set j u) := by
  obtain ⟨h1, ⟨h2, _⟩ | ⟨g', cap', cur, hv, hb, hg, hn, hm, hc, ht⟩⟩ := h
  · cases h2
  · cases hv
    refine ⟨by simpa using h1, .inr ⟨g, cap, cur.setIfInBounds j u, rfl, hb, Bk.set hg j u, hn, hm, by simpa using hc, ?_⟩⟩
    rw [Array.toList_setIfInBounds, List.take_set, ht]
theorem own_keep {w w' : World} {S : Nat → Prop} {base : Nat} {e : TypeId} {size n : Nat} {v : Value} {xs : List Value} (h : w.ownsRow base e size v n xs) (hf : Fr S w w') (hS : ∀ k, base ≤ k → ¬ S k) :
    w'.ownsRow base e size v n xs := by
  obtain ⟨h1, h2 | ⟨g', cap', cur, hv, hb, hg, hn, hm, hc, ht⟩⟩ := h
  · exact ⟨h1, .inl h2⟩
  · exact ⟨h1, .inr ⟨g', cap', cur, hv, hb, Bk.keep hg hf (hS g' hb), hn, hm, hc, ht⟩⟩
theorem own_far {w : World} {base : Nat} {e t : TypeId} {size n : Nat} {v : Value} {xs : List Value} {cs : Array Value} {p : Addr} (h : w.ownsRow base e size v n xs) (hp : Bk w p.block t cs) (ht : t ≠ e) (u : Value) :
    (w.setCell p u).ownsRow base e size v n xs := by
  obtain ⟨h1, h2 | ⟨g', cap', cur, hv, hb, hg, hn, hm, hc, ht'⟩⟩ := h
  · exact ⟨h1, .inl h2⟩
  · refine ⟨h1, .inr ⟨g', cap', cur, hv, hb, Bk.far hg (fun e1 => ?_) u, hn, hm, hc, ht'⟩⟩
    rw [← e1, Bk, hg] at hp
    injection hp with hp; injection hp with _ hp; exact ht hp.symm
theorem own_at {w : World} {base : Nat} {e : TypeId} {size n g cap j : Nat} {xs : List Value} {u : Value} (h : w.ownsRow base e size (.slice (some ⟨g, 0, none⟩) n cap) n xs) (hj : xs[j]? = some u) : w.cell? ⟨g, j, none⟩ = some u := by
  obtain ⟨h1, ⟨h2, _⟩ | ⟨g', cap', cur, hv, hb, hg, hn, hm, hc, ht⟩⟩ := h
  · cases h2
  · cases hv
    rw [Bk.cell hg j]
    have hl : j < xs.length := by
      rcases Nat.lt_or_ge j xs.length with h1 | h1
      · exact h1
      · rw [List.getElem?_eq_none h1] at hj; cases hj
    rw [← ht, List.getElem?_take, if_pos (by omega)] at hj
    simpa using hj
theorem own_free {w : World} {base : Nat} {e : TypeId} {size n g cap j : Nat} {xs : List Value} (h : w.ownsRow base e size (.slice (some ⟨g, 0, none⟩) n cap) n xs) : w.frozen? ⟨g, j, none⟩ = false := by
  obtain ⟨h1, ⟨h2, _⟩ | ⟨g', cap', cur, hv, hb, hg, hn, hm, hc, ht⟩⟩ := h
  · cases h2
  · cases hv; exact Bk.free hg j
theorem own_base {w : World} {base : Nat} {e : TypeId} {size n g cap : Nat} {xs : List Value} (h : w.ownsRow base e size (.slice (some ⟨g, 0, none⟩) n cap) n xs) : base ≤ g := by
  obtain ⟨h1, ⟨h2, _⟩ | ⟨g', cap', cur, hv, hb, _⟩⟩ := h
  · cases h2
  · cases hv; exact hb
theorem optC_one {os : List OptD} : ∀ u ∈ optC os, u.oneCell' = true := by
  induction os with
  | nil => intro u h; cases h
  | cons o r ih =>
    intro u h
    simp only [optC, List.mem_cons] at h
    rcases h with rfl | rfl | h
    · rfl
    · rfl
    · exact ih u h
theorem opt_info : (Tryz.prog.info? 72).map (fun i => (i.zero, i.size, i.bytes)) = some (some (.agg #[.int .u8 0, .string ⟨#[]⟩]), 2, 24) := by kernel_rfl
def LsA (w : World) (pl : Nat) (F : Nat → Prop) (os : List OptD) : Prop :=
  F pl ∧ ∃ A cap, Bk w pl 191 #[.slice A os.length cap] ∧ w.ownsRow 0 72 2 (.slice A os.length cap) os.length (optC os) ∧ ∀ a, A = some a → F a.block
theorem own_keepAt {w w' : World} {S : Nat → Prop} {base : Nat} {e : TypeId} {size n cap : Nat} {A : Option Addr} {xs : List Value} (h : w.ownsRow base e size (.slice A n cap) n xs) (hf : Fr S w w') (hS : ∀ a, A = some a → ¬ S a.block) :
    w'.ownsRow base e size (.slice A n cap) n xs := by
  obtain ⟨h1, h2 | ⟨g', cap', cur, hv, hb, hg, hn, hm, hc, ht⟩⟩ := h
  · exact ⟨h1, .inl h2⟩
  · cases hv
    exact ⟨h1, .inr ⟨g', cap, cur, rfl, hb, Bk.keep hg hf (hS _ rfl), hn, hm, hc, ht⟩⟩
theorem LsA.keep {w w' : World} {S F : Nat → Prop} {pl : Nat} {os : List OptD} (h : LsA w pl F os) (hf : Fr S w w') (hS : ∀ k, F k → ¬ S k) : LsA w' pl F os := by
  obtain ⟨h1, A, cap, h2, h3, h4⟩ := h
  exact ⟨h1, A, cap, h2.keep hf (hS pl h1), own_keepAt h3 hf (fun a e => hS _ (h4 a e)), h4⟩
theorem LsA.mono {w : World} {F F' : Nat → Prop} {pl : Nat} {os : List OptD} (h : LsA w pl F os) (hF : ∀ k, F k → F' k) : LsA w pl F' os := by
  obtain ⟨h1, A, cap, h2, h3, h4⟩ := h
  exact ⟨hF _ h1, A, cap, h2, h3, fun a e => hF _ (h4 a e)⟩
theorem own_blk {w : World} {base : Nat} {e : TypeId} {size n cap : Nat} {A : Option Addr} {xs : List Value} (h : w.ownsRow base e size (.slice A n cap) n xs) : ∀ a, A = some a → base ≤ a.block := by
  rintro a rfl
  obtain ⟨h1, ⟨h2, _⟩ | ⟨g', cap', cur, hv, hb, _⟩⟩ := h
  · cases h2
  · cases hv; exact hb
def wtO : List OptD → Nat
  | [] => 0
  | o :: r => o.data.length + 1 + wtO r
theorem wtO_len : ∀ os : List OptD, os.length ≤ wtO os
  | [] => Nat.le_refl _
  | o :: r => by have := wtO_len r; simp only [List.length_cons, wtO]; omega
theorem wtO_at : ∀ (os : List OptD) (k : Nat) (o : OptD), os[k]? = some o → o.data.length ≤ wtO os
  | [], _, _, h => by cases h
  | o :: r, 0, o', h => by cases h; simp only [wtO]; omega
  | o :: r, k + 1, o', h => by have := wtO_at r k o' h; simp only [wtO]; omega
theorem wtO_add : ∀ (os : List OptD) (c : UInt8) (d : List UInt8), wtO (optAdd os c d) ≤ wtO os + d.length + 1
  | [], c, d => by simp only [optAdd, wtO]; omega
  | o :: r, c, d => by
    simp only [optAdd]
    split
    · simp only [wtO, List.length_append]; omega
    · have := wtO_add r c d; simp only [wtO]; omega
theorem optC_set : ∀ (os : List OptD) (k : Nat) (o : OptD) (d : List UInt8), os[k]? = some o → (optC os).set (k * 2 + 1) (.string (bs d)) = optC (os.set k ⟨o.code, d⟩)
  | [], _, _, _, h => by cases h
  | o :: r, 0, o', d, h => by cases h; rfl
  | o :: r, k + 1, o', d, h => by
    rw [show (k + 1) * 2 + 1 = k * 2 + 1 + 1 + 1 by omega]
    simp only [optC, List.set_cons_succ]
    rw [optC_set r k o' d h]
theorem optAdd_at : ∀ (os : List OptD) (k : Nat) (o : OptD) (c : UInt8) (d : List UInt8), os[k]? = some o → o.code = c → (∀ j o', j < k → os[j]? = some o' → o'.code ≠ c) → optAdd os c d = os.set k ⟨o.code, o.data ++ d⟩
  | [], _, _, _, _, h, _, _ => by cases h
  | o :: r, 0, o', c, d, h, hc, _ => by cases h; simp only [optAdd, if_pos hc, List.set_cons_zero]
  | o :: r, k + 1, o', c, d, h, hc, hn => by
    simp only [optAdd, List.set_cons_succ]
    rw [if_neg (hn 0 o (by omega) rfl), optAdd_at r k o' c d h hc fun j o2 hj h2 => hn (j + 1) o2 (by omega) h2]
theorem optAdd_new : ∀ (os : List OptD) (c : UInt8) (d : List UInt8), (∀ j o', j < os.length → os[j]? = some o' → o'.code ≠ c) → optAdd os c d = os ++ [⟨c, d⟩]
  | [], c, d, _ => rfl
  | o :: r, c, d, hn => by
    simp only [optAdd, List.cons_append]
    rw [if_neg (hn 0 o (by simp) rfl), optAdd_new r c d fun j o2 hj h2 => hn (j + 1) o2 (by simpa using hj) h2]
theorem dhcAdd (pl : Nat) (F : Nat → Prop) (os : List OptD) (c : UInt8) (d : List UInt8) (w : World) (hL : LsA w pl F os) (hwt : wtO os + d.length + 1 ≤ 1099511627776) (hF : ∀ k, w.heap.size ≤ k → F k) :
    Calls Tryz.prog 157 #[.pointer (some ⟨pl, 0, none⟩), .int .u8 (c.toNat : Int), .string (bs d)] w fun e w' =>
      e = .returned (.tuple #[]) ∧ LsA w' pl F (optAdd os c d) ∧ Fr F w w' := by
  obtain ⟨hbp, A, cap, hB, hO, hAF⟩ := hL
  have HF := Lib.hid hF
  have HAF := Lib.hid hAF
  clear hF hAF
  have hlw := wtO_len os
  have hc0 := hB.cells
  have hf0 := hB.frees
  have hAp : ∀ a, A = some a → a.block ≠ pl := by
    rintro a rfl e
    obtain ⟨_, ⟨h2, _⟩ | ⟨g, _, cur, h2, _, hg, _⟩⟩ := hO
    · cases h2
    · cases h2
      rw [show g = pl from e, hB] at hg
      cases hg
  obtain ⟨i0, hi0, hz0, hz1, hz2⟩ := info_parts opt_info
  obtain ⟨n, hn⟩ : ∃ n, n = os.length := ⟨_, rfl⟩
  rw [← hn] at hc0 hB hO
  go_enter Tryz.func157, Tryz.ntmps157
  go_wp2_with fail
  go_loopw [11] (fun iv wr => ∃ (i : Nat), i ≤ n ∧ iv = .int .i64 (i : Int) ∧ (∀ j o', j < i → os[j]? = some o' → o'.code ≠ c) ∧ wr = w) (fun iv _ => n - (intOf iv).toNat)
  case atStart => exact ⟨0, by omega, rfl, fun j o' h => absurd h (by omega), rfl⟩
  case round =>
    obtain ⟨i, hi, rfl, ha, hw⟩ := hrel
    subst hw
    by_cases hlt : i < n
    · obtain ⟨o, ho⟩ : ∃ o, os[i]? = some o := ⟨_, List.getElem?_eq_getElem (by omega)⟩
      obtain ⟨g, rfl⟩ : ∃ g, A = some ⟨g, 0, none⟩ := by
        obtain ⟨A', cap', e, h1⟩ := own_slice hO
        cases e
        rcases h1 with rfl | ⟨g, rfl⟩
        · obtain ⟨_, ⟨h2, h3⟩ | ⟨g, _, _, h2, _⟩⟩ := hO
          · omega
          · cases h2
        · exact ⟨g, rfl⟩
      have c1 := own_at hO (optC_code os i o ho)
      have c2 := own_at hO (optC_data os i o ho)
      have f2 : ∀ x : Nat, wr.frozen? ⟨g, x, none⟩ = false := fun x => own_free hO
      have hol := wtO_at os i o ho
      have Ha := Lib.hid ha
      have Ho := Lib.hid ho
      clear ha ho
      by_cases he : o.code = c
      · subst he
        go_wp2_with fail
        refine bodyPost_ret (v := .tuple #[]) ?_ ?_ ?_
        · exact results_none rfl _ _ _
        · rfl
        rw [optAdd_at os i o o.code d Ho.out rfl Ha.out]
        refine ⟨rfl, ⟨hbp, some ⟨g, 0, none⟩, cap, ?_, ?_, HAF.out⟩, (Fr.refl _ _).setCell (fun _ => ?_) _⟩
        · rw [List.length_set, ← hn]; exact hB.far (p := ⟨g, i * 2 + 1, none⟩) (fun e => hAp _ rfl e.symm) _
        · rw [List.length_set, ← hn, ← optC_set os i o _ Ho.out]; exact own_set hO (by omega)
        · exact HAF.out ⟨g, 0, none⟩ rfl
      · have hbi : ¬ (o.code.toNat : Int) = (c.toNat : Int) := fun e => he (UInt8.toNat.inj (by omega))
        have H1 : Hid (∀ j o', j < i + 1 → os[j]? = some o' → o'.code ≠ c) := Lib.hid (by
          intro j o' hj h2
          rcases Nat.lt_or_ge j i with h3 | h3
          · exact Ha.out j o' h3 h2
          · obtain rfl : j = i := by omega
            rw [Ho.out] at h2; cases h2; exact he)
        clear Ha he
        go_wp2_with fail
        exact ⟨⟨i + 1, by omega, by rw [Int.natCast_add]; rfl, H1.out, trivial⟩, by simp only [intOf]; omega⟩
    · obtain rfl : i = n := by omega
      subst hn
      have H1 : Hid _ := Lib.hid (optAdd_new os c d ha)
      clear ha
      have hb2 := (hB.alloc (.cells #[.int .u8 (c.toNat : Int), .string (bs d)] 72))
      have hsr : SlR (wr.alloc (.cells #[.int .u8 (c.toNat : Int), .string (bs d)] 72)) noB 2 (some ⟨wr.heap.size, 0, none⟩) 1 (optC [⟨c, d⟩]) :=
        SlR.of_bk (n := 1) (size := 2) (S := noB) (Bk.new wr 72 #[.int .u8 (c.toNat : Int), .string (bs d)]) (fun x => x) rfl
      have hO2 : (wr.alloc (.cells #[.int .u8 (c.toNat : Int), .string (bs d)] 72)).ownsRow 0 72 2 (.slice A os.length cap) os.length (optC os) :=
        own_keep hO (((Fr.refl noB wr).alloc _)) (fun _ _ x => x)
      go_wp2_with (at_builtin
                   go_must (refine wpList_app rfl (.tmp 38) (.tmp 42) _ rfl 0 72 i0 _ 2 24 Tryz.underlying191 hi0 hz0 hz1 hz2 rfl (by omega) A _ _ _ rfl hO2 noB _ 1 1 _ rfl hsr optC_one (by unfold maxLen; omega) (by omega) (Nat.zero_le _) ?_)
                   intro A1 cap1 w1 hap
                   have hb3 := hb2.keep hap.fr (by rintro ⟨a, e, e2⟩; exact hAp a e e2)
                   have hc3 := hb3.cells
                   have hf3 := hb3.frees)
      refine bodyPost_end (results_none rfl _ _ _) rfl ?_
      rw [H1.out]
      refine ⟨rfl, ⟨hbp, A1, cap1, ?_, ?_, ?_⟩, ?_⟩
      · rw [List.length_append]; exact (by simpa using hb3.set 0 (.slice A1 (os.length + 1) cap1))
      · rw [List.length_append, optC_append]; exact own_far hap.own hb3 (by decide) _
      · intro a e
        rcases hap.at_ a e with h | ⟨a0, e0, h⟩
        · exact HF.out _ (by simp at h; omega)
        · rw [← h]; exact HAF.out _ e0
      · refine ((((Fr.refl noB wr).alloc _).of_no _).trans' hap.fr ?_).setCell (fun _ => hbp) _
        rintro b hb ⟨a, e, rfl⟩
        exact HAF.out a e
end Go.Proofs.YtcbkaiakdhiloabGreatDoor
namespace Go.Proofs.YtcbkaiakdhiloabGreatDoor
open Go.RowKit Go.Proofs
attribute [local go_sem] bs_size bs_append bs_extract
theorem own_slr {w : World} {base : Nat} {e : TypeId} {size n cap : Nat} {A : Option Addr} {xs : List Value} (h : w.ownsRow base e size (.slice A n cap) n xs) : SlR w noB size A n xs := by
  refine ⟨h.1, fun hn => ?_⟩
  obtain ⟨h1, ⟨h2, h3⟩ | ⟨g, cap', cur, hv, hb, hg, _⟩⟩ := id h
  · omega
  · cases hv
    exact ⟨_, rfl, Bk.lt hg, fun x => x, fun j u hu => by rw [addr_add, Nat.zero_add]; exact own_at h hu⟩
theorem own_slrS {w : World} {S : Nat → Prop} {base : Nat} {e : TypeId} {size n cap : Nat} {A : Option Addr} {xs : List Value} (h : w.ownsRow base e size (.slice A n cap) n xs) (hS : ∀ a, A = some a → ¬ S a.block) : SlR w S size A n xs := by
  have h1 := own_slr h
  refine ⟨h1.1, fun hn => ?_⟩
  obtain ⟨ad, e, hb, _, hc⟩ := h1.2 hn
  exact ⟨ad, e, hb, hS _ e, hc⟩
theorem refMore (A0 : Option Addr) (cap0 : Nat) (os : List OptD) (c : UInt8) (d : List UInt8) (w : World) (hA : SlR w noB 2 A0 os.length (optC os)) (hwt : wtO os + d.length + 1 ≤ 1099511627776) :
    Calls Tryz.prog 271 #[.slice A0 os.length cap0, .int .u8 (c.toNat : Int), .string (bs d)] w fun e w' =>
      ∃ A' cap', e = .returned (.slice A' (optAdd os c d).length cap') ∧ SlR w' (fun k => k < w.heap.size) 2 A' (optAdd os c d).length (optC (optAdd os c d)) ∧ Fr noB w w' := by
  have hlw := wtO_len os
  obtain ⟨i0, hi0, hz0, hz1, hz2⟩ := info_parts opt_info
  have hO0 : w.ownsRow w.heap.size 72 2 (.slice none 0 0) 0 [] := ⟨rfl, .inl ⟨rfl, rfl⟩⟩
  obtain ⟨n, hn⟩ : ∃ n, n = os.length := ⟨_, rfl⟩
  rw [← hn] at hA ⊢
  go_enter Tryz.func271, Tryz.ntmps271
  go_wp2_with (at_builtin
               go_must (refine wpList_app rfl (.const (.slice none 0 0)) (.tmp 9) _ rfl w.heap.size 72 i0 _ 2 24 Tryz.underlying73 hi0 hz0 hz1 hz2 rfl (by omega) none 0 0 _ rfl hO0 noB A0 n _ _ rfl hA optC_one (by unfold maxLen; omega) (by omega) (Nat.le_refl _) ?_)
               intro A cap w1 hap)
  have hO : w1.ownsRow w.heap.size 72 2 (.slice A n cap) n (optC os) := by have := hap.own; rwa [Nat.zero_add, List.nil_append] at this
  have hf1 : Fr noB w w1 := hap.fr.mono (by rintro b _ ⟨a, e, _⟩; cases e)
  clear hap hO0
  go_loopw [13] (fun iv wr => ∃ (i : Nat), i ≤ n ∧ iv = .int .i64 (i : Int) ∧ (∀ j o', j < i → os[j]? = some o' → o'.code ≠ c) ∧ wr = w1) (fun iv _ => n - (intOf iv).toNat)
  case atStart => exact ⟨0, by omega, rfl, fun j o' h => absurd h (by omega), rfl⟩
  case round =>
    obtain ⟨i, hi, rfl, ha, hw⟩ := hrel
    subst hw
    have hbw := hf1.size
    by_cases hlt : i < n
    · obtain ⟨o, ho⟩ : ∃ o, os[i]? = some o := ⟨_, List.getElem?_eq_getElem (by omega)⟩
      obtain ⟨g, rfl⟩ : ∃ g, A = some ⟨g, 0, none⟩ := by
        obtain ⟨A', cap', e, h1⟩ := own_slice hO
        cases e
        rcases h1 with rfl | ⟨g, rfl⟩
        · obtain ⟨_, ⟨h2, h3⟩ | ⟨g, _, _, h2, _⟩⟩ := hO
          · omega
          · cases h2
        · exact ⟨g, rfl⟩
      have c1 := own_at hO (optC_code os i o ho)
      have c2 := own_at hO (optC_data os i o ho)
      have f2 : ∀ x : Nat, wr.frozen? ⟨g, x, none⟩ = false := fun x => own_free hO
      have hol := wtO_at os i o ho
      have Ha := Lib.hid ha
      have Ho := Lib.hid ho
      clear ha ho
      by_cases he : o.code = c
      · subst he
        go_wp2_with fail
        go_ret
        rw [optAdd_at os i o o.code d Ho.out rfl Ha.out, List.length_set, ← hn]
        refine ⟨_, _, rfl, ?_, hf1.setCell (p := ⟨g, i * 2 + 1, none⟩) (fun h => absurd (own_base hO) (by simp at h; omega)) _⟩
        rw [← optC_set os i o _ Ho.out]; exact own_slrS (own_set hO (by omega)) (fun a e h => by have := own_blk hO a e; omega)
      · have hbi : ¬ (o.code.toNat : Int) = (c.toNat : Int) := fun e => he (UInt8.toNat.inj (by omega))
        have H1 : Hid (∀ j o', j < i + 1 → os[j]? = some o' → o'.code ≠ c) := Lib.hid (by
          intro j o' hj h2
          rcases Nat.lt_or_ge j i with h3 | h3
          · exact Ha.out j o' h3 h2
          · obtain rfl : j = i := by omega
            rw [Ho.out] at h2; cases h2; exact he)
        clear Ha he
        go_wp2_with fail
        exact ⟨⟨i + 1, by omega, by rw [Int.natCast_add]; rfl, H1.out, trivial⟩, by simp only [intOf]; omega⟩
    · obtain rfl : i = n := by omega
      subst hn
      have H1 : Hid _ := Lib.hid (optAdd_new os c d ha)
      clear ha
      have hsr : SlR (wr.alloc (.cells #[.int .u8 (c.toNat : Int), .string (bs d)] 72)) noB 2 (some ⟨wr.heap.size, 0, none⟩) 1 (optC [⟨c, d⟩]) :=
        SlR.of_bk (n := 1) (size := 2) (S := noB) (Bk.new wr 72 #[.int .u8 (c.toNat : Int), .string (bs d)]) (fun x => x) rfl
      have hO2 : (wr.alloc (.cells #[.int .u8 (c.toNat : Int), .string (bs d)] 72)).ownsRow w.heap.size 72 2 (.slice A os.length cap) os.length (optC os) :=
        own_keep hO (((Fr.refl noB wr).alloc _)) (fun _ _ x => x)
      go_wp2_with (at_builtin
                   go_must (refine wpList_app rfl (.tmp 34) (.tmp 38) _ rfl w.heap.size 72 i0 _ 2 24 Tryz.underlying73 hi0 hz0 hz1 hz2 rfl (by omega) A _ _ _ rfl hO2 noB _ 1 1 _ rfl hsr optC_one (by unfold maxLen; omega) (by omega) (by simp; omega) ?_)
                   intro A1 cap1 w2 hap)
      go_ret
      rw [H1.out]
      refine ⟨A1, cap1, ?_, ?_, (hf1.alloc _).trans' hap.fr ?_⟩
      · rw [List.length_append]; rfl
      · rw [List.length_append, optC_append]; exact own_slrS hap.own (fun a e h => by have := own_blk hap.own a e; omega)
      · rintro b hb ⟨a, e, rfl⟩
        exact absurd (own_blk hO a e) (by omega)
end Go.Proofs.YtcbkaiakdhiloabGreatDoor
namespace Go.Proofs.YtcbkaiakdhiloabGreatDoor
open Go.RowKit Go.Proofs
attribute [local go_sem] bs_size bs_append bs_extract bs_toList
theorem bootPutL (L : Lay) (s : St) (f : List UInt8) (w : World) (h : BootAt w L s) :
    Calls Tryz.prog 100 #[.pointer (some ⟨L.p, 0, none⟩), .string (bs f)] w (LPost L (s.put f).1 (.bool (s.put f).2) w) := by
  have c13 := h.g13
  have hrp := ringPut L.rx L.rxs s.c.rx s.rx f w h.ok.rx0 (by have := h.ok.rx1; omega) h.rx
  have Hrp := Lib.hid hrp
  obtain ⟨i, cs, hrr, hrg, hrs, hri, hql, hne, hso⟩ := id h.rx
  have Hql := Lib.hid hql
  clear hrp hrr hrg hrs hri hne hso hql i cs
  go_enter Tryz.func100, Tryz.ntmps100
  go_wp2_with fail
  refine Hrp.out.mono ?_
  rintro e w2 ⟨rfl, hr2, hf2⟩
  have hB2 := h.rxTurn hf2 hr2
  have hq := Hql.out
  go_wp2_with fail
  go_ret
  refine ⟨?_, ?_, (hf2.mono fun b _ hb => by rcases hb with rfl | rfl; exact own_rx L; exact own_rxs L)⟩
  · unfold St.put
    by_cases hfu : s.rx.length = s.c.rx
    · rw [if_pos hfu, decide_eq_false (by omega)]; rfl
    · rw [if_neg hfu, decide_eq_true (by omega)]; rfl
  · unfold St.put
    by_cases hfu : s.rx.length = s.c.rx
    · rw [if_pos hfu]; rw [if_neg (by omega)] at hB2; exact hB2
    · rw [if_neg hfu]; rw [if_pos (by omega)] at hB2; exact hB2
theorem bootTakeL (L : Lay) (s : St) (w : World) (h : BootAt w L s) :
    Calls Tryz.prog 49 #[.pointer (some ⟨L.p, 0, none⟩)] w (LPost L s.take.1 (.tuple #[.string (bs (s.take.2.getD [])), .bool s.take.2.isSome]) w) := by
  have c14 := h.g14
  have hrp := ringTake L.tx L.txs s.c.tx s.tx w h.ok.tx0 (by have := h.ok.tx1; omega) h.tx
  have Hrp := Lib.hid hrp
  clear hrp
  go_enter Tryz.func49, Tryz.ntmps49
  go_wp2_with fail
  refine Hrp.out.mono ?_
  rintro e w2 ⟨rfl, hr2, hf2⟩
  have hB2 := h.txTurn hf2 hr2
  go_wp2_with fail
  go_ret2
  refine ⟨?_, ?_, (hf2.mono fun b _ hb => by rcases hb with rfl | rfl; exact own_tx L; exact own_txs L)⟩
  · unfold St.take; cases s.tx <;> rfl
  · unfold St.take
    cases hq : s.tx with
    | nil => rw [hq] at hB2; have e : s = { s with tx := [] } := by { cases s; simp only at hq; subst hq; rfl }
             show BootAt w2 L s
             rw [e]; exact hB2
    | cons f r => rw [hq] at hB2; exact hB2
theorem bootLookN (L : Lay) (s : St) (w : World) (h : BootAt w L s) :
    Calls Tryz.prog 21 #[.pointer (some ⟨L.p, 0, none⟩)] w fun e w' => e = .returned (.agg #[.int .i64 s.now, .int .i64 (s.lease : Int), .int .i64 (s.phase : Int), .int .u32 (s.address : Int), .int .i64 s.boots, .int .i64 (s.image.length : Int), .int .i64 s.lost, .int .i64 (s.cache.length : Int)]) ∧ Fr noB w w' := by
  obtain ⟨g, hg⟩ : ∃ g, w.heap.size = g := ⟨_, rfl⟩
  have hf1 : Fr noB w (w.alloc (.cells #[.int .i64 0, .int .i64 0, .int .i64 0, .int .u32 0, .int .i64 0, .int .i64 0, .int .i64 0, .int .i64 0] 59)) := (Fr.refl _ _).alloc _
  have hB1 := h.none hf1
  have hg1 := Bk.new w 59 #[.int .i64 0, .int .i64 0, .int .i64 0, .int .u32 0, .int .i64 0, .int .i64 0, .int .i64 0, .int .i64 0]
  rw [hg] at hg1
  have Hg := Lib.hid hg
  clear hg
  go_enter Tryz.func21, Tryz.ntmps21
  go_upto_region 1 with fail
  rw [Hg.out]
  generalize w.alloc (.cells #[.int .i64 0, .int .i64 0, .int .i64 0, .int .u32 0, .int .i64 0, .int .i64 0, .int .i64 0, .int .i64 0] 59) = w1 at *
  refine wp_region_pls (by kernel_rfl) (fun w' => BootAt w' L s ∧ Bk w' g 59 #[.int .i64 0, .int .i64 0, .int .i64 0, .int .u32 0, .int .i64 0, .int .i64 0, .int .i64 0, .int .i64 0] ∧ Fr noB w w') [35] (.p 0 (.p 1 (.p 2 (.p 4 (.p 5 (.p 6 (.p 7 (.p 9 (.p 10 (.p 11 (.p 12 (.p 14 (.p 16 (.p 17 (.p 18 (.p 20 (.p 21 (.p 22 (.p 23 (.p 26 (.p 27 (.p 28 (.p 30 (.p 31 (.p 32 (.q 3 (.q 8 (.q 13 (.q 19 (.q 24 (.p 25 (.q 29 (.e 15 (.e 33 (.p 34 (.e 35 (.nil))))))))))))))))))))))))))))))))))))) (by kernel_rfl) (⟨hB1.drew, hg1.drew, hf1.drew⟩) ?_
  intro ops Q' hO hQ' wr1 hR1
  iterate 25 (refine pl_p0 hO rfl rfl ?_ (fun w' => ?_) ?_; rotate_left 1; (focus (go_simp; ((try with_reducible rfl); done))); simp only [Act.put, List.setIfInBounds_toArray, List.set_cons_zero, List.set_cons_succ])
  iterate 5 (refine pl_q0 hO rfl rfl ?_ (fun w' hS => ?_) ?_; rotate_left 1; (focus (obtain ⟨hB, hG, hF⟩ := hS; have c16 := hB.g16; have c18 := hB.g18; have c19 := hB.g19; have c21 := hB.g21; have c33 := hB.g33; have c44 := hB.g44; go_simp; ((try with_reducible rfl); done))); simp only [Act.put, List.setIfInBounds_toArray, List.set_cons_zero, List.set_cons_succ])
  refine pl_p0 hO rfl rfl ?_ (fun w' => ?_) ?_; rotate_left 1; (focus (go_simp; ((try with_reducible rfl); done))); simp only [Act.put, List.setIfInBounds_toArray, List.set_cons_zero, List.set_cons_succ]
  refine pl_q0 hO rfl rfl ?_ (fun w' hS => ?_) ?_; rotate_left 1; (focus (obtain ⟨hB, hG, hF⟩ := hS; have c16 := hB.g16; have c18 := hB.g18; have c19 := hB.g19; have c21 := hB.g21; have c33 := hB.g33; have c44 := hB.g44; go_simp; ((try with_reducible rfl); done))); simp only [Act.put, List.setIfInBounds_toArray, List.set_cons_zero, List.set_cons_succ]
  refine pl_e0 hO rfl rfl rfl (fun K hK => ?_)
  go_simp
  refine (bootAddress L s _ hR1.1).mono ?_
  rintro e w2 ⟨rfl, h2⟩
  subst h2
  refine hK _ _ (hR1) (fun hR_15 => ?_)
  clear hK K
  refine pl_e0 hO rfl rfl rfl (fun K hK => ?_)
  go_simp
  refine (cacheLen L.p 15 L.mp s.cache _ hR_15.1.g15 hR_15.1.mp hR_15.1.ok.cache).mono ?_
  rintro e w3 ⟨rfl, f3⟩
  refine hK _ _ (⟨hR_15.1.none f3, hR_15.2.1.keep f3 (fun x => x), hR_15.2.2.none f3⟩) (fun hR_33 => ?_)
  clear hK K
  refine pl_p0 hO rfl rfl ?_ (fun w' => ?_) ?_; rotate_left 1; (focus (go_simp; ((try with_reducible rfl); done))); simp only [Act.put, List.setIfInBounds_toArray, List.set_cons_zero, List.set_cons_succ]
  refine pl_b0 hO rfl rfl rfl (fun K hK => ?_)
  refine wp_store_bk 59 (.tmp 2) (.tmp 37) rfl g _ _ #[.int .i64 s.now, .int .i64 (s.lease : Int), .int .i64 (s.phase : Int), .int .u32 (s.address : Int), .int .i64 s.boots, .int .i64 (s.image.length : Int), .int .i64 s.lost, .int .i64 (s.cache.length : Int)] rfl rfl hR_33.2.1 rfl (by kernel_rfl) (by kernel_rfl) ?_
  intro w9 hx9 hf9
  refine hK _ _ ?_
  clear hK K
  refine pl_nil (hQ' _ _ ?_)
  go_wp2_with fail
  refine bodyPost_ret (results_cell_row Tryz.results21 _ w9 g _ _ _ _ rfl hx9 Tryz.underlying59 rfl (by kernel_rfl)) rfl ?_
  have hF9 : Fr noB w w9 := hR_33.2.2.trans' hf9 (fun b hb e => by have e' : b = g := e; have := Hg.out; omega)
  exact ⟨rfl, hF9⟩
end Go.Proofs.YtcbkaiakdhiloabGreatDoor
namespace Go.Proofs.YtcbkaiakdhiloabGreatDoor
open Go.RowKit Go.Proofs
def orB (p : Nat) (S : Nat → Prop) : Nat → Prop := fun k => k = p ∨ S k
def byPostW (S : Nat → Prop) (ok : Value → World → Prop) (bad : Int → Prop) (p : Nat) (w : World) (e : Ending) (w' : World) : Prop :=
  ((∃ x, ok x w' ∧ e = .returned x) ∨ (∃ er, bad er ∧ e = .panicked (faultC er))) ∧ Fr (orB p S) w w'
def readPostW (z : Value) (S : Nat → Prop) (ok : Value → World → Prop) (bad : Int → Prop) (w : World) (e : Ending) (w' : World) : Prop :=
  ((∃ x, ok x w' ∧ e = .returned (.tuple #[x, .int .i64 0])) ∨ (∃ er, bad er ∧ e = .returned (.tuple #[z, .int .i64 er]))) ∧ Fr S w w'
theorem results_int_int {P : Program} {fn : Func} {p q : Tmp} {ty te : TypeId} (h : fn.results = #[.cell p ty, .cell q te]) (tmps : Array Value) (w : World) (g ge : Nat) (t t2 : TypeId) (m n : Int) (k0 k : IntKind)
    (hp : tmps.getD p undef = .pointer (some ⟨g, 0, none⟩)) (hq : tmps.getD q undef = .pointer (some ⟨ge, 0, none⟩)) (hg : Bk w g t #[.int k0 m]) (he : Bk w ge t2 #[.int .i64 n])
    (hu : P.underlying ty = some (.int k0)) (hue : P.underlying te = some (.int k)) :
    (results fn tmps).run P w = .ok (.tuple #[.int k0 m, .int .i64 n]) w := by
  have hp' : tmps[p]?.getD undef = .pointer (some ⟨g, 0, none⟩) := by simpa using hp
  have hq' : tmps[q]?.getD undef = .pointer (some ⟨ge, 0, none⟩) := by simpa using hq
  have hc := he.cells
  have hc1 := hg.cells
  have h1 : (loadVar ty ⟨g, 0, none⟩).run P w = .ok (.int k0 m) w := by
    have hc0 := hc1 0
    simp at hc0
    simp [go_sem, isAgg, run_underlying hu, hc0]
  have h2 : (loadVar te ⟨ge, 0, none⟩).run P w = .ok (.int .i64 n) w := by
    have hc0 := hc 0
    simp at hc0
    simp [go_sem, isAgg, run_underlying hue, hc0]
  simp [results, h, hp', hq', asAddr, h1, h2]
end Go.Proofs.YtcbkaiakdhiloabGreatDoor
