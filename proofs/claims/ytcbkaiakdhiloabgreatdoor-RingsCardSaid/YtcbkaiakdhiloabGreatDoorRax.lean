/- Parts of the walk; written by programs, merged. -/
import Derived.Test.YtcbkaiakdhiloabGreatDoorRaw
set_option linter.unusedSimpArgs false
set_option linter.unusedVariables false
set_option maxRecDepth 20000
set_option maxHeartbeats 8000000
set_option maxRecDepth 20000
namespace Go.Proofs.YtcbkaiakdhiloabGreatDoor
open Go.RowKit Go.Proofs
attribute [local go_sem] bs_size bs_append bs_extract bs_toList
def nplF (u : Nat → Value) : Act := ⟨#[u 0, u 1, u 2, u 3, u 4, u 5, u 6, u 7, u 8, u 9, u 10, u 11, u 12, u 13, u 14, u 15, u 16, u 17, u 18, u 19, u 20, u 21, u 22, u 23, u 24, u 25, u 26, u 27, u 28, u 29, u 30, u 31, u 32, u 33, u 34, u 35, u 36, u 37, u 38, u 39, u 40, u 41], []⟩
set_option maxRecDepth 100000 in
theorem nplF_eq (u : Nat → Value) : nplF u = frN 42 u := rfl
theorem nplF_of {a : Act} (h : Sz 42 a) : a = nplF (sl a) := h.eq.trans (nplF_eq _).symm
theorem nplR0  (a : Act) (w : World) (K : KT) (hs : Sz 42 a)
     
    (hK : ∀ a' w', Sz 42 a' → Kp [0, 1, 5, 6] a a' → w' = w → K .normal a' w') :
    (regionOf Tryz.f105 0).wp Tryz.prog K a w := by
  refine rgE hK (nplF_of hs) fun HK => ?_; clear hK hs
  simp only [nplF]
  go_wp2_with fail
  exact HK.out _ _ ⟨rfl, rfl⟩ kk  rfl
theorem nplR1  (a : Act) (w : World) (K : KT) (hs : Sz 42 a)
     
    (hK : ∀ a' w', Sz 42 a' → Kp [0, 1, 4, 6] a a' → sl a' 5 = .int .i64 0 → w' = w → K .normal a' w') :
    (regionOf Tryz.f105 1).wp Tryz.prog K a w := by
  refine rgE hK (nplF_of hs) fun HK => ?_; clear hK hs
  simp only [nplF]
  go_wp2_with fail
  exact HK.out _ _ ⟨rfl, rfl⟩ kk (rfl) rfl
theorem nplR2a (k : Nat) (n : Int) (a : Act) (w : World) (K : KT) (hs : Sz 42 a)
    (h1 : sl a 1 = .int .i64 n) (h5 : sl a 5 = .int .i64 (k : Int)) (hk : ¬ (k : Int) < n)
    (hK : ∀ a' w', Sz 42 a' → Kp [0, 1, 4, 5, 6] a a' → sl a' 17 = .bool false → w' = w → K .normal a' w') :
    (regionOf Tryz.f105 2).wp Tryz.prog K a w := by
  refine rgE hK (nplF_of hs) fun HK => ?_; clear hK hs
  simp only [nplF, h1, h5]
  go_wp2_with fail
  exact HK.out _ _ ⟨rfl, rfl⟩ kk (rfl) rfl
theorem nplR2b (p T : Nat) (M : MLay) (s : St) (k : Nat) (n : Int) (a : Act) (w : World) (K : KT) (hs : Sz 42 a)
    (h0 : sl a 0 = .pointer (some ⟨p, 0, none⟩)) (h1 : sl a 1 = .int .i64 n) (h5 : sl a 5 = .int .i64 (k : Int)) (h : ModelAt w p T M s) (hk : (k : Int) < n)
    (hK : ∀ a' w', Sz 42 a' → Kp [0, 1, 4, 5, 6] a a' → sl a' 17 = .bool (decide (0 < s.rx.length)) → w' = w → K .normal a' w') :
    (regionOf Tryz.f105 2).wp Tryz.prog K a w := by
  refine rgE hK (nplF_of hs) fun HK => ?_; clear hK hs
  simp only [nplF, h0, h1, h5]
  have c14 := h.g14
  have e_ : decide ((0 : Int) < (s.rx.length : Int)) = decide (0 < s.rx.length) := decide_eq_decide.2 (by omega)
  go_wp2_with fail
  exact HK.out _ _ ⟨rfl, rfl⟩ kk (rfl) rfl
theorem nplR3 (p T : Nat) (M : MLay) (s : St) (f : List UInt8) (r : List (List UInt8)) (a : Act) (w : World) (K : KT) (hs : Sz 42 a)
    (h0 : sl a 0 = .pointer (some ⟨p, 0, none⟩)) (h : ModelAt w p T M s) (ht : s.rx = f :: r)
    (hK : ∀ a' w', Sz 42 a' → Kp [0, 1, 4, 5] a a' → sl a' 6 = .string (bs f) → w' = w → K .normal a' w') :
    (regionOf Tryz.f105 3).wp Tryz.prog K a w := by
  refine rgE hK (nplF_of hs) fun HK => ?_; clear hK hs
  simp only [nplF, h0]
  have c14 := h.g14
  have ow := h.rx
  rw [ht] at c14 ow
  obtain ⟨g, hA, hc, hat⟩ := own_some (n := r.length) ow
  rw [hA] at c14
  have q0 := hat 0 _ rfl
  clear hat ow
  go_wp2_with fail
  exact HK.out _ _ ⟨rfl, rfl⟩ kk (rfl) rfl
theorem nplR4a (p T : Nat) (M : MLay) (s : St) (f : List UInt8) (a : Act) (w : World) (K : KT) (hs : Sz 42 a)
    (h0 : sl a 0 = .pointer (some ⟨p, 0, none⟩)) (h : ModelAt w p T M s) (ht : s.rx = [f]) (hne : M.rxc = 1)
    (hK : ∀ a' w', Sz 42 a' → Kp [0, 1, 4, 5, 6] a a' → MNow p T M w { s with rx := [] } w' → K .normal a' w') :
    (regionOf Tryz.f105 4).wp Tryz.prog K a w := by
  refine rgE hK (nplF_of hs) fun HK => ?_; clear hK hs
  simp only [nplF, h0]
  have c14 := h.g14
  have hfz := h.fr
  have ow := h.rx
  rw [ht] at c14 ow
  obtain ⟨g, hA, hc, hat⟩ := own_some (n := 0) ow
  rw [hA, hne] at c14
  have q0 := hat 0 _ rfl
  clear hat ow
  obtain ⟨i0, hi, hz0, hz1, hz2⟩ := info_parts strInfo
  have hap : ∀ w, (Builtin.append_ #[54, 54] 54 #[.slice none 0 0, .slice (some ⟨g, 0, none⟩) 0 0]).run Tryz.prog w = .ok (.slice none 0 0) w := fun w => by
    simp [Builtin.append_, run_underlying Tryz.underlying54, sizeOf, typeInfo, hi, Builtin.lenOf, Builtin.firstCells, loadCells, loadCellsFrom]
  go_wp2_with fail
  have hq := h.rxTurn (q := []) (A := none) (c := 0) (Fr.refl _ _) (World.ownsRow_nil _ _ _ _) (fun b hb => by cases hb) (Nat.zero_le _)
  exact HK.out _ _ ⟨rfl, rfl⟩ kk  hq
theorem nplR4b (p T : Nat) (M : MLay) (s : St) (f : List UInt8) (r : List (List UInt8)) (a : Act) (w : World) (K : KT) (hs : Sz 42 a)
    (h0 : sl a 0 = .pointer (some ⟨p, 0, none⟩)) (h : ModelAt w p T M s) (ht : s.rx = f :: r) (hne : M.rxc ≠ 1)
    (hK : ∀ a' w', Sz 42 a' → Kp [0, 1, 4, 5, 6] a a' → MNow p T M w { s with rx := r } w' → K .normal a' w') :
    (regionOf Tryz.f105 4).wp Tryz.prog K a w := by
  refine rgE hK (nplF_of hs) fun HK => ?_; clear hK hs
  simp only [nplF, h0]
  have c14 := h.g14
  have ow := h.rx
  rw [ht] at c14 ow
  obtain ⟨g, hA, hc, hat⟩ := own_some (n := r.length) ow
  have htl := h.rxl
  have ht1 := h.ok.rx1
  rw [ht, List.length_cons] at htl
  rw [hA] at c14
  obtain ⟨i0, hi, hz0, hz1, hz2⟩ := info_parts strInfo
  have hat1 : ∀ j u, (strV r)[j]? = some u → w.cell? ((⟨g, 1, none⟩ : Addr).add j) = some u := fun j u hj => by
    have := hat (j + 1) u (by simpa [strV] using hj)
    rw [show (⟨g, 1, none⟩ : Addr).add j = ⟨g, j + 1, none⟩ by simp [Addr.add, Nat.add_comm]]
    exact this
  clear hat ow
  rw [List.length_cons] at c14
  go_wp2_with (at_builtin; refine wpList_append_own_at _ rfl _ _ 54 rfl 0 9 i0 (.string ⟨#[]⟩) 1 16 Tryz.underlying54 hi hz0 hz1 hz2 rfl (by decide) _ 0 [] rfl (World.ownsRow_nil _ _ _ _) ⟨g, 1, none⟩ r.length (M.rxc - 1) (strV r) rfl (by simp [strV]) hat1 (by simp [strV, Value.oneCell']) (by unfold maxLen; omega) (by omega) (Nat.zero_le _) ?_; intro v' w3 hown' hg3 hnil3 hbk3; obtain ⟨A', c', hv', hown2⟩ := own_cut0 hown'; subst hv'; have hf3 : Fr noB w w3 := (Fr.refl _ _).grown hg3 (fun g h _ => by cases h); have hB3 := h.none hf3; have cc := hB3.g14; have hfz := hB3.fr; skip)
  have hq := h.rxTurn (q := r) (A := A') (c := c') (hf3.of_no _) (by simpa using hown2) (fun b hb => by
    have hb1 := blk_sl (n := 0 + r.length) (c := c') hb
    rcases hbk3 with e | e
    · rw [e] at hb1; cases hb1
    · exact .inr (by rw [e] at hb1; injection hb1 with hb1; omega)) (by omega)
  exact HK.out _ _ ⟨rfl, rfl⟩ kk  hq
theorem nplR5 (i j : Nat) (a : Act) (w : World) (K : KT) (hs : Sz 42 a)
    (h5 : sl a 5 = .int .i64 (i : Int)) (q : IntKind.i64.wrap ((i : Int) + 1) = (j : Int))
    (hK : ∀ a' w', Sz 42 a' → Kp [0, 1, 4, 6] a a' → sl a' 5 = .int .i64 (j : Int) → w' = w → K .normal a' w') :
    (regionOf Tryz.f105 5).wp Tryz.prog K a w := by
  refine rgE hK (nplF_of hs) fun HK => ?_; clear hK hs
  simp only [nplF, h5]
  clear h5
  go_wp2_with fail
  exact HK.out _ _ ⟨rfl, rfl⟩ kk (rfl) rfl
theorem nplR6 (p T : Nat) (M : MLay) (s : St) (a : Act) (w : World) (K : KT) (hs : Sz 42 a)
    (h0 : sl a 0 = .pointer (some ⟨p, 0, none⟩)) (h : ModelAt w p T M s)
    (hK : ∀ a' w', Sz 42 a' → Kp [0, 1, 4, 5, 6] a a' → sl a' 37 = .bool (!s.over) → w' = w → K .normal a' w') :
    (regionOf Tryz.f105 6).wp Tryz.prog K a w := by
  refine rgE hK (nplF_of hs) fun HK => ?_; clear hK hs
  simp only [nplF, h0]
  go_wp2_with fail
  refine (modOver p T M s _ h).mono ?_
  rintro e w2 ⟨rfl, hw2⟩
  subst w2
  go_wp2_with fail
  exact HK.out _ _ ⟨rfl, rfl⟩ kk (rfl) rfl
theorem nplR7 (p T : Nat) (M : MLay) (s : St) (f : List UInt8) (u1 : St) (a : Act) (w : World) (K : KT) (hs : Sz 42 a)
    (h0 : sl a 0 = .pointer (some ⟨p, 0, none⟩)) (h6 : sl a 6 = .string (bs f)) (hc : Calls Tryz.prog 153 #[.pointer (some ⟨p, 0, none⟩), .string (bs f)] w fun e w' => e = .returned (.tuple #[]) ∧ MNow p T M w u1 w')
    (hK : ∀ a' w', Sz 42 a' → Kp [0, 1, 4, 5, 6] a a' → MNow p T M w u1 w' → K .normal a' w') :
    (regionOf Tryz.f105 7).wp Tryz.prog K a w := by
  refine rgE hK (nplF_of hs) fun HK => ?_; clear hK hs
  simp only [nplF, h0, h6]
  have Hcall := Lib.hid hc
  clear hc
  go_wp2_with fail
  refine Hcall.out.mono ?_
  rintro e w6 ⟨rfl, hN⟩
  go_wp2_with fail
  exact HK.out _ _ ⟨rfl, rfl⟩ kk  hN
theorem nplR8 (k : Nat) (a : Act) (w : World) (K : KT) (hs : Sz 42 a)
    (h5 : sl a 5 = .int .i64 (k : Int)) 
    (hK : ∀ a' w', Sz 42 a' → Kp [0, 1, 5, 6] a a' → sl a' 4 = .int .i64 (k : Int) → w' = w → K .normal a' w') :
    (regionOf Tryz.f105 8).wp Tryz.prog K a w := by
  refine rgE hK (nplF_of hs) fun HK => ?_; clear hK hs
  simp only [nplF, h5]
  go_wp2_with fail
  exact HK.out _ _ ⟨rfl, rfl⟩ kk (rfl) rfl
theorem nplR4 (p T : Nat) (M : MLay) (s : St) (f : List UInt8) (r : List (List UInt8)) (a : Act) (w : World) (K : KT) (hs : Sz 42 a) (h0 : sl a 0 = .pointer (some ⟨p, 0, none⟩)) (h : ModelAt w p T M s) (ht : s.rx = f :: r)
    (hK : ∀ a' w', Sz 42 a' → Kp [0, 1, 4, 5, 6] a a' → MNow p T M w { s with rx := r } w' → K .normal a' w') : (regionOf Tryz.f105 4).wp Tryz.prog K a w := by
  by_cases hne : M.rxc = 1
  · have hr : r = [] := by
      have ow := h.rx
      rw [ht] at ow
      obtain ⟨g, hA, hc, hat⟩ := own_some (n := r.length) ow
      cases r with
      | nil => rfl
      | cons x y => simp at hc; omega
    subst hr
    exact nplR4a p T M s f a w K hs h0 h ht hne hK
  · exact nplR4b p T M s f r a w K hs h0 h ht hne hK
theorem modPollG (p T : Nat) (Inv : St → Prop) (fr : St → List UInt8 → St) (hI : PollI Inv fr) (hF : ∀ (t : St) (f : List UInt8) (r : List (List UInt8)), Inv t → t.rx = f :: r → t.over = false → ∀ (M : MLay) (w : World), ModelAt w p T M { t with rx := r } → Calls Tryz.prog 153 #[.pointer (some ⟨p, 0, none⟩), .string (bs f)] w fun e w' => e = .returned (.tuple #[]) ∧ MNow p T M w (fr { t with rx := r } f) w')
    (M : MLay) (s : St) (n : Int) (hn : n ≤ 9223372036854775807) (w : World) (h : ModelAt w p T M s) (hi : Inv s) :
    Calls Tryz.prog 105 #[.pointer (some ⟨p, 0, none⟩), .int .i64 n] w (fun e w' => e = .returned (.int .i64 ((pollG fr n.toNat s 0).2 : Int)) ∧ MNow p T M w (pollG fr n.toNat s 0).1 w') := by
  go_enter Tryz.func105, Tryz.ntmps105
  refine wp_seq ?_
  refine nplR0 _ w _ ⟨rfl, rfl⟩ ?_
  intro a0 w0 hs0 k0 hw; subst w0
  refine wp_seq ?_
  refine nplR1 a0 w _ hs0 ?_
  intro a1 w1 hs1 k1 o5 hw; subst w1
  have e0 : sl a1 0 = .pointer (some ⟨p, 0, none⟩) := (k1 0 (by decide)).trans ((k0 0 (by decide)).trans rfl)
  have e1 : sl a1 1 = .int .i64 n := (k1 1 (by decide)).trans ((k0 1 (by decide)).trans rfl)
  clear k1 k0
  refine wp_seq (wp_block ?_)
  refine wp_loop_sz 42 (fun a' w' => ∃ (k m : Nat) (t : St), k + m = n.toNat ∧ sl a' 5 = .int .i64 (k : Int) ∧ Kp [0, 1] a1 a' ∧ MNow p T M w t w' ∧ Inv t ∧ pollG fr m t k = pollG fr n.toNat s 0) (fun a' _ => n.toNat - (intOf (sl a' 5)).toNat)
    hs1 ⟨0, n.toNat, s, by omega, o5, Kp.refl _ _, MNow.at_ h, hi, rfl⟩ ?_
  rintro b1 v1 hs1' ⟨k, m, t, hkm, i5, j1, hN, ht, hpf⟩
  have fin : ∀ b2 v2, Sz 42 b2 → Kp [0, 1, 5] b1 b2 → MNow p T M w (pollG fr n.toNat s 0).1 v2 → (pollG fr n.toNat s 0).2 = k → ((regionOf Tryz.f105 8).seq .ret).wp Tryz.prog (bodyPost Tryz.prog Tryz.f105 (fun e w' => e = .returned (.int .i64 ((pollG fr n.toNat s 0).2 : Int)) ∧ MNow p T M w (pollG fr n.toNat s 0).1 w')) b2 v2 := by
    intro b2 v2 hs2 j2 hN2 hk
    refine wp_seq ?_
    refine nplR8 k b2 v2 _ hs2 ((j2 5 (by decide)).trans i5) ?_
    intro b3 v3 hs3 j3 o4 hw; subst v3
    refine wp_ret ?_
    refine bodyPost_ret (results_tmp rfl _ _ _) hs3.defers ?_
    have hres : b3.tmps.getD 4 undef = .int .i64 ((pollG fr n.toNat s 0).2 : Int) := by rw [hk]; exact o4
    rw [hres]
    exact ⟨rfl, hN2⟩
  refine wp_seq (wp_seq ?_)
  obtain ⟨M1, om1, B1, F1⟩ := hN
  have z0 : sl b1 0 = .pointer (some ⟨p, 0, none⟩) := (j1 0 (by decide)).trans e0
  have z1 := (j1 1 (by decide)).trans e1
  by_cases hk : (k : Int) < n
  rotate_left
  · refine nplR2a k n b1 v1 _ hs1' z1 i5 hk ?_
    intro b2 v2 hs2 j2 i17 hw; subst v2
    refine wp_if i17 (fun hb => by cases hb) (fun _ => ?_)
    have hm0 : m = 0 := by omega
    subst hm0
    have hpf2 : pollG fr n.toNat s 0 = (t, k) := by rw [← hpf]; rfl
    refine wp_exit (then_exit (then_exit (inBlock_self ?_)))
    exact fin b2 v1 hs2 (fun x hx => j2 x (by revert hx; revert x; decide)) (by rw [hpf2]; exact ⟨M1, om1, B1, F1⟩) (by rw [hpf2])
  refine nplR2b p T M1 t k n b1 v1 _ hs1' z0 z1 i5 B1 hk ?_
  intro b2 v2 hs2 j2 i17 hw; subst v2
  have z0 := (j2 0 (by decide)).trans z0
  have i5' := (j2 5 (by decide)).trans i5
  refine wp_if i17 (fun hb => ?_) (fun hb => ?_)
  rotate_left
  · have hemp : t.rx = [] := List.eq_nil_of_length_eq_zero (by have := of_decide_eq_false hb; omega)
    refine wp_exit (then_exit (then_exit (inBlock_self ?_)))
    obtain ⟨m, rfl⟩ : ∃ m', m = m' + 1 := ⟨m - 1, by omega⟩
    have hpf2 : pollG fr n.toNat s 0 = (t, k) := by rw [← hpf]; unfold pollG; rw [hemp]
    exact fin b2 v1 hs2 (fun x hx => j2 x (by revert hx; revert x; decide)) (by rw [hpf2]; exact ⟨M1, om1, B1, F1⟩) (by rw [hpf2])
  obtain ⟨m, rfl⟩ : ∃ m', m = m' + 1 := ⟨m - 1, by omega⟩
  obtain ⟨f, r, hfr⟩ : ∃ f r, t.rx = f :: r := by
    cases hq : t.rx with
    | nil => rw [hq] at hb; cases of_decide_eq_true hb
    | cons f r => exact ⟨f, r, rfl⟩
  have hstep : pollG fr m (if t.over then { t with rx := r } else fr { t with rx := r } f) (k + 1) = pollG fr n.toNat s 0 := by rw [← hpf]; conv => rhs; unfold pollG; rw [hfr]
  refine wp_skip ?_
  refine wp_block (wp_seq ?_)
  refine nplR3 p T M1 t f r b2 v1 _ hs2 z0 B1 hfr ?_
  intro b3 v3 hs3 j3 i6 hw; subst v3
  have z0 := (j3 0 (by decide)).trans z0
  have i5' := (j3 5 (by decide)).trans i5'
  refine wp_seq ?_
  refine nplR4 p T M1 t f r b3 v1 _ hs3 z0 B1 hfr ?_
  intro b4 v4 hs4 j4 hN4
  obtain ⟨M4, om4, B4, F4⟩ := hN4
  have z0 := (j4 0 (by decide)).trans z0
  have i5' := (j4 5 (by decide)).trans i5'
  have i6 := (j4 6 (by decide)).trans i6
  refine wp_seq ?_
  refine nplR5 k (k + 1) b4 v4 _ hs4 i5' ((IntWalk.i64_in _ (by omega)).trans (by omega)) ?_
  intro b5 v5 hs5 j5 i5n hw; subst v5
  have z0 := (j5 0 (by decide)).trans z0
  have i6 := (j5 6 (by decide)).trans i6
  have j15 : Kp [0, 1] a1 b5 := fun x hx => (j5 x (by revert hx; revert x; decide)).trans ((j4 x (by revert hx; revert x; decide)).trans ((j3 x (by revert hx; revert x; decide)).trans ((j2 x (by revert hx; revert x; decide)).trans (j1 x hx))))
  refine wp_seq ?_
  refine nplR6 p T M4 _ b5 v4 _ hs5 z0 B4 ?_
  intro b6 v6 hs6 j6 i37 hw; subst v6
  have z0 := (j6 0 (by decide)).trans z0
  have i5n := (j6 5 (by decide)).trans i5n
  have i6 := (j6 6 (by decide)).trans i6
  have hov : ({ t with rx := r } : St).over = t.over := rfl
  rw [hov] at i37
  refine wp_if i37 (fun hb => ?_) (fun hb => ?_)
  · have hnov : t.over = false := by simpa using hb
    rw [hnov] at hstep
    refine nplR7 p T M4 { t with rx := r } f _ b6 v4 _ hs6 z0 i6 (hF t f r ht hfr hnov M4 v4 B4) ?_
    intro b7 v7 hs7 j7 hN7
    have i5n := (j7 5 (by decide)).trans i5n
    refine ⟨hs7, ⟨k + 1, m, _, by omega, i5n, fun x hx => (j7 x (by revert hx; revert x; decide)).trans ((j6 x (by revert hx; revert x; decide)).trans (j15 x hx)), MNow.comp om1 F1 (MNow.comp om4 F4 hN7), hI.go t f r ht hfr hnov, hstep⟩, ?_⟩
    rw [i5n, i5]; simp only [intOf]; omega
  · have hyov : t.over = true := by simpa using hb
    rw [hyov] at hstep
    refine wp_skip ?_
    refine ⟨hs6, ⟨k + 1, m, _, by omega, i5n, fun x hx => (j6 x (by revert hx; revert x; decide)).trans (j15 x hx), MNow.comp om1 F1 ⟨M4, om4, B4, F4⟩, hI.over t f r ht hfr hyov, hstep⟩, ?_⟩
    rw [i5n, i5]; simp only [intOf]; omega
end Go.Proofs.YtcbkaiakdhiloabGreatDoor
namespace Go.Proofs.YtcbkaiakdhiloabGreatDoor
open Go.RowKit Go.Proofs
attribute [local go_sem] bs_size bs_append bs_extract bs_toList
theorem inBlock_otherG {id j : Nat} {Q : Exit → Act → World → Prop} {a : Act} {w : World} (hne : j ≠ id) (h : Q (.exit j) a w) : Exit.inBlock id Q (.exit j) a w := by
  simp only [Exit.inBlock, if_neg hne]; exact h
def plgF (u : Nat → Value) : Act := ⟨#[u 0, u 1, u 2, u 3, u 4, u 5, u 6, u 7, u 8, u 9, u 10, u 11, u 12, u 13, u 14, u 15, u 16, u 17, u 18, u 19, u 20, u 21, u 22, u 23, u 24, u 25, u 26, u 27, u 28, u 29], []⟩
set_option maxRecDepth 100000 in
theorem plgF_eq (u : Nat → Value) : plgF u = frN 30 u := rfl
theorem plgF_of {a : Act} (h : Sz 30 a) : a = plgF (sl a) := h.eq.trans (plgF_eq _).symm
theorem plgR0  (a : Act) (w : World) (K : KT) (hs : Sz 30 a)
     
    (hK : ∀ a' w', Sz 30 a' → Kp [0, 1, 5, 6, 7] a a' → w' = w → K .normal a' w') :
    (regionOf Tryz.f104 0).wp Tryz.prog K a w := by
  refine rgE hK (plgF_of hs) fun HK => ?_; clear hK hs
  simp only [plgF]
  go_wp2_with fail
  exact HK.out _ _ ⟨rfl, rfl⟩ kk  rfl
theorem plgR1  (a : Act) (w : World) (K : KT) (hs : Sz 30 a)
     
    (hK : ∀ a' w', Sz 30 a' → Kp [0, 1, 4, 6, 7] a a' → sl a' 5 = .int .i64 0 → w' = w → K .normal a' w') :
    (regionOf Tryz.f104 1).wp Tryz.prog K a w := by
  refine rgE hK (plgF_of hs) fun HK => ?_; clear hK hs
  simp only [plgF]
  go_wp2_with fail
  exact HK.out _ _ ⟨rfl, rfl⟩ kk (rfl) rfl
theorem plgR2 (k : Nat) (n : Int) (a : Act) (w : World) (K : KT) (hs : Sz 30 a)
    (h1 : sl a 1 = .int .i64 n) (h5 : sl a 5 = .int .i64 (k : Int)) 
    (hK : ∀ a' w', Sz 30 a' → Kp [0, 1, 4, 5, 6, 7] a a' → sl a' 10 = .bool (decide ((k : Int) < n)) → w' = w → K .normal a' w') :
    (regionOf Tryz.f104 2).wp Tryz.prog K a w := by
  refine rgE hK (plgF_of hs) fun HK => ?_; clear hK hs
  simp only [plgF, h1, h5]
  go_wp2_with fail
  exact HK.out _ _ ⟨rfl, rfl⟩ kk (rfl) rfl
theorem plgR4 (L : Lay) (s : St) (a : Act) (w : World) (K : KT) (hs : Sz 30 a)
    (h0 : sl a 0 = .pointer (some ⟨L.p, 0, none⟩)) (h : BootAt w L s)
    (hK : ∀ a' w', Sz 30 a' → Kp [0, 1, 4, 5] a a' → sl a' 6 = .string (bs (s.rx.head?.getD [])) → sl a' 7 = .bool (!s.rx.isEmpty) → BootAt w' L { s with rx := s.rx.tail } → Fr (own' L) w w' → K .normal a' w') :
    (regionOf Tryz.f104 4).wp Tryz.prog K a w := by
  refine rgE hK (plgF_of hs) fun HK => ?_; clear hK hs
  simp only [plgF, h0]
  have c13 := h.g13
  have hcall := ringTake L.rx L.rxs s.c.rx s.rx w h.ok.rx0 (by have := h.ok.rx1; omega) h.rx
  have Hcall := Lib.hid hcall
  clear hcall
  go_wp2_with fail
  refine Hcall.out.mono ?_
  rintro e w2 ⟨rfl, hr2, hf2⟩
  go_wp2_with fail
  exact HK.out _ _ ⟨rfl, rfl⟩ kk (rfl) (rfl) (h.rxTurn hf2 hr2) (hf2.mono fun b _ hb => by rcases hb with rfl | rfl; exact own_rx L; exact own_rxs L)
theorem plgR5 (b : Bool) (a : Act) (w : World) (K : KT) (hs : Sz 30 a)
    (h7 : sl a 7 = .bool b) 
    (hK : ∀ a' w', Sz 30 a' → Kp [0, 1, 4, 5, 6, 7] a a' → sl a' 22 = .bool (!b) → w' = w → K .normal a' w') :
    (regionOf Tryz.f104 5).wp Tryz.prog K a w := by
  refine rgE hK (plgF_of hs) fun HK => ?_; clear hK hs
  simp only [plgF, h7]
  go_wp2_with fail
  exact HK.out _ _ ⟨rfl, rfl⟩ kk (rfl) rfl
theorem plgR6 (L : Lay) (s : St) (a : Act) (w : World) (K : KT) (hs : Sz 30 a)
    (h0 : sl a 0 = .pointer (some ⟨L.p, 0, none⟩)) (h : BootAt w L s)
    (hK : ∀ a' w', Sz 30 a' → Kp [0, 1, 4, 5, 6, 7] a a' → sl a' 25 = .bool (!s.over) → w' = w → K .normal a' w') :
    (regionOf Tryz.f104 6).wp Tryz.prog K a w := by
  refine rgE hK (plgF_of hs) fun HK => ?_; clear hK hs
  simp only [plgF, h0]
  go_wp2_with fail
  refine (bootOver L s _ h).mono ?_
  rintro e w2 ⟨rfl, rfl⟩
  go_wp2_with fail
  exact HK.out _ _ ⟨rfl, rfl⟩ kk (rfl) rfl
theorem plgR7 (L : Lay) (s : St) (f : List UInt8) (u1 : St) (a : Act) (w : World) (K : KT) (hs : Sz 30 a)
    (h0 : sl a 0 = .pointer (some ⟨L.p, 0, none⟩)) (h6 : sl a 6 = .string (bs f)) (h : BootAt w L s) (hc : Calls Tryz.prog 152 #[.pointer (some ⟨L.p, 0, none⟩), .string (bs f)] w (LPost2 L u1 (.tuple #[]) w))
    (hK : ∀ a' w', Sz 30 a' → Kp [0, 1, 4, 5, 6, 7] a a' → Now L w u1 w' → K .normal a' w') :
    (regionOf Tryz.f104 7).wp Tryz.prog K a w := by
  refine rgE hK (plgF_of hs) fun HK => ?_; clear hK hs
  simp only [plgF, h0, h6]
  have Hcall := Lib.hid hc
  clear hc
  go_wp2_with fail
  refine Hcall.out.mono ?_
  intro e w6 hp6
  obtain ⟨rfl, hp6⟩ := hp6
  go_wp2_with fail
  exact HK.out _ _ ⟨rfl, rfl⟩ kk  hp6
theorem plgR3 (i j : Nat) (a : Act) (w : World) (K : KT) (hs : Sz 30 a)
    (h5 : sl a 5 = .int .i64 (i : Int)) (q : IntKind.i64.wrap ((i : Int) + 1) = (j : Int))
    (hK : ∀ a' w', Sz 30 a' → Kp [0, 1, 4, 6, 7] a a' → sl a' 5 = .int .i64 (j : Int) → w' = w → K .normal a' w') :
    (regionOf Tryz.f104 3).wp Tryz.prog K a w := by
  refine rgE hK (plgF_of hs) fun HK => ?_; clear hK hs
  simp only [plgF, h5]
  clear h5
  go_wp2_with fail
  exact HK.out _ _ ⟨rfl, rfl⟩ kk (rfl) rfl
theorem plgR8 (k : Nat) (a : Act) (w : World) (K : KT) (hs : Sz 30 a)
    (h5 : sl a 5 = .int .i64 (k : Int)) 
    (hK : ∀ a' w', Sz 30 a' → Kp [0, 1, 5, 6, 7] a a' → sl a' 4 = .int .i64 (k : Int) → w' = w → K .normal a' w') :
    (regionOf Tryz.f104 8).wp Tryz.prog K a w := by
  refine rgE hK (plgF_of hs) fun HK => ?_; clear hK hs
  simp only [plgF, h5]
  go_wp2_with fail
  exact HK.out _ _ ⟨rfl, rfl⟩ kk (rfl) rfl
theorem bootPollG (Inv : St → Prop) (fr : St → List UInt8 → St) (hI : PollI Inv fr) (hF : ∀ (t : St) (f : List UInt8) (r : List (List UInt8)), Inv t → t.rx = f :: r → t.over = false → ∀ (L : Lay) (w : World), BootAt w L { t with rx := r } → Calls Tryz.prog 152 #[.pointer (some ⟨L.p, 0, none⟩), .string (bs f)] w (LPost2 L (fr { t with rx := r } f) (.tuple #[]) w)) (L : Lay) (s : St) (n : Int) (hn : n ≤ 9223372036854775807) (w : World) (h : BootAt w L s) (hi : Inv s) :
    Calls Tryz.prog 104 #[.pointer (some ⟨L.p, 0, none⟩), .int .i64 n] w (LPost2 L (pollG fr n.toNat s 0).1 (.int .i64 ((pollG fr n.toNat s 0).2 : Int)) w) := by
  go_enter Tryz.func104, Tryz.ntmps104
  refine wp_seq ?_
  refine plgR0 _ w _ ⟨rfl, rfl⟩ ?_
  intro a0 w0 hs0 k0 hw; subst hw
  refine wp_seq ?_
  refine plgR1 a0 w0 _ hs0 ?_
  intro a1 w1 hs1 k1 o5 hw; subst hw
  have e0 : sl a1 0 = .pointer (some ⟨L.p, 0, none⟩) := (k1 0 (by decide)).trans ((k0 0 (by decide)).trans rfl)
  have e1 : sl a1 1 = .int .i64 n := (k1 1 (by decide)).trans ((k0 1 (by decide)).trans rfl)
  clear k1 k0
  refine wp_seq (wp_block ?_)
  refine wp_loop_sz 30 (fun a' w' => ∃ (k m : Nat) (t : St), k + m = n.toNat ∧ sl a' 5 = .int .i64 (k : Int) ∧ Kp [0, 1] a1 a' ∧ Now L w1 t w' ∧ Inv t ∧ pollG fr m t k = pollG fr n.toNat s 0) (fun a' _ => n.toNat - (intOf (sl a' 5)).toNat)
    hs1 ⟨0, n.toNat, s, by omega, o5, Kp.refl _ _, ⟨L, rfl, fun _ x => .inl x, h, Fr.refl _ _⟩, hi, rfl⟩ ?_
  rintro b1 v1 hs1' ⟨k, m, t, hkm, i5, j1, hN, ht, hpf⟩
  have fin : ∀ b2 v2, Sz 30 b2 → Kp [0, 1, 5] b1 b2 → Now L w1 (pollG fr n.toNat s 0).1 v2 → (pollG fr n.toNat s 0).2 = k → ((regionOf Tryz.f104 8).seq .ret).wp Tryz.prog (bodyPost Tryz.prog Tryz.f104 (LPost2 L (pollG fr n.toNat s 0).1 (.int .i64 ((pollG fr n.toNat s 0).2 : Int)) w1)) b2 v2 := by
    intro b2 v2 hs2 j2 hN2 hk
    refine wp_seq ?_
    refine plgR8 k b2 v2 _ hs2 ((j2 5 (by decide)).trans i5) ?_
    intro b3 v3 hs3 j3 o4 hw; subst hw
    refine wp_ret ?_
    refine bodyPost_ret (results_tmp rfl _ _ _) hs3.defers ?_
    have hres : b3.tmps.getD 4 undef = .int .i64 ((pollG fr n.toNat s 0).2 : Int) := by rw [hk]; exact o4
    rw [hres]
    exact hN2.lpost
  refine wp_seq (wp_seq ?_)
  refine plgR2 k n b1 v1 _ hs1' ((j1 1 (by decide)).trans e1) i5 ?_
  intro b2 v2 hs2' j2 i10 hw; subst hw
  refine wp_if i10 (fun hb => ?_) (fun hb => ?_)
  · have hlt := of_decide_eq_true hb
    obtain ⟨m, rfl⟩ : ∃ m', m = m' + 1 := ⟨m - 1, by omega⟩
    refine wp_skip ?_
    refine wp_seq (wp_block (wp_seq ?_))
    obtain ⟨L1, p1, ow1, B1, F1⟩ := hN
    have z0 : sl b2 0 = .pointer (some ⟨L1.p, 0, none⟩) := (j2 0 (by decide)).trans ((j1 0 (by decide)).trans (by rw [p1]; exact e0))
    refine plgR4 L1 t b2 v2 _ hs2' z0 B1 ?_
    intro b3 v3 hs3' j3 i6 i7 B3 F3
    have z0 := (j3 0 (by decide)).trans z0
    have i5' := (j3 5 (by decide)).trans ((j2 5 (by decide)).trans i5)
    refine wp_seq (wp_seq ?_)
    refine plgR5 _ b3 v3 _ hs3' i7 ?_
    intro b4 v4 hs4' j4 i22 hw; subst hw
    have z0 := (j4 0 (by decide)).trans z0
    have i5' := (j4 5 (by decide)).trans i5'
    refine wp_if i22 (fun hb => ?_) (fun hb => ?_)
    · have hemp : t.rx = [] := by simpa using hb
      refine wp_exit (then_exit (inBlock_otherG (by decide) (then_exit (then_exit (inBlock_self ?_)))))
      have hpf2 : pollG fr n.toNat s 0 = (t, k) := by rw [← hpf]; unfold pollG; rw [hemp]
      refine fin b4 v4 hs4' (fun x hx => (j4 x (by revert hx; revert x; decide)).trans ((j3 x (by revert hx; revert x; decide)).trans (j2 x (by revert hx; revert x; decide)))) ?_ (by rw [hpf2])
      rw [hpf2]
      have het : ({ t with rx := t.rx.tail } : St) = t := by rw [hemp]; obtain ⟨c, rx⟩ := t; simp only at hemp; subst hemp; rfl
      rw [het] at B3
      exact Now.comp p1 ow1 F1 ⟨L1, rfl, fun _ x => .inl x, B3, F3⟩
    · obtain ⟨f, r, hfr⟩ : ∃ f r, t.rx = f :: r := by
        cases hq : t.rx with
        | nil => rw [hq] at hb; cases hb
        | cons f r => exact ⟨f, r, rfl⟩
      rw [hfr] at B3 i6
      have B3 : BootAt _ L1 { t with rx := r } := B3
      have hstep : pollG fr m (if t.over then { t with rx := r } else fr { t with rx := r } f) (k + 1) = pollG fr n.toNat s 0 := by rw [← hpf]; conv => rhs; unfold pollG; rw [hfr]
      refine wp_skip ?_
      refine wp_seq ?_
      refine plgR6 L1 _ b4 v4 _ hs4' z0 B3 ?_
      intro b5 v5 hs5' j5 i25 hw; subst hw
      have z0 := (j5 0 (by decide)).trans z0
      have i5' := (j5 5 (by decide)).trans i5'
      have last : ∀ b6 v6 (t' : St), Sz 30 b6 → Kp [0, 1, 5] b5 b6 → Now L w1 t' v6 → Inv t' → pollG fr m t' (k + 1) = pollG fr n.toNat s 0 → (regionOf Tryz.f104 3).wp Tryz.prog (Exit.then (fun a' w' => Sz 30 a' ∧ (∃ (k m : Nat) (t : St), k + m = n.toNat ∧ sl a' 5 = .int .i64 (k : Int) ∧ Kp [0, 1] a1 a' ∧ Now L w1 t w' ∧ Inv t ∧ pollG fr m t k = pollG fr n.toNat s 0) ∧ n.toNat - (intOf (sl a' 5)).toNat < n.toNat - (intOf (sl b1 5)).toNat) (Exit.inBlock 0 (Exit.then (((regionOf Tryz.f104 8).seq .ret).wp Tryz.prog (bodyPost Tryz.prog Tryz.f104 (LPost2 L (pollG fr n.toNat s 0).1 (.int .i64 ((pollG fr n.toNat s 0).2 : Int)) w1))) (bodyPost Tryz.prog Tryz.f104 (LPost2 L (pollG fr n.toNat s 0).1 (.int .i64 ((pollG fr n.toNat s 0).2 : Int)) w1))))) b6 v6 := by
        intro b6 v6 t' hs6 j6 hN6 hi6 hp6
        refine plgR3 k (k + 1) b6 v6 _ hs6 ((j6 5 (by decide)).trans i5') ((IntWalk.i64_in _ (by omega)).trans (by omega)) ?_
        intro b7 v7 hs7 j7 i5n hw; subst hw
        refine ⟨hs7, ⟨k + 1, m, t', by omega, i5n, fun x hx => (j7 x (by revert hx; revert x; decide)).trans ((j6 x (by revert hx; revert x; decide)).trans ((j5 x (by revert hx; revert x; decide)).trans ((j4 x (by revert hx; revert x; decide)).trans ((j3 x (by revert hx; revert x; decide)).trans ((j2 x (by revert hx; revert x; decide)).trans (j1 x hx)))))), hN6, hi6, hp6⟩, ?_⟩
        rw [i5n, i5]; simp only [intOf]; omega
      have hov : ({ t with rx := r } : St).over = t.over := rfl
      rw [hov] at i25
      refine wp_if i25 (fun hb => ?_) (fun hb => ?_)
      · have hnov : t.over = false := by simpa using hb
        rw [hnov] at hstep
        refine plgR7 L1 _ f _ b5 v5 _ hs5' z0 ((j5 6 (by decide)).trans ((j4 6 (by decide)).trans i6)) B3 (hF t f r ht hfr hnov L1 _ B3) ?_
        intro b6 v6 hs6' j6 hN6
        refine last b6 v6 _ hs6' (fun x hx => j6 x (by revert hx; revert x; decide)) (Now.comp p1 ow1 F1 (Now.comp rfl (fun _ h => .inl h) F3 hN6)) (hI.go t f r ht hfr hnov) hstep
      · have hyov : t.over = true := by simpa using hb
        rw [hyov] at hstep
        exact wp_skip (last b5 v5 _ hs5' (Kp.refl _ _) (Now.comp p1 ow1 F1 ⟨L1, rfl, fun _ x => .inl x, B3, F3⟩) (hI.over t f r ht hfr hyov) hstep)
  · have hge := of_decide_eq_false hb
    have hm0 : m = 0 := by omega
    subst hm0
    have hpf2 : pollG fr n.toNat s 0 = (t, k) := by rw [← hpf]; rfl
    refine wp_exit (then_exit (then_exit (inBlock_self ?_)))
    exact fin b2 v2 hs2' (fun x hx => j2 x (by revert hx; revert x; decide)) (by rw [hpf2]; exact hN) (by rw [hpf2])
end Go.Proofs.YtcbkaiakdhiloabGreatDoor
set_option maxRecDepth 20000
namespace Go.Proofs.YtcbkaiakdhiloabGreatDoor
open Go.RowKit Go.Proofs
attribute [local go_sem] bs_size bs_append bs_extract bs_toList
theorem frgR6_0 (L : Lay) (s : St) (x : EthD) (g : Nat) (v t2 : Nat) (s1 : St) (a : Act) (w : World) (K : KT) (hs : Sz 51 a)
    (h0 : sl a 0 = .pointer (some ⟨L.p, 0, none⟩)) (h4 : sl a 4 = .pointer (some ⟨g, 0, none⟩)) (h7 : sl a 7 = .pointer (some ⟨v, 0, none⟩)) (h : BootAt w L s) (hG : Bk w g 27 (ethC x)) (hV : Bk w v t2 #[.int .u16 2054, .func (.func 178) #[] #[]]) (hc : Calls Tryz.prog 178 #[.pointer (some ⟨L.p, 0, none⟩), .string (bs x.by')] w (LPost2 L s1 (.tuple #[]) w))
    (hK : ∀ a' w', Sz 51 a' → Kp [0, 4, 5, 33, 34, 35, 7] a a' → (∃ L' : Lay, L'.p = L.p ∧ (∀ b, own' L' b → own' L b ∨ w.heap.size ≤ b) ∧ BootAt w' L' (s1) ∧ Fr (own' L) w w') → K .normal a' w') :
    (regionOf Tryz.f152 6).wp Tryz.prog K a w := by
  refine rgE hK (frF_of hs) fun HK => ?_; clear hK hs
  simp only [frF, h0, h4, h7]
  have hVc := hV.cells
  have hGc := hG.cells
  unfold ethC at hGc
  have Hcall := Lib.hid hc
  clear hc
  go_wp2_with fail
  refine Hcall.out.mono ?_
  intro e w6 hp6
  obtain ⟨rfl, hp6⟩ := hp6
  go_wp2_with fail
  exact HK.out _ _ ⟨rfl, rfl⟩ kk  hp6
theorem frgR6_1 (L : Lay) (s : St) (x : EthD) (g : Nat) (v t2 : Nat) (s1 : St) (a : Act) (w : World) (K : KT) (hs : Sz 51 a)
    (h0 : sl a 0 = .pointer (some ⟨L.p, 0, none⟩)) (h4 : sl a 4 = .pointer (some ⟨g, 0, none⟩)) (h7 : sl a 7 = .pointer (some ⟨v, 0, none⟩)) (h : BootAt w L s) (hG : Bk w g 27 (ethC x)) (hV : Bk w v t2 #[.int .u16 2048, .func (.func 179) #[] #[]]) (hc : Calls Tryz.prog 179 #[.pointer (some ⟨L.p, 0, none⟩), .string (bs x.by')] w (LPost2 L s1 (.tuple #[]) w))
    (hK : ∀ a' w', Sz 51 a' → Kp [0, 4, 5, 33, 34, 35, 7] a a' → (∃ L' : Lay, L'.p = L.p ∧ (∀ b, own' L' b → own' L b ∨ w.heap.size ≤ b) ∧ BootAt w' L' (s1) ∧ Fr (own' L) w w') → K .normal a' w') :
    (regionOf Tryz.f152 6).wp Tryz.prog K a w := by
  refine rgE hK (frF_of hs) fun HK => ?_; clear hK hs
  simp only [frF, h0, h4, h7]
  have hVc := hV.cells
  have hGc := hG.cells
  unfold ethC at hGc
  have Hcall := Lib.hid hc
  clear hc
  go_wp2_with fail
  refine Hcall.out.mono ?_
  intro e w6 hp6
  obtain ⟨rfl, hp6⟩ := hp6
  go_wp2_with fail
  exact HK.out _ _ ⟨rfl, rfl⟩ kk  hp6
def frSg (sN sD : List UInt8 → St) (s : St) (x : EthD) : Nat → St
  | 0 => s
  | 1 => if x.ty = 2054 then sN x.by' else s
  | _ => if x.ty = 2054 then sN x.by' else if x.ty = 2048 then sD x.by' else s
theorem bootFrameG (L : Lay) (s : St) (ld : List UInt8) (w : World) (h : BootAt w L s) (hld : ld.length ≤ 1048576) (sN sD : List UInt8 → St)
    (cN : ∀ (ld : List UInt8) (L : Lay) (w : World), BootAt w L s → ld.length ≤ 1048576 → Calls Tryz.prog 178 #[.pointer (some ⟨L.p, 0, none⟩), .string (bs ld)] w (LPost2 L (sN ld) (.tuple #[]) w))
    (cD : ∀ (ld : List UInt8) (L : Lay) (w : World), BootAt w L s → ld.length ≤ 1048576 → Calls Tryz.prog 179 #[.pointer (some ⟨L.p, 0, none⟩), .string (bs ld)] w (LPost2 L (sD ld) (.tuple #[]) w)) :
    Calls Tryz.prog 152 #[.pointer (some ⟨L.p, 0, none⟩), .string (bs ld)] w (LPost2 L (if (readEther ld).2 ≠ 0 ∨ ((readEther ld).1.«to» ≠ s.c.card ∧ (readEther ld).1.«to» ≠ aMac) then s else if (readEther ld).1.ty = 2054 then sN (readEther ld).1.by' else if (readEther ld).1.ty = 2048 then sD (readEther ld).1.by' else s) (.tuple #[]) w) := by
  have hin := readEther_in ld
  go_enter Tryz.func152, Tryz.ntmps152
  refine wp_seq ?_
  refine frR0 ld _ w _ ⟨rfl, rfl⟩ rfl (by omega) ?_
  intro a1 w1 g hs1 k1 o4 o5 hf1 hG1 hgs
  have e0 : sl a1 0 = .pointer (some ⟨L.p, 0, none⟩) := (k1 0 (by decide)).trans rfl
  clear k1
  have h1 := h.none hf1
  generalize readEther ld = r at *
  obtain ⟨x, k⟩ := r
  dsimp only at hin o5 hG1 ⊢
  obtain ⟨hi1, hi2⟩ := hin
  refine wp_seq (wp_seq ?_)
  refine frR1 L s x g k a1 w1 _ hs1 e0 o4 o5 h1 hG1 ?_
  intro a2 w2 hs2 k2 o30 h2 hG2 hf2
  have f02 := hf1.none hf2
  have e0 := (k2 0 (by decide)).trans e0
  have e4 := (k2 4 (by decide)).trans o4
  refine wp_if o30 (fun hb => ?_) (fun hb => ?_)
  · rw [if_pos (of_decide_eq_true hb)]
    exact wp_ret (bodyPost_ret (results_none rfl _ _ _) hs2.defers (LPost.two ⟨rfl, h2, f02.of_no _⟩))
  rw [if_neg (of_decide_eq_false hb)]
  refine wp_skip ?_
  refine wp_seq ?_
  refine frR2 a2 w2 _ hs2 ?_
  intro a3 w3 q t hs3 k3 o33 o34 o35 hf3 hQ3 hq1 hq2
  have h3 := h2.none hf3
  have hG3 := hG2.keep hf3 (fun x => x)
  have f03 := f02.none hf3
  have e0 := (k3 0 (by decide)).trans e0
  have e4 := (k3 4 (by decide)).trans e4
  have hgn : ¬ own' L g := fun hx => by have := h.lt g hx; omega
  have hqn : ¬ own' L q := fun hx => by have := h.lt q hx; have := f02.size; omega
  have hgl := hG3.lt
  have hfin : (if x.ty = 2054 then sN x.by' else if x.ty = 2048 then sD x.by' else s) = frSg sN sD s x 2 := rfl
  rw [hfin]
  refine wp_block ?_
  refine wp_loop_sz 51 (fun a' w' => ∃ i : Nat, i ≤ 2 ∧ sl a' 35 = .int .i64 (i : Int) ∧ Kp [0, 4, 33, 34] a3 a' ∧ Now L w3 (frSg sN sD s x i) w') (fun a' _ => 2 - (intOf (sl a' 35)).toNat)
    hs3 ⟨0, by omega, o35, Kp.refl _ _, L, rfl, fun b hb => .inl hb, h3, Fr.refl _ _⟩ ?_
  rintro b1 v1 hs1 ⟨i, hi, i35, j1, hN1⟩
  refine wp_seq ?_
  refine frR3 i b1 v1 _ hs1 ((j1 34 (by decide)).trans o34) i35 ?_
  intro b2 v2 hs2 j2 i36 hw; subst hw
  have j2a : Kp [0, 4, 33, 34] a3 b2 := fun y hy => (j2 y (by revert hy; revert y; decide)).trans (j1 y hy)
  have i35' := (j2 35 (by decide)).trans i35
  refine wp_seq ?_
  refine wp_if i36 (fun hb => ?_) (fun hb => ?_)
  rotate_left
  · have hi2 : i = 2 := by have := of_decide_eq_false hb; omega
    subst hi2
    refine wp_exit (then_exit (then_exit (inBlock_self ?_)))
    refine bodyPost_end (results_none rfl _ _ _) hs2.defers ?_
    exact LPost2.comp (L1 := L) rfl (fun b hb => .inl hb) (f03.of_no _) (Now.lpost hN1)
  have hlt : i < 2 := of_decide_eq_true hb
  refine wp_skip ?_
  refine wp_seq (wp_block (wp_seq ?_))
  have hN1' := hN1
  obtain ⟨L1, p1, ow1, B1, F1⟩ := hN1'
  have hGv := hG3.keep F1 hgn
  have hQv := hQ3.keep F1 hqn
  have nog : ¬ own' L1 g := fun hx => by rcases ow1 g hx with y | y; exact hgn y; omega
  have fin : ∀ b5 v5, Sz 51 b5 → Kp [0, 4, 33, 34, 35] b2 b5 → Now L w3 (frSg sN sD s x (i + 1)) v5 → (regionOf Tryz.f152 7).wp Tryz.prog (Exit.then (fun a' w' => Sz 51 a' ∧ (∃ i : Nat, i ≤ 2 ∧ sl a' 35 = .int .i64 (i : Int) ∧ Kp [0, 4, 33, 34] a3 a' ∧ Now L w3 (frSg sN sD s x i) w') ∧ 2 - (intOf (sl a' 35)).toNat < 2 - (intOf (sl b1 35)).toNat) (Exit.inBlock 0 (bodyPost Tryz.prog Tryz.f152 (LPost2 L (frSg sN sD s x 2) (.tuple #[]) w)))) b5 v5 := by
    intro b5 v5 hs5 j5 hN5
    refine frR7 i b5 v5 _ hs5 ((j5 35 (by decide)).trans i35') hi ?_
    intro b6 v6 hs6 j6 i35n hw; subst hw
    refine ⟨hs6, ⟨i + 1, by omega, i35n, fun y hy => (j6 y (by revert hy; revert y; decide)).trans ((j5 y (by revert hy; revert y; decide)).trans (j2a y hy)), hN5⟩, ?_⟩
    rw [i35n, i35]; simp only [intOf]; omega
  match i, hlt, i35', hN1, B1, fin with
  | 0, _, i35', hN1, B1, fin =>
    refine frR4_0 q t b2 v2 _ hs2 ((j2a 33 (by decide)).trans o33) i35' hQv ?_
    intro b3 v3 v t2 hs3' j3 i7 F3 hV3
    have hN3 := hN1.fr F3
    have B3 := B1.none F3
    have hGv3 := hGv.keep F3 (fun x => x)
    refine wp_seq ?_
    refine frR5_0 x g v t2 (decide (x.ty = 2054)) b3 v3 _ hs3' ((j3 4 (by decide)).trans ((j2a 4 (by decide)).trans e4)) i7 hGv3 hV3 (by rw [Bool.eq_iff_iff]; simp only [beq_iff_eq, decide_eq_true_eq]; omega) ?_
    intro b4 v4 hs4 j4 i43 hw; subst hw
    have j24 : Kp [0, 4, 33, 34, 35] b2 b4 := fun y hy => (j4 y (by revert hy; revert y; decide)).trans (j3 y (by revert hy; revert y; decide))
    have z0 : sl b4 0 = .pointer (some ⟨L1.p, 0, none⟩) := (j24 0 (by decide)).trans ((j2a 0 (by decide)).trans (by rw [p1]; exact e0))
    have z4 := (j24 4 (by decide)).trans ((j2a 4 (by decide)).trans e4)
    refine wp_if i43 (fun hb => ?_) (fun hb => ?_)
    · have hty := of_decide_eq_true hb
      refine frgR6_0 L1 s x g v t2 _ b4 v4 _ hs4 z0 z4 ((j4 7 (by decide)).trans i7) B3 hGv3 hV3 (cN _ L1 _ B3 (by omega)) ?_
      intro b5 v5 hs5 j5 hp
      refine fin b5 v5 hs5 (fun y hy => (j5 y (by revert hy; revert y; decide)).trans (j24 y hy)) ?_
      rw [show frSg sN sD s x 1 = sN x.by' by show (if x.ty = 2054 then _ else _) = _; rw [if_pos hty]]
      exact Now.comp p1 ow1 (F1.none F3) hp
    · have hty := of_decide_eq_false hb
      refine wp_skip (fin b4 v4 hs4 j24 ?_)
      rw [show frSg sN sD s x 1 = frSg sN sD s x 0 by show (if x.ty = 2054 then _ else _) = _; rw [if_neg hty]; rfl]
      exact hN3
  | 1, _, i35', hN1, B1, fin =>
    refine frR4_1 q t b2 v2 _ hs2 ((j2a 33 (by decide)).trans o33) i35' hQv ?_
    intro b3 v3 v t2 hs3' j3 i7 F3 hV3
    have hN3 := hN1.fr F3
    have B3 := B1.none F3
    have hGv3 := hGv.keep F3 (fun x => x)
    refine wp_seq ?_
    refine frR5_1 x g v t2 (decide (x.ty = 2048)) b3 v3 _ hs3' ((j3 4 (by decide)).trans ((j2a 4 (by decide)).trans e4)) i7 hGv3 hV3 (by rw [Bool.eq_iff_iff]; simp only [beq_iff_eq, decide_eq_true_eq]; omega) ?_
    intro b4 v4 hs4 j4 i43 hw; subst hw
    have j24 : Kp [0, 4, 33, 34, 35] b2 b4 := fun y hy => (j4 y (by revert hy; revert y; decide)).trans (j3 y (by revert hy; revert y; decide))
    have z0 : sl b4 0 = .pointer (some ⟨L1.p, 0, none⟩) := (j24 0 (by decide)).trans ((j2a 0 (by decide)).trans (by rw [p1]; exact e0))
    have z4 := (j24 4 (by decide)).trans ((j2a 4 (by decide)).trans e4)
    refine wp_if i43 (fun hb => ?_) (fun hb => ?_)
    · have hty := of_decide_eq_true hb
      have B3s : BootAt v4 L1 s := by rw [show frSg sN sD s x 1 = s from if_neg (by omega)] at B3; exact B3
      refine frgR6_1 L1 s x g v t2 _ b4 v4 _ hs4 z0 z4 ((j4 7 (by decide)).trans i7) B3s hGv3 hV3 (cD _ L1 _ B3s (by omega)) ?_
      intro b5 v5 hs5 j5 hp
      refine fin b5 v5 hs5 (fun y hy => (j5 y (by revert hy; revert y; decide)).trans (j24 y hy)) ?_
      rw [show frSg sN sD s x 2 = sD x.by' by show (if x.ty = 2054 then _ else if x.ty = 2048 then _ else _) = _; rw [if_neg (by omega), if_pos hty]]
      exact Now.comp p1 ow1 (F1.none F3) hp
    · have hty := of_decide_eq_false hb
      refine wp_skip (fin b4 v4 hs4 j24 ?_)
      rw [show frSg sN sD s x 2 = frSg sN sD s x 1 by show (if x.ty = 2054 then _ else if x.ty = 2048 then _ else _) = (if x.ty = 2054 then _ else _); rw [if_neg (c := x.ty = 2048) hty]]
      exact hN3
theorem off_address {s : St} (h : s.lease = 0) : s.address = 0 := if_neg (by omega)
theorem bootNeigh0 (L : Lay) (s : St) (ld : List UInt8) (w : World) (h : BootAt w L s) (hl : s.lease = 0) (hc : s.cache = []) (hld : ld.length ≤ 9223372036854775807) :
    Calls Tryz.prog 178 #[.pointer (some ⟨L.p, 0, none⟩), .string (bs ld)] w (LPost2 L s (.tuple #[]) w) := by
  have hin := readARP_in ld
  go_enter Tryz.func178, Tryz.ntmps178
  have hret : ∀ (a' : Act) (w' : World), Sz 104 a' → BootAt w' L s → Fr (own' L) w w' → bodyPost Tryz.prog Tryz.f178 (LPost2 L s (.tuple #[]) w) .ret a' w' := fun a' w' hs hB hF => bodyPost_ret (results_none rfl _ _ _) hs.defers ⟨rfl, L, rfl, fun _ x => .inl x, hB, hF⟩
  have hend : ∀ (a' : Act) (w' : World), Sz 104 a' → BootAt w' L s → Fr (own' L) w w' → bodyPost Tryz.prog Tryz.f178 (LPost2 L s (.tuple #[]) w) .normal a' w' := fun a' w' hs hB hF => bodyPost_end (results_none rfl _ _ _) hs.defers ⟨rfl, L, rfl, fun _ x => .inl x, hB, hF⟩
  refine wp_seq ?_
  refine nbR0 ld _ w _ ⟨rfl, rfl⟩ rfl hld ?_
  intro a1 w1 g hs1 k1 o4 o5 f1 hG hgs
  have e0 : sl a1 0 = .pointer (some ⟨L.p, 0, none⟩) := (k1 0 (by decide)).trans rfl
  have hg : ¬ own' L g := fun hx => by have := h.lt g hx; omega
  have h := h.none f1
  generalize readARP ld = r at *
  obtain ⟨x, k⟩ := r
  dsimp only at hin o5 hG
  refine wp_seq (wp_seq ?_)
  refine nbR1 k _ a1 w1 _ hs1 o5 rfl ?_
  intro a2 w2 hs2 k2 o14 hw; subst w2
  refine wp_if o14 (fun _ => wp_ret (hret a2 w1 hs2 h (f1.of_no _))) (fun _ => wp_skip ?_)
  have e0 := (k2 0 (by decide)).trans e0
  have e4 := (k2 4 (by decide)).trans o4
  refine wp_seq (wp_seq ?_)
  refine nbR2a L s x g a2 w1 _ hs2 e0 e4 h hG (by rw [hl]; rfl) ?_
  intro a3 w3 hs3 k3 o40 h hG f3
  have f03 := f1.none f3
  have e0 := (k3 0 (by decide)).trans e0
  have e4 := (k3 4 (by decide)).trans e4
  refine wp_if o40 (fun hb => by cases hb) (fun _ => wp_skip ?_)
  refine wp_seq ?_
  refine nbR4a L s x g a3 w3 _ hs3 e0 e4 h hG (by rw [off_address hl]; rfl) ?_
  intro a4 w4 hs4 k4 o6 h hG f4
  have f04 := f03.none f4
  have e0 := (k4 0 (by decide)).trans e0
  have e4 := (k4 4 (by decide)).trans e4
  have rest : ∀ (a' : Act) (w' : World), Sz 104 a' → sl a' 0 = .pointer (some ⟨L.p, 0, none⟩) → sl a' 4 = .pointer (some ⟨g, 0, none⟩) → sl a' 6 = .bool false → BootAt w' L s → Bk w' g 67 (arpC x) → Fr (own' L) w w' → (Code.seq (regionOf Tryz.f178 9) (.cond (.tmp 93) (regionOf Tryz.f178 10) .skip)).wp Tryz.prog (bodyPost Tryz.prog Tryz.f178 (LPost2 L s (.tuple #[]) w)) a' w' := by
    intro a' w' hs' e0 e4 e6 hB hG hF
    refine wp_seq ?_
    refine nbR9a L s x g a' w' _ hs' e4 e6 hB hG ?_
    intro a9 w9 hs9 k9 o93 hw; subst w9
    exact wp_if o93 (fun hb => by cases hb) (fun _ => wp_skip (hend a9 w' hs9 hB hF))
  refine wp_seq (wp_seq ?_)
  by_cases hz : x.fi = 0
  · refine nbR5a L s x g a4 w4 _ hs4 e0 e4 h hG (by rw [hz]; rfl) ?_
    intro a5 w5 hs5 k5 o62 h hG f5
    refine wp_if o62 (fun hb => by cases hb) (fun _ => wp_skip ?_)
    exact rest a5 w5 hs5 ((k5 0 (by decide)).trans e0) ((k5 4 (by decide)).trans e4) ((k5 6 (by decide)).trans o6) h hG ((f04.none f5).of_no _)
  refine nbR5b L s x g true a4 w4 _ hs4 e0 e4 h hG (by rw [bne_iff_ne]; omega) (by rw [off_address hl, bne_iff_ne]; omega) ?_
  intro a5 w5 hs5 k5 o62 h hG f5
  have f05 := f04.none f5
  have e0 := (k5 0 (by decide)).trans e0
  have e4 := (k5 4 (by decide)).trans e4
  refine wp_if o62 (fun _ => ?_) (fun hb => by cases hb)
  refine wp_seq ?_
  refine nbR6a L s x g a5 w5 _ hs5 e0 e4 ((k5 6 (by decide)).trans o6) h hG hin.2.1 hg ?_
  intro a6 w6 hs6 k6 o7 hB6 hG6 f6
  have hs' : ({ s with cache := learnL s.cache x.fi x.fm false s.now } : St) = s := by rw [hc]; rw [show learnL [] x.fi x.fm false s.now = [] from rfl, ← hc]
  rw [hs'] at hB6
  rw [hc] at o7
  refine wp_seq ?_
  refine nbR7b a6 w6 _ hs6 o7 ?_
  intro a7 w7 hs7 k7 o82 hw; subst w7
  refine wp_if o82 (fun hb => by cases hb) (fun _ => wp_skip ?_)
  exact rest a7 w6 hs7 ((k7 0 (by decide)).trans ((k6 0 (by decide)).trans e0)) ((k7 4 (by decide)).trans ((k6 4 (by decide)).trans e4)) ((k7 6 (by decide)).trans ((k6 6 (by decide)).trans ((k5 6 (by decide)).trans o6))) hB6 hG6 ((f05.of_no _).trans f6)
theorem bootAcked0 (L : Lay) (s : St) (d : DhcD) (A : Option Addr) (cap n fm : Nat) (w : World) (h : BootAt w L s) (hl : s.lease = 0) (hn : d.os.length = n) (hA : SlR w (own' L) 2 A n (optC d.os)) (hwt : wtO d.os ≤ 1099511627776) (hy : d.yours < 4294967296) (hnx : d.next < 4294967296) :
    Calls Tryz.prog 267 #[.pointer (some ⟨L.p, 0, none⟩), .agg #[.bool d.reply, .int .u32 (d.xid : Int), .int .u32 (d.client : Int), .int .u32 (d.yours : Int), .int .u32 (d.next : Int), .int .u8 (d.mac.1.toNat : Int), .int .u8 (d.mac.2.1.toNat : Int), .int .u8 (d.mac.2.2.1.toNat : Int), .int .u8 (d.mac.2.2.2.1.toNat : Int), .int .u8 (d.mac.2.2.2.2.1.toNat : Int), .int .u8 (d.mac.2.2.2.2.2.toNat : Int), .slice A n cap], .int .u32 (fm : Int)] w fun e w' => e = .returned (.tuple #[]) ∧ BootAt w' L s ∧ Fr noB w w' := by
  go_enter Tryz.func267, Tryz.ntmps267
  have hret : ∀ (a' : Act) (w' : World), Sz 146 a' → BootAt w' L s → Fr noB w w' → bodyPost Tryz.prog Tryz.f267 (fun e w' => e = .returned (.tuple #[]) ∧ BootAt w' L s ∧ Fr noB w w') .ret a' w' := fun a' w' hs hB hF => bodyPost_ret (results_none rfl _ _ _) hs.defers ⟨rfl, hB, hF⟩
  refine wp_seq ?_
  refine akR0 L s d A cap n 0 _ w _ ⟨rfl, rfl⟩ rfl ?_
  intro a1 w1 hs1 k1 o4 hf1 hG1
  have e0 : sl a1 0 = .pointer (some ⟨L.p, 0, none⟩) := (k1 0 (by decide)).trans rfl
  have e2 : sl a1 2 = .int .u32 (fm : Int) := (k1 2 (by decide)).trans rfl
  clear k1
  have h1 := h.none hf1
  have hD1 : DhAt w1 L d A cap n w.heap.size := ⟨hG1, hA.keep (hf1.of_no _), fun hx => Nat.lt_irrefl _ (h.lt _ hx), hn, hwt, hy, hnx⟩
  generalize w.heap.size = g at *
  refine wp_seq ?_
  refine akR1 L s a1 w1 _ hs1 e0 h1 ?_
  intro a2 w2 hs2 k2 o6 hw; subst hw
  refine wp_seq ?_
  refine akR2 L s d A cap n g a2 _ _ hs2 ((k2 4 (by decide)).trans o4) hD1 ?_
  intro a3 w3 hs3 k3 o7 o8 hf3
  have h3 := h1.none hf3
  have hD3 := hD1.none hf3
  refine wp_seq ?_
  refine akR3d L s a3 w3 _ hs3 ((k3 6 (by decide)).trans o6) h3 (by rw [hl]; rfl) (by rw [hl]; rfl) (by rw [hl]; rfl) ?_
  intro a4 w4 hs4 k4 o9 hw; subst hw
  have k04 : Kp [0, 2, 4] a1 a4 := fun i hi => (k4 i (by revert hi; revert i; decide)).trans ((k3 i (by revert hi; revert i; decide)).trans (k2 i (by revert hi; revert i; decide)))
  refine wp_seq (wp_seq ?_)
  refine akR4a L s d A cap n g fm _ _ a4 _ _ hs4 ((k04 0 (by decide)).trans e0) ((k04 4 (by decide)).trans o4) ((k4 6 (by decide)).trans ((k3 6 (by decide)).trans o6)) ((k04 2 (by decide)).trans e2) ((k4 7 (by decide)).trans o7) ((k4 8 (by decide)).trans o8) o9 h3 hD3 ?_
  intro a5 w5 hs5 k5 o74 h5 hD5 hf5
  refine wp_if o74 (fun _ => ?_) (fun hb => by cases hb)
  exact wp_ret (hret a5 w5 hs5 h5 ((hf1.none hf3).none hf5))
theorem ldgR15 (L : Lay) (s : St) (d : DhcD) (A : Option Addr) (cap n g : Nat) (fm : Nat) (a : Act) (w : World) (K : KT) (hs : Sz 131 a)
    (h0 : sl a 0 = .pointer (some ⟨L.p, 0, none⟩)) (h4 : sl a 4 = .pointer (some ⟨g, 0, none⟩)) (h10 : sl a 10 = .int .u32 (fm : Int)) (h : BootAt w L s) (hD : DhAt w L d A cap n g) (hl : s.lease = 0)
    (hK : ∀ a' w', Sz 131 a' → Kp [0, 4, 5, 6, 7, 8, 9, 10, 63] a a' → BootAt w' L s → Fr noB w w' → K .normal a' w') :
    (regionOf Tryz.f223 15).wp Tryz.prog K a w := by
  refine rgE hK (ldF_of hs) fun HK => ?_; clear hK hs
  simp only [ldF, h0, h4, h10]
  have hGc := hD.bk.cells
  have hcall := bootAcked0 L s d A cap n fm w h hl hD.hn hD.sl hD.wt hD.yours hD.next
  have Hcall := Lib.hid hcall
  clear hcall hl
  go_wp2_with fail
  refine Hcall.out.mono ?_
  rintro e w1 ⟨rfl, hM1, hf1⟩
  go_wp2_with fail
  exact HK.out _ _ ⟨rfl, rfl⟩ kk  hM1 hf1
theorem bootLeased0 (L : Lay) (s : St) (ld : List UInt8) (w : World) (h : BootAt w L s) (hl : s.lease = 0) (hld : ld.length ≤ 1048576) :
    Calls Tryz.prog 223 #[.pointer (some ⟨L.p, 0, none⟩), .string (bs ld)] w (LPost2 L s (.tuple #[]) w) := by
  go_enter Tryz.func223, Tryz.ntmps223
  have hret : ∀ (a' : Act) (w' : World), Sz 131 a' → BootAt w' L s → Fr noB w w' → bodyPost Tryz.prog Tryz.f223 (LPost2 L s (.tuple #[]) w) .ret a' w' := fun a' w' hs hB hF => bodyPost_ret (results_none rfl _ _ _) hs.defers ⟨rfl, L, rfl, fun _ x => .inl x, hB, hF.of_no _⟩
  have hend : ∀ (a' : Act) (w' : World), Sz 131 a' → BootAt w' L s → Fr noB w w' → bodyPost Tryz.prog Tryz.f223 (LPost2 L s (.tuple #[]) w) .normal a' w' := fun a' w' hs hB hF => bodyPost_end (results_none rfl _ _ _) hs.defers ⟨rfl, L, rfl, fun _ x => .inl x, hB, hF.of_no _⟩
  refine wp_seq ?_
  refine ldR0 L ld _ w _ ⟨rfl, rfl⟩ rfl hld h.lt ?_
  intro a1 w1 A cap g hs1 k1 o4 o5 f1 hD
  have e0 : sl a1 0 = .pointer (some ⟨L.p, 0, none⟩) := (k1 0 (by decide)).trans rfl
  clear k1
  have h := h.none f1
  generalize readDHCP ld = r at *
  obtain ⟨d, k⟩ := r
  dsimp only at o5 hD
  generalize d.os.length = n at *
  refine wp_seq (wp_seq ?_)
  refine ldR1 L s d A cap n g k a1 w1 _ hs1 e0 o4 o5 h hD ?_
  intro a2 w2 hs2 k2 o42 h hD f2
  have f2 := f1.none f2
  have e0 := (k2 0 (by decide)).trans e0
  have e4 := (k2 4 (by decide)).trans o4
  refine wp_if o42 (fun _ => wp_ret (hret a2 w2 hs2 h f2)) (fun _ => wp_skip ?_)
  refine wp_seq ?_
  refine ldR2 L s d A cap n g a2 w2 _ hs2 e4 hD ?_
  intro a3 w3 hs3 k3 o6 o7 f3
  have h := h.none f3
  have hD := hD.none f3
  refine wp_seq ?_
  refine ldR3 L s d A cap n g a3 w3 _ hs3 ((k3 4 (by decide)).trans e4) hD ?_
  intro a4 w4 hs4 k4 o8 o9 f4
  have h := h.none f4
  have hD := hD.none f4
  have f4 := (f2.none f3).none f4
  have e0 := (k4 0 (by decide)).trans ((k3 0 (by decide)).trans e0)
  have e4 := (k4 4 (by decide)).trans ((k3 4 (by decide)).trans e4)
  have e6 := (k4 6 (by decide)).trans o6
  refine wp_seq (wp_seq ?_)
  refine ldR4 _ _ a4 w4 _ hs4 e6 o9 ?_
  intro a5 w5 hs5 k5 o60 hw; subst w5
  refine wp_if o60 (fun _ => wp_ret (hret a5 w4 hs5 h f4)) (fun hb => wp_skip ?_)
  obtain ⟨hlen, hsm⟩ := Decidable.not_not.1 (of_decide_eq_false hb)
  obtain ⟨fm, hnu⟩ := Option.isSome_iff_exists.1 hsm
  rw [hnu] at o8
  obtain ⟨kd, hkd⟩ : ∃ kd, (optOf d.os 53).getD [] = [kd] := by
    match (optOf d.os 53).getD [], hlen with
    | [x], _ => exact ⟨x, rfl⟩
  rw [hkd] at e6
  refine wp_seq ?_
  refine ldR5 fm a5 w4 _ hs5 ((k5 8 (by decide)).trans o8) ?_
  intro a6 w6 hs6 k6 o10 hw; subst w6
  refine wp_seq ?_
  refine ldR6 kd a6 w4 _ hs6 ((k6 6 (by decide)).trans ((k5 6 (by decide)).trans e6)) ?_
  intro a7 w7 hs7 k7 o63 hw; subst w7
  have e0 := (k7 0 (by decide)).trans ((k6 0 (by decide)).trans ((k5 0 (by decide)).trans e0))
  have e4 := (k7 4 (by decide)).trans ((k6 4 (by decide)).trans ((k5 4 (by decide)).trans e4))
  have e10 := (k7 10 (by decide)).trans o10
  refine wp_block (wp_seq ?_)
  refine ldR7 kd _ a7 w4 _ hs7 o63 rfl ?_
  intro a8 w8 hs8 k8 o64 hw; subst w8
  have e0 := (k8 0 (by decide)).trans e0
  have e4 := (k8 4 (by decide)).trans e4
  have e10 := (k8 10 (by decide)).trans e10
  have e63 := (k8 63 (by decide)).trans o63
  refine wp_if o64 (fun _ => ?_) (fun _ => ?_)
  · refine wp_seq ?_
    refine ldR8a L s d A cap n g a8 w4 _ hs8 e0 e4 h hD (by rw [hl]; rfl) ?_
    intro a9 w9 hs9 k9 o hw; subst w9
    exact wp_if o (fun hb => by cases hb) (fun _ => wp_skip (hend a9 w4 hs9 h f4))
  refine wp_seq ?_
  refine ldR11 kd _ a8 w4 _ hs8 e63 rfl ?_
  intro a9 w9 hs9 k9 o90 hw; subst w9
  have e0 := (k9 0 (by decide)).trans e0
  have e4 := (k9 4 (by decide)).trans e4
  have e10 := (k9 10 (by decide)).trans e10
  have e63 := (k9 63 (by decide)).trans e63
  refine wp_if o90 (fun _ => ?_) (fun _ => ?_)
  · refine wp_seq ?_
    refine ldR12a L s d A cap n g fm a9 w4 _ hs9 e0 e4 e10 h hD (by rw [hl]; decide) ?_
    intro b1 v1 hs10 k10 o hw; subst v1
    exact wp_if o (fun hb => by cases hb) (fun _ => wp_skip (hend b1 w4 hs10 h f4))
  refine wp_seq ?_
  refine ldR14 kd _ a9 w4 _ hs9 e63 rfl ?_
  intro b1 v1 hs10 k10 o125 hw; subst v1
  refine wp_if o125 (fun _ => ?_) (fun _ => wp_skip (hend b1 w4 hs10 h f4))
  refine ldgR15 L s d A cap n g fm b1 w4 _ hs10 ((k10 0 (by decide)).trans e0) ((k10 4 (by decide)).trans e4) ((k10 10 (by decide)).trans e10) h hD hl ?_
  intro b2 v2 hs11 k11 h11 f11
  exact hend b2 v2 hs11 h11 (f4.none f11)
theorem dggR5 (L : Lay) (s : St) (s1 : St) (y : UdpD) (q : Nat) (a : Act) (w : World) (K : KT) (hs : Sz 90 a)
    (h0 : sl a 0 = .pointer (some ⟨L.p, 0, none⟩)) (h6 : sl a 6 = .pointer (some ⟨q, 0, none⟩)) (hU : Bk w q 42 (udpC y)) (hc : Calls Tryz.prog 223 #[.pointer (some ⟨L.p, 0, none⟩), .string (bs y.ld)] w (LPost2 L s1 (.tuple #[]) w))
    (hK : ∀ a' w', Sz 90 a' → Kp [0, 4, 5, 6] a a' → Now L w s1 w' → K .normal a' w') :
    (regionOf Tryz.f179 5).wp Tryz.prog K a w := by
  refine rgE hK (dgF_of hs) fun HK => ?_; clear hK hs
  simp only [dgF, h0, h6]
  have hUc := hU.cells
  unfold udpC at hUc
  have Hcall := Lib.hid hc
  clear hc
  go_wp2_with fail
  refine Hcall.out.mono ?_
  intro e w6 hp6
  obtain ⟨rfl, hp6⟩ := hp6
  go_wp2_with fail
  exact HK.out _ _ ⟨rfl, rfl⟩ kk  hp6
theorem bootDgramG (L : Lay) (s : St) (ld : List UInt8) (w : World) (h : BootAt w L s) (hld : ld.length ≤ 1048576) (ha : s.address = 0) (sL : List UInt8 → St)
    (cL : ∀ (ld : List UInt8) (w : World), BootAt w L s → ld.length ≤ 1048576 → Calls Tryz.prog 223 #[.pointer (some ⟨L.p, 0, none⟩), .string (bs ld)] w (LPost2 L (sL ld) (.tuple #[]) w)) :
    Calls Tryz.prog 179 #[.pointer (some ⟨L.p, 0, none⟩), .string (bs ld)] w (LPost2 L (if (readIP ld).2 ≠ 0 ∨ (readIP ld).1.pr ≠ 17 then s else if (readUDP (readIP ld).1.by' (readIP ld).1.fm (readIP ld).1.«to»).2 ≠ 0 then s else if (readUDP (readIP ld).1.by' (readIP ld).1.fm (readIP ld).1.«to»).1.tp = 68 then sL (readUDP (readIP ld).1.by' (readIP ld).1.fm (readIP ld).1.«to»).1.ld else s) (.tuple #[]) w) := by
  have hin := readIP_in ld
  go_enter Tryz.func179, Tryz.ntmps179
  have hret : ∀ (s' : St) (a' : Act) (w' : World), Sz 90 a' → Now L w s' w' → bodyPost Tryz.prog Tryz.f179 (LPost2 L s' (.tuple #[]) w) .ret a' w' := fun s' a' w' hs hN => bodyPost_ret (results_none rfl _ _ _) hs.defers hN.lpost
  have hend : ∀ (s' : St) (a' : Act) (w' : World), Sz 90 a' → Now L w s' w' → bodyPost Tryz.prog Tryz.f179 (LPost2 L s' (.tuple #[]) w) .normal a' w' := fun s' a' w' hs hN => bodyPost_end (results_none rfl _ _ _) hs.defers hN.lpost
  have now : ∀ (w' : World), BootAt w' L s → Fr noB w w' → Now L w s w' := fun w' hB hF => ⟨L, rfl, fun _ x => .inl x, hB, hF.of_no _⟩
  refine wp_seq ?_
  refine dgR0 ld _ w _ ⟨rfl, rfl⟩ rfl (by omega) ?_
  intro a1 w1 g hs1 k1 o4 o5 f1 hG _
  have e0 : sl a1 0 = .pointer (some ⟨L.p, 0, none⟩) := (k1 0 (by decide)).trans rfl
  clear k1
  have h := h.none f1
  generalize readIP ld = r at *
  obtain ⟨x, k⟩ := r
  dsimp only at hin o5 hG ⊢
  obtain ⟨i1, i2, _, i4⟩ := hin
  refine wp_seq (wp_seq ?_)
  refine dgR1 k x g a1 w1 _ hs1 o4 o5 hG ?_
  intro a2 w2 hs2 k2 o18 hw; subst w2
  have e0 := (k2 0 (by decide)).trans e0
  have e4 := (k2 4 (by decide)).trans o4
  refine wp_if o18 (fun hb => ?_) (fun hb => ?_)
  · rw [if_pos (of_decide_eq_true hb)]; exact wp_ret (hret s a2 w1 hs2 (now w1 h f1))
  rw [if_neg (of_decide_eq_false hb)]
  refine wp_skip ?_
  refine wp_seq ?_
  refine dgR2 x g a2 w1 _ hs2 e4 hG i1 i2 (by omega) ?_
  intro a3 w3 q hs3 k3 o6 o5 f3 hU _
  have hux := readUDP_in x.by' x.fm x.«to»
  have h := h.none f3
  have hG := hG.keep f3 (fun x => x)
  have f3 := f1.none f3
  have e0 := (k3 0 (by decide)).trans e0
  have e4 := (k3 4 (by decide)).trans e4
  generalize readUDP x.by' x.fm x.«to» = r at *
  obtain ⟨y, j⟩ := r
  dsimp only at hux o5 hU ⊢
  refine wp_block (wp_seq ?_)
  refine dgR3 j (decide (j ≠ 0)) a3 w3 _ hs3 o5 (by rw [Bool.eq_iff_iff]; simp) ?_
  intro a4 w4 hs4 k4 o29 hw; subst w4
  have e0 := (k4 0 (by decide)).trans e0
  have e4 := (k4 4 (by decide)).trans e4
  have e6 := (k4 6 (by decide)).trans o6
  refine wp_if o29 (fun hb => ?_) (fun hb => ?_)
  · rw [if_pos (of_decide_eq_true hb)]; exact wp_skip (hend s a4 w3 hs4 (now w3 h f3))
  rw [if_neg (of_decide_eq_false hb)]
  refine wp_seq ?_
  refine dgR4 y q (decide (y.tp = 68)) a4 w3 _ hs4 e6 hU (by rw [Bool.eq_iff_iff]; simp; omega) ?_
  intro a5 w5 hs5 k5 o32 hw; subst w5
  have e0 := (k5 0 (by decide)).trans e0
  have e4 := (k5 4 (by decide)).trans e4
  have e6 := (k5 6 (by decide)).trans e6
  refine wp_if o32 (fun hb => ?_) (fun hb => ?_)
  · rw [if_pos (of_decide_eq_true hb)]
    refine dggR5 L s _ y q a5 w3 _ hs5 e0 e6 hU (cL y.ld w3 h (by omega)) ?_
    intro a6 w6 hs6 k6 hN
    exact hend _ a6 w6 hs6 (Now.comp (L1 := L) rfl (fun _ x => .inl x) (f3.of_no _) hN)
  rw [if_neg (of_decide_eq_false hb)]
  refine wp_seq ?_
  refine dgR6a L s x g y q a5 w3 _ hs5 e0 e4 e6 h hG hU (by rw [ha]; rfl) ?_
  intro a6 w6 hs6 k6 o40 h _ f6
  exact wp_if o40 (fun hb => by cases hb) (fun _ => wp_skip (hend s a6 w6 hs6 (now w6 h (f3.none f6))))
structure Off (s : St) : Prop where
  lease : s.lease = 0
  cache : s.cache = []
  phase : s.phase = 0
theorem bootFrame0 (L : Lay) (s : St) (ld : List UInt8) (w : World) (h : BootAt w L s) (hf : Off s) (hld : ld.length ≤ 1048576) :
    Calls Tryz.prog 152 #[.pointer (some ⟨L.p, 0, none⟩), .string (bs ld)] w (LPost2 L s (.tuple #[]) w) := by
  have := bootFrameG L s ld w h hld (fun _ => s) (fun _ => s) (fun ld L w h hl => bootNeigh0 L s ld w h hf.lease hf.cache (by omega)) (fun ld L w h hl => by
    have := bootDgramG L s ld w h hl (off_address hf.lease) (fun _ => s) (fun ld w h hl => bootLeased0 L s ld w h hf.lease hl)
    simpa only [ite_self] using this)
  simpa only [ite_self] using this
end Go.Proofs.YtcbkaiakdhiloabGreatDoor
