/- Parts of the walk; written by programs, merged. -/
import Derived.Test.YtcbkaiakdhiloacGreatDoorMas
import Derived.Test.YtcbkaiakdhiloacGreatDoorMat
set_option linter.unusedSimpArgs false
set_option linter.unusedVariables false
set_option maxRecDepth 20000
set_option maxHeartbeats 8000000
set_option maxRecDepth 20000
namespace Go.Proofs.YtcbkaiakdhiloacGreatDoor
open Go.RowKit Go.Proofs
attribute [local go_sem] bs_size bs_append bs_extract bs_toList
def MSt (w0 : World) (p : Nat) (s : St) (w : World) : Prop := ∃ L : Lay, L.p = p ∧ BootAt w L s ∧ (∀ b, own' L b → w0.heap.size ≤ b) ∧ Fr noB w0 w
theorem MSt.two {w0 w w' : World} {s' : St} {L : Lay} {r : Value} {e : Ending} (ho : ∀ b, own' L b → w0.heap.size ≤ b) (hf : Fr noB w0 w) (h : LPost2 L s' r w e w') : e = .returned r ∧ MSt w0 L.p s' w' := by
  obtain ⟨he, L', hp, ho', hB, hF⟩ := h
  exact ⟨he, L', hp, hB, fun b hb => (ho' b hb).elim (ho b) fun h => Nat.le_trans hf.size h, hf.trans' hF fun b hb hx => absurd (ho b hx) (by omega)⟩
theorem MSt.fr {w0 w : World} {p : Nat} {s : St} (h : MSt w0 p s w) : Fr noB w0 w := by obtain ⟨_, _, _, _, h⟩ := h; exact h
theorem keepTickQ {w0 w : World} {p : Nat} {s : St} (dr : Nat) (h : MSt w0 p s w) (hq : Quiet s) (hn : s.now < 4611686018427387904) (hdr : dr < 4294967296) :
    Calls Tryz.prog 18 #[.pointer (some ⟨p, 0, Option.none⟩), .int .u32 (dr : Int)] w fun e w' => e = .returned (.tuple #[]) ∧ MSt w0 p (s.tick dr) w' := by
  obtain ⟨L, rfl, hB, ho, hF⟩ := h
  exact (bootTickQ L s dr w hB hq hn hdr).mono fun e w' hp => MSt.two ho hF hp
def lookV (s : St) : Value := .agg #[.int .i64 s.now, .int .i64 (s.lease : Int), .int .i64 (s.phase : Int), .int .u32 (s.address : Int), .int .i64 s.boots, .int .i64 (s.image.length : Int), .int .i64 s.lost, .int .i64 (s.cache.length : Int)]
theorem keepLook {w0 w : World} {p : Nat} {s : St} (h : MSt w0 p s w) :
    Calls Tryz.prog 14 #[.pointer (some ⟨p, 0, Option.none⟩)] w fun e w' => e = .returned (lookV s) ∧ MSt w0 p s w' := by
  obtain ⟨L, rfl, hB, ho, hF⟩ := h
  exact (bootLookL L s w hB).mono fun e w' hp => MSt.two ho hF hp.two
end Go.Proofs.YtcbkaiakdhiloacGreatDoor
namespace Go.Proofs.YtcbkaiakdhiloacGreatDoor
open Go.RowKit Go.Proofs
def pollG (fr : St → List UInt8 → St) : Nat → St → Nat → St × Nat
  | 0, s, k => (s, k)
  | m + 1, s, k => match s.rx with
    | [] => (s, k)
    | f :: r => pollG fr m (if s.over then { s with rx := r } else fr { s with rx := r } f) (k + 1)
structure PollI (Inv : St → Prop) (fr : St → List UInt8 → St) : Prop where
  go : ∀ (t : St) (f : List UInt8) (r : List (List UInt8)), Inv t → t.rx = f :: r → t.over = false → Inv (fr { t with rx := r } f)
  over : ∀ (t : St) (f : List UInt8) (r : List (List UInt8)), Inv t → t.rx = f :: r → t.over = true → Inv { t with rx := r }
end Go.Proofs.YtcbkaiakdhiloacGreatDoor
namespace Go.Proofs.YtcbkaiakdhiloacGreatDoor
open Go.RowKit Go.Proofs
attribute [local go_sem] bs_size bs_append bs_extract bs_toList
theorem inBlock_otherG {id j : Nat} {Q : Exit → Act → World → Prop} {a : Act} {w : World} (hne : j ≠ id) (h : Q (.exit j) a w) : Exit.inBlock id Q (.exit j) a w := by
  simp only [Exit.inBlock, if_neg hne]; exact h
def plgF (u : Nat → Value) : Act := ⟨#[u 0, u 1, u 2, u 3, u 4, u 5, u 6, u 7, u 8, u 9, u 10, u 11, u 12, u 13, u 14, u 15, u 16, u 17, u 18, u 19, u 20, u 21, u 22, u 23, u 24, u 25, u 26, u 27, u 28, u 29], []⟩
set_option maxRecDepth 100000 in
theorem plgF_eq (u : Nat → Value) : plgF u = frN 30 u := rfl
theorem plgF_of {a : Act} (h : Sz 30 a) : a = plgF (sl a) := h.eq.trans (plgF_eq _).symm
theorem plgR0  (a : Act) (w : World) (K : KT) (hs : Sz 30 a)
     
    (hK : ∀ a' w', Sz 30 a' → Kp [0, 1, 5, 6, 7] a a' → w' = w → K .normal a' w') :
    (regionOf Tryz.f17 0).wp Tryz.prog K a w := by
  refine rgE hK (plgF_of hs) fun HK => ?_; clear hK hs
  simp only [plgF]
  go_wp2_with fail
  exact HK.out _ _ ⟨rfl, rfl⟩ kk  rfl
theorem plgR1  (a : Act) (w : World) (K : KT) (hs : Sz 30 a)
     
    (hK : ∀ a' w', Sz 30 a' → Kp [0, 1, 4, 6, 7] a a' → sl a' 5 = .int .i64 0 → w' = w → K .normal a' w') :
    (regionOf Tryz.f17 1).wp Tryz.prog K a w := by
  refine rgE hK (plgF_of hs) fun HK => ?_; clear hK hs
  simp only [plgF]
  go_wp2_with fail
  exact HK.out _ _ ⟨rfl, rfl⟩ kk (rfl) rfl
theorem plgR2 (k : Nat) (n : Int) (a : Act) (w : World) (K : KT) (hs : Sz 30 a)
    (h1 : sl a 1 = .int .i64 n) (h5 : sl a 5 = .int .i64 (k : Int)) 
    (hK : ∀ a' w', Sz 30 a' → Kp [0, 1, 4, 5, 6, 7] a a' → sl a' 10 = .bool (decide ((k : Int) < n)) → w' = w → K .normal a' w') :
    (regionOf Tryz.f17 2).wp Tryz.prog K a w := by
  refine rgE hK (plgF_of hs) fun HK => ?_; clear hK hs
  simp only [plgF, h1, h5]
  go_wp2_with fail
  exact HK.out _ _ ⟨rfl, rfl⟩ kk (rfl) rfl
theorem plgR4 (L : Lay) (s : St) (a : Act) (w : World) (K : KT) (hs : Sz 30 a)
    (h0 : sl a 0 = .pointer (some ⟨L.p, 0, none⟩)) (h : BootAt w L s)
    (hK : ∀ a' w', Sz 30 a' → Kp [0, 1, 4, 5] a a' → sl a' 6 = .string (bs (s.rx.head?.getD [])) → sl a' 7 = .bool (!s.rx.isEmpty) → BootAt w' L { s with rx := s.rx.tail } → Fr (own' L) w w' → K .normal a' w') :
    (regionOf Tryz.f17 4).wp Tryz.prog K a w := by
  refine rgE hK (plgF_of hs) fun HK => ?_; clear hK hs
  simp only [plgF, h0]
  have c13 := h.g13
  have hcall := ringTake L.rx L.rxs s.c.rx s.rx w h.ok.rx0 (by have := h.ok.rx1; omega) h.rx
  have Hcall := Lib.hid hcall
  clear hcall
  go_wp2_with fail
  refine Hcall.out.mono ?_
  rintro e w2 ⟨rfl, hr2, hf2⟩
  go_wp2_with fail
  exact HK.out _ _ ⟨rfl, rfl⟩ kk (rfl) (rfl) (h.rxTurn hf2 hr2) (hf2.mono fun b _ hb => by rcases hb with rfl | rfl; exact own_rx L; exact own_rxs L)
theorem plgR5 (b : Bool) (a : Act) (w : World) (K : KT) (hs : Sz 30 a)
    (h7 : sl a 7 = .bool b) 
    (hK : ∀ a' w', Sz 30 a' → Kp [0, 1, 4, 5, 6, 7] a a' → sl a' 22 = .bool (!b) → w' = w → K .normal a' w') :
    (regionOf Tryz.f17 5).wp Tryz.prog K a w := by
  refine rgE hK (plgF_of hs) fun HK => ?_; clear hK hs
  simp only [plgF, h7]
  go_wp2_with fail
  exact HK.out _ _ ⟨rfl, rfl⟩ kk (rfl) rfl
theorem plgR6 (L : Lay) (s : St) (a : Act) (w : World) (K : KT) (hs : Sz 30 a)
    (h0 : sl a 0 = .pointer (some ⟨L.p, 0, none⟩)) (h : BootAt w L s)
    (hK : ∀ a' w', Sz 30 a' → Kp [0, 1, 4, 5, 6, 7] a a' → sl a' 25 = .bool (!s.over) → w' = w → K .normal a' w') :
    (regionOf Tryz.f17 6).wp Tryz.prog K a w := by
  refine rgE hK (plgF_of hs) fun HK => ?_; clear hK hs
  simp only [plgF, h0]
  go_wp2_with fail
  refine (bootOver L s _ h).mono ?_
  rintro e w2 ⟨rfl, rfl⟩
  go_wp2_with fail
  exact HK.out _ _ ⟨rfl, rfl⟩ kk (rfl) rfl
theorem plgR7 (L : Lay) (s : St) (f : List UInt8) (u1 : St) (a : Act) (w : World) (K : KT) (hs : Sz 30 a)
    (h0 : sl a 0 = .pointer (some ⟨L.p, 0, none⟩)) (h6 : sl a 6 = .string (bs f)) (h : BootAt w L s) (hc : Calls Tryz.prog 41 #[.pointer (some ⟨L.p, 0, none⟩), .string (bs f)] w (LPost2 L u1 (.tuple #[]) w))
    (hK : ∀ a' w', Sz 30 a' → Kp [0, 1, 4, 5, 6, 7] a a' → Now L w u1 w' → K .normal a' w') :
    (regionOf Tryz.f17 7).wp Tryz.prog K a w := by
  refine rgE hK (plgF_of hs) fun HK => ?_; clear hK hs
  simp only [plgF, h0, h6]
  have Hcall := Lib.hid hc
  clear hc
  go_wp2_with fail
  refine Hcall.out.mono ?_
  intro e w6 hp6
  obtain ⟨rfl, hp6⟩ := hp6
  go_wp2_with fail
  exact HK.out _ _ ⟨rfl, rfl⟩ kk  hp6
theorem plgR3 (i j : Nat) (a : Act) (w : World) (K : KT) (hs : Sz 30 a)
    (h5 : sl a 5 = .int .i64 (i : Int)) (q : IntKind.i64.wrap ((i : Int) + 1) = (j : Int))
    (hK : ∀ a' w', Sz 30 a' → Kp [0, 1, 4, 6, 7] a a' → sl a' 5 = .int .i64 (j : Int) → w' = w → K .normal a' w') :
    (regionOf Tryz.f17 3).wp Tryz.prog K a w := by
  refine rgE hK (plgF_of hs) fun HK => ?_; clear hK hs
  simp only [plgF, h5]
  clear h5
  go_wp2_with fail
  exact HK.out _ _ ⟨rfl, rfl⟩ kk (rfl) rfl
theorem plgR8 (k : Nat) (a : Act) (w : World) (K : KT) (hs : Sz 30 a)
    (h5 : sl a 5 = .int .i64 (k : Int)) 
    (hK : ∀ a' w', Sz 30 a' → Kp [0, 1, 5, 6, 7] a a' → sl a' 4 = .int .i64 (k : Int) → w' = w → K .normal a' w') :
    (regionOf Tryz.f17 8).wp Tryz.prog K a w := by
  refine rgE hK (plgF_of hs) fun HK => ?_; clear hK hs
  simp only [plgF, h5]
  go_wp2_with fail
  exact HK.out _ _ ⟨rfl, rfl⟩ kk (rfl) rfl
theorem bootPollG (Inv : St → Prop) (fr : St → List UInt8 → St) (hI : PollI Inv fr) (hF : ∀ (t : St) (f : List UInt8) (r : List (List UInt8)), Inv t → t.rx = f :: r → t.over = false → ∀ (L : Lay) (w : World), BootAt w L { t with rx := r } → Calls Tryz.prog 41 #[.pointer (some ⟨L.p, 0, none⟩), .string (bs f)] w (LPost2 L (fr { t with rx := r } f) (.tuple #[]) w)) (L : Lay) (s : St) (n : Int) (hn : n ≤ 9223372036854775807) (w : World) (h : BootAt w L s) (hi : Inv s) :
    Calls Tryz.prog 17 #[.pointer (some ⟨L.p, 0, none⟩), .int .i64 n] w (LPost2 L (pollG fr n.toNat s 0).1 (.int .i64 ((pollG fr n.toNat s 0).2 : Int)) w) := by
  go_enter Tryz.func17, Tryz.ntmps17
  refine wp_seq ?_
  refine plgR0 _ w _ ⟨rfl, rfl⟩ ?_
  intro a0 w0 hs0 k0 hw; subst hw
  refine wp_seq ?_
  refine plgR1 a0 w0 _ hs0 ?_
  intro a1 w1 hs1 k1 o5 hw; subst hw
  have e0 : sl a1 0 = .pointer (some ⟨L.p, 0, none⟩) := (k1 0 (by decide)).trans ((k0 0 (by decide)).trans rfl)
  have e1 : sl a1 1 = .int .i64 n := (k1 1 (by decide)).trans ((k0 1 (by decide)).trans rfl)
  clear k1 k0
  refine wp_seq (wp_block ?_)
  refine wp_loop_sz 30 (fun a' w' => ∃ (k m : Nat) (t : St), k + m = n.toNat ∧ sl a' 5 = .int .i64 (k : Int) ∧ Kp [0, 1] a1 a' ∧ Now L w1 t w' ∧ Inv t ∧ pollG fr m t k = pollG fr n.toNat s 0) (fun a' _ => n.toNat - (intOf (sl a' 5)).toNat)
    hs1 ⟨0, n.toNat, s, by omega, o5, Kp.refl _ _, ⟨L, rfl, fun _ x => .inl x, h, Fr.refl _ _⟩, hi, rfl⟩ ?_
  rintro b1 v1 hs1' ⟨k, m, t, hkm, i5, j1, hN, ht, hpf⟩
  have fin : ∀ b2 v2, Sz 30 b2 → Kp [0, 1, 5] b1 b2 → Now L w1 (pollG fr n.toNat s 0).1 v2 → (pollG fr n.toNat s 0).2 = k → ((regionOf Tryz.f17 8).seq .ret).wp Tryz.prog (bodyPost Tryz.prog Tryz.f17 (LPost2 L (pollG fr n.toNat s 0).1 (.int .i64 ((pollG fr n.toNat s 0).2 : Int)) w1)) b2 v2 := by
    intro b2 v2 hs2 j2 hN2 hk
    refine wp_seq ?_
    refine plgR8 k b2 v2 _ hs2 ((j2 5 (by decide)).trans i5) ?_
    intro b3 v3 hs3 j3 o4 hw; subst hw
    refine wp_ret ?_
    refine bodyPost_ret (results_tmp rfl _ _ _) hs3.defers ?_
    have hres : b3.tmps.getD 4 undef = .int .i64 ((pollG fr n.toNat s 0).2 : Int) := by rw [hk]; exact o4
    rw [hres]
    exact hN2.lpost
  refine wp_seq (wp_seq ?_)
  refine plgR2 k n b1 v1 _ hs1' ((j1 1 (by decide)).trans e1) i5 ?_
  intro b2 v2 hs2' j2 i10 hw; subst hw
  refine wp_if i10 (fun hb => ?_) (fun hb => ?_)
  · have hlt := of_decide_eq_true hb
    obtain ⟨m, rfl⟩ : ∃ m', m = m' + 1 := ⟨m - 1, by omega⟩
    refine wp_skip ?_
    refine wp_seq (wp_block (wp_seq ?_))
    obtain ⟨L1, p1, ow1, B1, F1⟩ := hN
    have z0 : sl b2 0 = .pointer (some ⟨L1.p, 0, none⟩) := (j2 0 (by decide)).trans ((j1 0 (by decide)).trans (by rw [p1]; exact e0))
    refine plgR4 L1 t b2 v2 _ hs2' z0 B1 ?_
    intro b3 v3 hs3' j3 i6 i7 B3 F3
    have z0 := (j3 0 (by decide)).trans z0
    have i5' := (j3 5 (by decide)).trans ((j2 5 (by decide)).trans i5)
    refine wp_seq (wp_seq ?_)
    refine plgR5 _ b3 v3 _ hs3' i7 ?_
    intro b4 v4 hs4' j4 i22 hw; subst hw
    have z0 := (j4 0 (by decide)).trans z0
    have i5' := (j4 5 (by decide)).trans i5'
    refine wp_if i22 (fun hb => ?_) (fun hb => ?_)
    · have hemp : t.rx = [] := by simpa using hb
      refine wp_exit (then_exit (inBlock_otherG (by decide) (then_exit (then_exit (inBlock_self ?_)))))
      have hpf2 : pollG fr n.toNat s 0 = (t, k) := by rw [← hpf]; unfold pollG; rw [hemp]
      refine fin b4 v4 hs4' (fun x hx => (j4 x (by revert hx; revert x; decide)).trans ((j3 x (by revert hx; revert x; decide)).trans (j2 x (by revert hx; revert x; decide)))) ?_ (by rw [hpf2])
      rw [hpf2]
      have het : ({ t with rx := t.rx.tail } : St) = t := by rw [hemp]; obtain ⟨c, rx⟩ := t; simp only at hemp; subst hemp; rfl
      rw [het] at B3
      exact Now.comp p1 ow1 F1 ⟨L1, rfl, fun _ x => .inl x, B3, F3⟩
    · obtain ⟨f, r, hfr⟩ : ∃ f r, t.rx = f :: r := by
        cases hq : t.rx with
        | nil => rw [hq] at hb; cases hb
        | cons f r => exact ⟨f, r, rfl⟩
      rw [hfr] at B3 i6
      have B3 : BootAt _ L1 { t with rx := r } := B3
      have hstep : pollG fr m (if t.over then { t with rx := r } else fr { t with rx := r } f) (k + 1) = pollG fr n.toNat s 0 := by rw [← hpf]; conv => rhs; unfold pollG; rw [hfr]
      refine wp_skip ?_
      refine wp_seq ?_
      refine plgR6 L1 _ b4 v4 _ hs4' z0 B3 ?_
      intro b5 v5 hs5' j5 i25 hw; subst hw
      have z0 := (j5 0 (by decide)).trans z0
      have i5' := (j5 5 (by decide)).trans i5'
      have last : ∀ b6 v6 (t' : St), Sz 30 b6 → Kp [0, 1, 5] b5 b6 → Now L w1 t' v6 → Inv t' → pollG fr m t' (k + 1) = pollG fr n.toNat s 0 → (regionOf Tryz.f17 3).wp Tryz.prog (Exit.then (fun a' w' => Sz 30 a' ∧ (∃ (k m : Nat) (t : St), k + m = n.toNat ∧ sl a' 5 = .int .i64 (k : Int) ∧ Kp [0, 1] a1 a' ∧ Now L w1 t w' ∧ Inv t ∧ pollG fr m t k = pollG fr n.toNat s 0) ∧ n.toNat - (intOf (sl a' 5)).toNat < n.toNat - (intOf (sl b1 5)).toNat) (Exit.inBlock 0 (Exit.then (((regionOf Tryz.f17 8).seq .ret).wp Tryz.prog (bodyPost Tryz.prog Tryz.f17 (LPost2 L (pollG fr n.toNat s 0).1 (.int .i64 ((pollG fr n.toNat s 0).2 : Int)) w1))) (bodyPost Tryz.prog Tryz.f17 (LPost2 L (pollG fr n.toNat s 0).1 (.int .i64 ((pollG fr n.toNat s 0).2 : Int)) w1))))) b6 v6 := by
        intro b6 v6 t' hs6 j6 hN6 hi6 hp6
        refine plgR3 k (k + 1) b6 v6 _ hs6 ((j6 5 (by decide)).trans i5') ((IntWalk.i64_in _ (by omega)).trans (by omega)) ?_
        intro b7 v7 hs7 j7 i5n hw; subst hw
        refine ⟨hs7, ⟨k + 1, m, t', by omega, i5n, fun x hx => (j7 x (by revert hx; revert x; decide)).trans ((j6 x (by revert hx; revert x; decide)).trans ((j5 x (by revert hx; revert x; decide)).trans ((j4 x (by revert hx; revert x; decide)).trans ((j3 x (by revert hx; revert x; decide)).trans ((j2 x (by revert hx; revert x; decide)).trans (j1 x hx)))))), hN6, hi6, hp6⟩, ?_⟩
        rw [i5n, i5]; simp only [intOf]; omega
      have hov : ({ t with rx := r } : St).over = t.over := rfl
      rw [hov] at i25
      refine wp_if i25 (fun hb => ?_) (fun hb => ?_)
      · have hnov : t.over = false := by simpa using hb
        rw [hnov] at hstep
        refine plgR7 L1 _ f _ b5 v5 _ hs5' z0 ((j5 6 (by decide)).trans ((j4 6 (by decide)).trans i6)) B3 (hF t f r ht hfr hnov L1 _ B3) ?_
        intro b6 v6 hs6' j6 hN6
        refine last b6 v6 _ hs6' (fun x hx => j6 x (by revert hx; revert x; decide)) (Now.comp p1 ow1 F1 (Now.comp rfl (fun _ h => .inl h) F3 hN6)) (hI.go t f r ht hfr hnov) hstep
      · have hyov : t.over = true := by simpa using hb
        rw [hyov] at hstep
        exact wp_skip (last b5 v5 _ hs5' (Kp.refl _ _) (Now.comp p1 ow1 F1 ⟨L1, rfl, fun _ x => .inl x, B3, F3⟩) (hI.over t f r ht hfr hyov) hstep)
  · have hge := of_decide_eq_false hb
    have hm0 : m = 0 := by omega
    subst hm0
    have hpf2 : pollG fr n.toNat s 0 = (t, k) := by rw [← hpf]; rfl
    refine wp_exit (then_exit (then_exit (inBlock_self ?_)))
    exact fin b2 v2 hs2' (fun x hx => j2 x (by revert hx; revert x; decide)) (by rw [hpf2]; exact hN) (by rw [hpf2])
end Go.Proofs.YtcbkaiakdhiloacGreatDoor
set_option maxRecDepth 20000
namespace Go.Proofs.YtcbkaiakdhiloacGreatDoor
open Go.RowKit Go.Proofs
attribute [local go_sem] bs_size bs_append bs_extract bs_toList
theorem bootFrameU (L : Lay) (s : St) (ld : List UInt8) (w : World) (h : BootAt w L s) (hld : ld.length ≤ 1048576) (hb : (readEther ld).2 ≠ 0) :
    Calls Tryz.prog 41 #[.pointer (some ⟨L.p, 0, none⟩), .string (bs ld)] w (LPost2 L s (.tuple #[]) w) := by
  go_enter Tryz.func41, Tryz.ntmps41
  refine wp_seq ?_
  refine frR0 ld _ w _ ⟨rfl, rfl⟩ rfl (by omega) ?_
  intro a1 w1 g hs1 k1 o4 o5 hf1 hG1 hgs
  have e0 : sl a1 0 = .pointer (some ⟨L.p, 0, none⟩) := (k1 0 (by decide)).trans rfl
  have h1 := h.none hf1
  generalize readEther ld = r at *
  obtain ⟨x, k⟩ := r
  dsimp only at hb o5 hG1
  refine wp_seq (wp_seq ?_)
  refine frR1a L s x g k a1 w1 _ hs1 e0 o4 o5 h1 hG1 (by rw [bne_iff_ne]; omega) ?_
  intro a2 w2 hs2 k2 o30 h2 hG2 hf2
  refine wp_if o30 (fun _ => ?_) (fun hb => by cases hb)
  exact wp_ret (bodyPost_ret (results_none rfl _ _ _) hs2.defers (LPost.two ⟨rfl, h2, (hf1.none hf2).of_no _⟩))
theorem keepPut {w0 w : World} {p : Nat} {s : St} (f : List UInt8) (h : MSt w0 p s w) :
    Calls Tryz.prog 16 #[.pointer (some ⟨p, 0, Option.none⟩), .string (bs f)] w fun e w' => e = .returned (.bool (s.put f).2) ∧ MSt w0 p (s.put f).1 w' := by
  obtain ⟨L, rfl, hB, ho, hF⟩ := h
  exact (bootPutL L s f w hB).mono fun e w' hp => MSt.two ho hF hp.two
theorem keepTake {w0 w : World} {p : Nat} {s : St} (h : MSt w0 p s w) :
    Calls Tryz.prog 15 #[.pointer (some ⟨p, 0, Option.none⟩)] w fun e w' => e = .returned (.tuple #[.string (bs (s.take.2.getD [])), .bool s.take.2.isSome]) ∧ MSt w0 p s.take.1 w' := by
  obtain ⟨L, rfl, hB, ho, hF⟩ := h
  exact (bootTakeL L s w hB).mono fun e w' hp => MSt.two ho hF hp.two
def BadRx (s : St) : Prop := ∀ f ∈ s.rx, (readEther f).2 ≠ 0 ∧ f.length ≤ 1048576
theorem badRx_id : PollI BadRx (fun t _ => t) :=
  ⟨fun t f r h hr _ x hx => h x (by rw [hr]; exact List.mem_cons_of_mem _ hx), fun t f r h hr _ x hx => h x (by rw [hr]; exact List.mem_cons_of_mem _ hx)⟩
theorem keepPollU {w0 w : World} {p : Nat} {s : St} (n : Int) (h : MSt w0 p s w) (hn : n ≤ 9223372036854775807) (hb : BadRx s) :
    Calls Tryz.prog 17 #[.pointer (some ⟨p, 0, Option.none⟩), .int .i64 n] w fun e w' => e = .returned (.int .i64 ((pollG (fun t _ => t) n.toNat s 0).2 : Int)) ∧ MSt w0 p (pollG (fun t _ => t) n.toNat s 0).1 w' := by
  obtain ⟨L, rfl, hB, ho, hF⟩ := h
  refine (bootPollG BadRx (fun t _ => t) badRx_id (fun t f r ht hr _ L w hB => ?_) L s n hn w hB hb).mono fun e w' hp => MSt.two ho hF hp
  have hf := ht f (by rw [hr]; exact List.mem_cons_self)
  exact bootFrameU L _ f w hB hf.2 hf.1
end Go.Proofs.YtcbkaiakdhiloacGreatDoor
namespace Go.Proofs.YtcbkaiakdhiloacGreatDoor
open Go.RowKit Go.Proofs
def cfgN (q : List UInt8) : CfgI := ⟨(2, 0, 0, 0, 0, 42), [107, 101, 114, 110, 101, 108], 600000, q, 8, 1, 16, 16⟩
def chg (q : List UInt8) : Nat → CfgI
  | 0 => { cfgN q with card := (0, 0, 0, 0, 0, 0) }
  | 1 => { cfgN q with card := (1, 0, 0, 0, 0, 42) }
  | 2 => { cfgN q with name := [] }
  | 3 => { cfgN q with name := [97, 32, 98] }
  | 4 => { cfgN q with name := [97, 98, 99, 100, 101, 102, 103, 104, 105, 106, 107, 108, 109, 110, 111, 112, 113, 114, 115, 116, 117] }
  | 5 => { cfgN q with digest := [120] }
  | 6 => { cfgN q with cap := 0 }
  | 7 => { cfgN q with cap := 600001 }
  | 8 => { cfgN q with block := 7 }
  | 9 => { cfgN q with block := 1025 }
  | 10 => { cfgN q with window := 0 }
  | 11 => { cfgN q with window := 9 }
  | 12 => { cfgN q with rx := 0 }
  | 13 => { cfgN q with rx := 17 }
  | 14 => { cfgN q with tx := 0 }
  | _ => { cfgN q with tx := 17 }
theorem chg_no (q : List UInt8) (k : Nat) : ¬ (chg q k).Ok := by
  have key : ∀ c : CfgI, c.Ok → (1 ≤ c.name.length ∧ c.name.length ≤ 20 ∧ c.digest.length = 32) ∧ c.name.all chrOk = true ∧ ((1 ≤ c.cap ∧ c.cap ≤ 600000) ∧ (8 ≤ c.block ∧ c.block ≤ 1024) ∧ (1 ≤ c.window ∧ c.window ≤ 8) ∧ (1 ≤ c.rx ∧ c.rx ≤ 16) ∧ (1 ≤ c.tx ∧ c.tx ≤ 16)) ∧ c.card ≠ zMac ∧ c.card.1.toNat % 2 ≠ 1 := fun c h => h
  intro h
  have h := key _ h
  unfold chg at h
  split at h
  all_goals (simp only [cfgN] at h; revert h)
  all_goals (first
    | (rintro ⟨_, _, _, h, _⟩; exact h rfl)
    | (rintro ⟨_, _, _, _, h⟩; exact h (by decide))
    | (rintro ⟨⟨h, h2, h3⟩, _⟩; revert h h2 h3; simp; done)
    | (rintro ⟨_, h, _⟩; revert h; decide)
    | (rintro ⟨_, _, ⟨h1, h2, h3, h4, h5⟩, _⟩; omega))
def cfgG (q : List UInt8) : CfgI := { cfgN q with rx := 2, tx := 1 }
theorem cfgG_ok (q : List UInt8) (hq : q.length = 32) : (cfgG q).Ok := ⟨⟨show 1 ≤ 6 by decide, show 6 ≤ 20 by decide, hq⟩, show List.all [107, 101, 114, 110, 101, 108] chrOk = true by decide, ⟨show (1 : Int) ≤ 600000 ∧ (600000 : Int) ≤ 600000 by decide, show (8 : Int) ≤ 8 ∧ (8 : Int) ≤ 1024 by decide, show (1 : Int) ≤ 1 ∧ (1 : Int) ≤ 8 by decide, show (1 : Int) ≤ 2 ∧ (2 : Int) ≤ 16 by decide, show (1 : Int) ≤ 1 ∧ (1 : Int) ≤ 16 by decide⟩, show ((2, 0, 0, 0, 0, 42) : Mac) ≠ zMac by decide, show (2 : UInt8).toNat % 2 ≠ 1 by decide⟩
def kS (q : List UInt8) : St := stNew (cfgG q)
abbrev idF : St → List UInt8 → St := fun t _ => t
section
variable (q : List UInt8)
theorem kn1 : (kS q).put [120] = ({ kS q with rx := [[120]] }, true) := rfl
theorem kn2 : St.put { kS q with rx := [[120]] } [] = ({ kS q with rx := [[120], []] }, true) := rfl
theorem kn3 : St.put { kS q with rx := [[120], []] } [121] = ({ kS q with rx := [[120], []] }, false) := rfl
theorem kn4 : pollG idF 1 { kS q with rx := [[120], []] } 0 = ({ kS q with rx := [[]] }, 1) := rfl
theorem kn5 : St.put { kS q with rx := [[]] } [122] = ({ kS q with rx := [[], [122]] }, true) := rfl
theorem kn6 : St.put { kS q with rx := [[], [122]] } [] = ({ kS q with rx := [[], [122]] }, false) := rfl
theorem kn7 : pollG idF 9 { kS q with rx := [[], [122]] } 0 = (kS q, 2) := rfl
theorem kn8 : pollG idF 9 (kS q) 0 = (kS q, 0) := rfl
theorem kn9 : pollG idF 0 (kS q) 0 = (kS q, 0) := rfl
def kT1 : St := (kS q).tick 16909060
def kT2 : St := (kT1 q).tick 4
def kT3 : St := (kT2 q).tick 4
theorem kq0 : Quiet (kS q) := ⟨rfl, Nat.zero_le _, .inl rfl⟩
theorem kq1 : Quiet (kT1 q) := (kq0 q).tick _
theorem kq2 : Quiet (kT2 q) := (kq1 q).tick _
theorem kn10 : (kT2 q).now = 2 ∧ (kT2 q).lease = 1 ∧ (kT2 q).phase = 0 ∧ (kT2 q).address = 0 ∧ (kT2 q).boots = 0 ∧ (kT2 q).image = [] ∧ (kT2 q).lost = 0 ∧ (kT2 q).cache = [] := ⟨by kernel_rfl, by kernel_rfl, by kernel_rfl, by kernel_rfl, by kernel_rfl, by kernel_rfl, by kernel_rfl, by kernel_rfl⟩
def kF : List UInt8 := (kT3 q).take.2.getD []
theorem kn11 : (kT3 q).take = ({ kT3 q with tx := [] }, some (kF q)) := by kernel_rfl
theorem kn12 : St.take { kT3 q with tx := [] } = ({ kT3 q with tx := [] }, none) := rfl
theorem kn14 : (kF q).length = 342 := by kernel_rfl
def kE : EthD × Nat := readEther (kF q)
def kI : IpD × Nat := readIP (kE q).1.by'
def kU : UdpD × Nat := readUDP (kI q).1.by' (kI q).1.fm (kI q).1.«to»
def kD : DhcD × Nat := readDHCP (kU q).1.ld
theorem kn15 : (kE q).2 = 0 ∧ (kE q).1.«to» = aMac ∧ (kE q).1.fm = (2, 0, 0, 0, 0, 42) := ⟨by kernel_rfl, by kernel_rfl, by kernel_rfl⟩
theorem kn16 : (kI q).2 = 0 ∧ (kI q).1.id = 0 ∧ (kI q).1.ttl = 64 ∧ (kI q).1.fm = 0 ∧ (kI q).1.«to» = 4294967295 := ⟨by kernel_rfl, by kernel_rfl, by kernel_rfl, by kernel_rfl, by kernel_rfl⟩
theorem kn17 : (kU q).2 = 0 ∧ (kU q).1.fm = 68 ∧ (kU q).1.tp = 67 := ⟨by kernel_rfl, by kernel_rfl, by kernel_rfl⟩
theorem kn18 : (kD q).2 = 0 ∧ (kD q).1.xid = 16909060 ∧ (kD q).1.reply = false ∧ (kD q).1.mac = (2, 0, 0, 0, 0, 42) := ⟨by kernel_rfl, by kernel_rfl, by kernel_rfl, by kernel_rfl⟩
theorem kn19 : (kD q).1.os = [⟨53, [1]⟩, ⟨55, [1, 3, 51, 54, 58, 59]⟩] := by kernel_rfl
theorem kn20 : (kT1 q).now = 1 := by kernel_rfl
theorem kn21 : lookV (kT2 q) = .agg #[.int .i64 2, .int .i64 1, .int .i64 0, .int .u32 0, .int .i64 0, .int .i64 0, .int .i64 0, .int .i64 0] := by kernel_rfl
theorem kn22 : lookV { kT3 q with tx := [] } = .agg #[.int .i64 3, .int .i64 1, .int .i64 0, .int .u32 0, .int .i64 0, .int .i64 0, .int .i64 1, .int .i64 0] := by kernel_rfl
end
end Go.Proofs.YtcbkaiakdhiloacGreatDoor
set_option maxRecDepth 20000
namespace Go.Proofs.YtcbkaiakdhiloacGreatDoor
open Go.RowKit Go.Proofs
attribute [local go_sem] bs_size bs_append bs_extract bs_toList
def kernelB : List UInt8 := [107, 101, 114, 110, 101, 108]
def cfgK (m : Mac) (q : List UInt8) (b wd : Int) : CfgI := ⟨m, kernelB, 600000, sha q, b, wd, 16, 16⟩
theorem cfgInfo : (Tryz.prog.info? 28).map (·.size) = some 13 := by kernel_rfl
theorem cfgC_one (c : CfgI) : (cfgC c).all (·.oneCell') = true := by simp [cfgC, Value.oneCell']
def CardG (m : Mac) (w : World) : Prop := RowG w 0 #[.int .u8 (m.1.toNat : Int), .int .u8 (m.2.1.toNat : Int), .int .u8 (m.2.2.1.toNat : Int), .int .u8 (m.2.2.2.1.toNat : Int), .int .u8 (m.2.2.2.2.1.toNat : Int), .int .u8 (m.2.2.2.2.2.toNat : Int)]
def zCfg : Array Value := #[.int .u8 0, .int .u8 0, .int .u8 0, .int .u8 0, .int .u8 0, .int .u8 0, .string ⟨#[]⟩, .int .i64 0, .string ⟨#[]⟩, .int .i64 0, .int .i64 0, .int .i64 0, .int .i64 0]
def cfF (u : Nat → Value) : Act := ⟨#[u 0, u 1, u 2, u 3, u 4, u 5, u 6, u 7, u 8, u 9, u 10, u 11, u 12], []⟩
set_option maxRecDepth 100000 in
theorem cfF_eq (u : Nat → Value) : cfF u = frN 13 u := rfl
theorem cfF_of {a : Act} (h : Sz 13 a) : a = cfF (sl a) := h.eq.trans (cfF_eq _).symm
theorem cfR0  (a : Act) (w : World) (K : Exit → Act → World → Prop) (hs : Sz 13 a)
     
    (hK : ∀ a' w', Sz 13 a' → Kp [0, 1, 2] a a' → sl a' 6 = .pointer (some ⟨w.heap.size, 0, none⟩) → Fr noB w w' → Bk w' w.heap.size 28 zCfg → K .normal a' w') :
    (regionOf Tryz.f11 0).wp Tryz.prog K a w := by
  unfold Kp at hK; rw [cfF_of hs]; clear hs; generalize sl a = u at *; clear a; have HK := Lib.hid hK; clear hK; conv => arg 2; whnf
  simp only [cfF]
  go_wp2_with fail
  exact HK.out _ _  ⟨rfl, rfl⟩ (KpU.cons (rfl) (KpU.cons (rfl) (KpU.cons (rfl) (KpU.nil _ _)))) (rfl) ((Fr.refl _ _).alloc _) (Bk.new _ _ _)
theorem cfR1 (m : Mac) (q : List UInt8) (b wd : Int) (g : Nat) (a : Act) (w : World) (K : Exit → Act → World → Prop) (hs : Sz 13 a)
    (h0 : sl a 0 = .string (bs q)) (h1 : sl a 1 = .int .i64 b) (h2 : sl a 2 = .int .i64 wd) (h6 : sl a 6 = .pointer (some ⟨g, 0, none⟩)) (hC : CardG m w) (hG : Glb w) (hB : Bk w g 28 zCfg) (hq : q.length ≤ 100000000000)
    (hK : ∀ a' w', Sz 13 a' → Kp [0, 1, 2, 6] a a' → sl a' 6 = .pointer (some ⟨g, 0, none⟩) → Fr (oneB g) w w' → Bk w' g 28 (cfgC (cfgK m q b wd)) → K .normal a' w') :
    (regionOf Tryz.f11 1).wp Tryz.prog K a w := by
  unfold Kp at hK; rw [cfF_of hs]; clear hs; generalize sl a = u at *; clear a; have HK := Lib.hid hK; clear hK; conv => arg 2; whnf
  simp only [cfF, h0, h1, h2, h6]
  refine wp_region_pls (by kernel_rfl) (fun w' => (CardG m w' ∧ Glb w') ∧ (Bk w' g 28 zCfg ∧ Fr noB w w')) [6] (.p 1 (.p 3 (.p 4 (.q 0 (.e 2 (.p 5 (.e 6 (.nil)))))))) (by kernel_rfl) (⟨⟨hC.keep (Fr.refl noB _).drew (fun x => x), hG.keep (Fr.refl noB _).drew (fun _ _ x => x)⟩, hB.drew, (Fr.refl _ _).drew⟩) ?_
  intro ops Q' hO hQ' wr1 hR1
  iterate 3 (refine pl_p0 hO rfl rfl ?_ (fun w' => ?_) ?_; rotate_left 1; (focus (go_simp; ((try with_reducible rfl); done))); simp only [Act.put, List.setIfInBounds_toArray, List.set_cons_zero, List.set_cons_succ])
  refine pl_q0 hO rfl rfl ?_ (fun w' hS => ?_) ?_; rotate_left 1; (focus (obtain ⟨⟨hC, hG⟩, hB, hF⟩ := hS; have c0 := hC.2 0 _ rfl; have c1 := hC.2 1 _ rfl; have c2 := hC.2 2 _ rfl; have c3 := hC.2 3 _ rfl; have c4 := hC.2 4 _ rfl; have c5 := hC.2 5 _ rfl; go_simp; ((try with_reducible rfl); done))); simp only [Act.put, List.setIfInBounds_toArray, List.set_cons_zero, List.set_cons_succ]
  refine pl_e0 hO rfl rfl rfl (fun K hK => ?_)
  go_simp
  refine (bootHash q hq _ hR1.1.2.rounds hR1.1.2.begin).mono ?_
  rintro e w4 ⟨rfl, fw4⟩
  refine hK _ _ (⟨⟨hR1.1.1.keep fw4 (fun x => x), hR1.1.2.keep fw4 (fun _ _ x => x)⟩, hR1.2.1.keep fw4 (fun x => x), hR1.2.2.none fw4⟩) (fun hR_2 => ?_)
  clear hK K
  refine pl_p0 hO rfl rfl ?_ (fun w' => ?_) ?_; rotate_left 1; (focus (go_simp; ((try with_reducible rfl); done))); simp only [Act.put, List.setIfInBounds_toArray, List.set_cons_zero, List.set_cons_succ]
  refine pl_b0 hO rfl rfl rfl (fun K hK => ?_)
  refine wp_store_bk 28 (.tmp 6) (.tmp 12) rfl g _ _ (cfgC (cfgK m q b wd)) rfl rfl hR_2.2.1 rfl (by kernel_rfl) (cfgC_one _) (fun w5 hx5 hf5 => ?_)
  refine hK _ _ ?_
  clear hK K
  refine pl_nil (hQ' _ _ ?_)
  exact HK.out _ _  ⟨rfl, rfl⟩ (KpU.cons (h0.symm) (KpU.cons (h1.symm) (KpU.cons (h2.symm) (KpU.cons (h6.symm) (KpU.nil _ _))))) (rfl) ((hR_2.2.2.of_no _).trans hf5) hx5
theorem configFn (m : Mac) (q : List UInt8) (b wd : Int) (w : World) (hC : CardG m w) (hG : Glb w) (hq : q.length ≤ 100000000000) :
    Calls Tryz.prog 11 #[.string (bs q), .int .i64 b, .int .i64 wd] w fun e w' => e = .returned (.agg (cfgC (cfgK m q b wd))) ∧ Fr noB w w' := by
  go_enter Tryz.func11, Tryz.ntmps11
  refine wp_seq ?_
  refine cfR0 _ w _ ⟨rfl, rfl⟩ ?_
  intro a0 w0 hs0 k0 o6 hf0 hB0
  refine wp_seq ?_
  refine cfR1 m q b wd _ a0 w0 _ hs0 ((k0 0 (by decide)).trans rfl) ((k0 1 (by decide)).trans rfl) ((k0 2 (by decide)).trans rfl) o6 (hC.keep hf0 (fun x => x)) (hG.keep hf0 (fun _ _ x => x)) hB0 hq ?_
  intro a1 w1 hs1 k1 o6 hf1 hB1
  refine wp_ret ?_
  exact bodyPost_ret (results_cell_row rfl _ _ _ 28 _ (0, 0) _ o6 hB1 Tryz.underlying28 rfl cfgInfo) hs1.defers ⟨rfl, hf0.trans' hf1 fun b hb hx => by have hx' : b = w.heap.size := hx; omega⟩
end Go.Proofs.YtcbkaiakdhiloacGreatDoor
set_option maxRecDepth 20000
namespace Go.Proofs.YtcbkaiakdhiloacGreatDoor
open Go.RowKit Go.Proofs
attribute [local go_sem] bs_size bs_append bs_extract bs_toList
abbrev cardK : Mac := (2, 0, 0, 0, 0, 42)
abbrev q0 : List UInt8 := sha []
theorem q0_len : q0.length = 32 := by kernel_rfl
theorem wpList_store_part {P : Program} {ops : Array Oper} {rest : List Oper} {o : Oper} {a : Act} {w : World} {Q : Exit → Act → World → Prop} (hgd : o.guard = none) (ty : TypeId) (x y : Operand) (ho : o.op = .store ty x y)
    (g k : Nat) (t : TypeId) (cs cells c2 : Array Value) (hx : a.eval x = .pointer (some ⟨g, k, none⟩)) (hy : a.eval y = .agg cells) (hb : Bk w g t cs) (hs : k + cells.size ≤ cs.size)
    (hi : (P.info? ty).map (·.size) = some cells.size) (h1 : cells.all (·.oneCell') = true) (hc : ∀ j, c2[j]? = if k ≤ j ∧ j < k + cells.toList.length then cells.toList[j - k]? else cs[j]?)
    (h : ∀ w', Bk w' g t c2 → Fr (oneB g) w w' → wpList P ops Q rest (a.put o.dst undef) w') : wpList P ops Q (o :: rest) a w :=
  wpList_plain hgd fun K hK => wp_store_mid ty x y ho g k cells hx hy (fun j hj => ⟨by rw [hb.cell (k + j), Array.getElem?_eq_getElem (by omega)]; rfl, hb.free _⟩) hi h1 (hK _ _ (by
    obtain ⟨cs', b1, b2, b3⟩ := Bk.setMany cells.toList k w cs hb (by simpa using hs)
    have e : cs' = c2 := Array.ext_getElem? fun j => by rw [b3 j, hc j]
    subst e
    exact h _ b1 (fr_setCells (S := oneB g) (fun _ => rfl) _ _ _ (Fr.refl (oneB g) w))))
def cgF (u : Nat → Value) : Act := ⟨#[u 0, u 1, u 2, u 3, u 4, u 5, u 6, u 7, u 8, u 9, u 10, u 11, u 12, u 13, u 14, u 15, u 16, u 17, u 18, u 19, u 20, u 21, u 22, u 23, u 24, u 25, u 26, u 27, u 28, u 29, u 30, u 31, u 32, u 33, u 34, u 35, u 36, u 37, u 38, u 39, u 40, u 41, u 42, u 43, u 44, u 45, u 46, u 47, u 48, u 49, u 50, u 51, u 52, u 53, u 54, u 55, u 56], []⟩
set_option maxRecDepth 100000 in
theorem cgF_eq (u : Nat → Value) : cgF u = frN 57 u := rfl
theorem cgF_of {a : Act} (h : Sz 57 a) : a = cgF (sl a) := h.eq.trans (cgF_eq _).symm
theorem cgR0  (a : Act) (w : World) (K : KT) (hs : Sz 57 a)
     
    (hK : ∀ a' w', Sz 57 a' → Kp [0, 3, 5] a a' → sl a' 2 = .pointer (some ⟨w.heap.size, 0, none⟩) → Fr noB w w' → Bk w' w.heap.size 28 zCfg → K .normal a' w') :
    (regionOf Tryz.f13 0).wp Tryz.prog K a w := by
  refine rgE hK (cgF_of hs) fun HK => ?_; clear hK hs
  simp only [cgF]
  go_wp2_with fail
  exact HK.out _ _ ⟨rfl, rfl⟩ kk (rfl) ((Fr.refl _ _).alloc _) (Bk.new _ _ _)
theorem cgR1  (a : Act) (w : World) (K : KT) (hs : Sz 57 a)
     (hC : CardG cardK w) (hG : Glb w)
    (hK : ∀ a' w' g, Sz 57 a' → Kp [0, 2, 5] a a' → sl a' 3 = .pointer (some ⟨g, 0, none⟩) → Fr noB w w' → Bk w' g 28 (cfgC (cfgN q0)) → w.heap.size ≤ g → K .normal a' w') :
    (regionOf Tryz.f13 1).wp Tryz.prog K a w := by
  refine rgE hK (cgF_of hs) fun HK => ?_; clear hK hs
  simp only [cgF]
  go_wp2_with (first | (go_at_call 11; refine (configFn cardK [] 8 1 _ hC hG (by decide)).mono ?_; rintro e w4 ⟨rfl, fw4⟩) | (refine wpList_store_bk rfl 28 (.tmp 3) (.tmp 4) rfl w4.heap.size _ _ (cfgC (cfgN q0)) rfl rfl (Bk.new w4 28 zCfg) rfl cfgInfo (cfgC_one _) ?_; intro w5 hx5 hf5))
  have hfq : Fr noB w w5 := (fw4.alloc _).trans' hf5 (fun b hb hx => by have hx' : b = w4.heap.size := hx; have := fw4.size; omega)
  exact HK.out _ _ w4.heap.size ⟨rfl, rfl⟩ kk (rfl) (hfq) hx5 fw4.size
theorem cgR2 (k : Nat) (a : Act) (w : World) (K : KT) (hs : Sz 57 a)
    (h0 : sl a 0 = .int .i64 (k : Int)) 
    (hK : ∀ a' w', Sz 57 a' → Kp [0, 2, 3] a a' → sl a' 5 = .int .i64 (k : Int) → w' = w → K .normal a' w') :
    (regionOf Tryz.f13 2).wp Tryz.prog K a w := by
  refine rgE hK (cgF_of hs) fun HK => ?_; clear hK hs
  simp only [cgF, h0]
  go_wp2_with fail
  exact HK.out _ _ ⟨rfl, rfl⟩ kk (rfl) rfl
theorem cgT0 (k : Nat) (a : Act) (w : World) (K : KT) (hs : Sz 57 a)
    (h5 : sl a 5 = .int .i64 (k : Int)) 
    (hK : ∀ a' w', Sz 57 a' → Kp [0, 2, 3, 5] a a' → sl a' 6 = .bool (decide (k = 0)) → w' = w → K .normal a' w') :
    (regionOf Tryz.f13 3).wp Tryz.prog K a w := by
  refine rgE hK (cgF_of hs) fun HK => ?_; clear hK hs
  simp only [cgF, h5]
  have e_ : ((k : Int) == 0) = decide (k = 0) := by rw [Bool.eq_iff_iff]; simp; try omega
  go_wp2_with fail
  exact HK.out _ _ ⟨rfl, rfl⟩ kk (rfl) rfl
theorem cgT1 (k : Nat) (a : Act) (w : World) (K : KT) (hs : Sz 57 a)
    (h5 : sl a 5 = .int .i64 (k : Int)) 
    (hK : ∀ a' w', Sz 57 a' → Kp [0, 2, 3, 5] a a' → sl a' 10 = .bool (decide (k = 1)) → w' = w → K .normal a' w') :
    (regionOf Tryz.f13 5).wp Tryz.prog K a w := by
  refine rgE hK (cgF_of hs) fun HK => ?_; clear hK hs
  simp only [cgF, h5]
  have e_ : ((k : Int) == 1) = decide (k = 1) := by rw [Bool.eq_iff_iff]; simp; try omega
  go_wp2_with fail
  exact HK.out _ _ ⟨rfl, rfl⟩ kk (rfl) rfl
theorem cgT2 (k : Nat) (a : Act) (w : World) (K : KT) (hs : Sz 57 a)
    (h5 : sl a 5 = .int .i64 (k : Int)) 
    (hK : ∀ a' w', Sz 57 a' → Kp [0, 2, 3, 5] a a' → sl a' 14 = .bool (decide (k = 2)) → w' = w → K .normal a' w') :
    (regionOf Tryz.f13 7).wp Tryz.prog K a w := by
  refine rgE hK (cgF_of hs) fun HK => ?_; clear hK hs
  simp only [cgF, h5]
  have e_ : ((k : Int) == 2) = decide (k = 2) := by rw [Bool.eq_iff_iff]; simp; try omega
  go_wp2_with fail
  exact HK.out _ _ ⟨rfl, rfl⟩ kk (rfl) rfl
theorem cgT3 (k : Nat) (a : Act) (w : World) (K : KT) (hs : Sz 57 a)
    (h5 : sl a 5 = .int .i64 (k : Int)) 
    (hK : ∀ a' w', Sz 57 a' → Kp [0, 2, 3, 5] a a' → sl a' 17 = .bool (decide (k = 3)) → w' = w → K .normal a' w') :
    (regionOf Tryz.f13 9).wp Tryz.prog K a w := by
  refine rgE hK (cgF_of hs) fun HK => ?_; clear hK hs
  simp only [cgF, h5]
  have e_ : ((k : Int) == 3) = decide (k = 3) := by rw [Bool.eq_iff_iff]; simp; try omega
  go_wp2_with fail
  exact HK.out _ _ ⟨rfl, rfl⟩ kk (rfl) rfl
theorem cgT4 (k : Nat) (a : Act) (w : World) (K : KT) (hs : Sz 57 a)
    (h5 : sl a 5 = .int .i64 (k : Int)) 
    (hK : ∀ a' w', Sz 57 a' → Kp [0, 2, 3, 5] a a' → sl a' 20 = .bool (decide (k = 4)) → w' = w → K .normal a' w') :
    (regionOf Tryz.f13 11).wp Tryz.prog K a w := by
  refine rgE hK (cgF_of hs) fun HK => ?_; clear hK hs
  simp only [cgF, h5]
  have e_ : ((k : Int) == 4) = decide (k = 4) := by rw [Bool.eq_iff_iff]; simp; try omega
  go_wp2_with fail
  exact HK.out _ _ ⟨rfl, rfl⟩ kk (rfl) rfl
theorem cgT5 (k : Nat) (a : Act) (w : World) (K : KT) (hs : Sz 57 a)
    (h5 : sl a 5 = .int .i64 (k : Int)) 
    (hK : ∀ a' w', Sz 57 a' → Kp [0, 2, 3, 5] a a' → sl a' 23 = .bool (decide (k = 5)) → w' = w → K .normal a' w') :
    (regionOf Tryz.f13 13).wp Tryz.prog K a w := by
  refine rgE hK (cgF_of hs) fun HK => ?_; clear hK hs
  simp only [cgF, h5]
  have e_ : ((k : Int) == 5) = decide (k = 5) := by rw [Bool.eq_iff_iff]; simp; try omega
  go_wp2_with fail
  exact HK.out _ _ ⟨rfl, rfl⟩ kk (rfl) rfl
theorem cgT6 (k : Nat) (a : Act) (w : World) (K : KT) (hs : Sz 57 a)
    (h5 : sl a 5 = .int .i64 (k : Int)) 
    (hK : ∀ a' w', Sz 57 a' → Kp [0, 2, 3, 5] a a' → sl a' 26 = .bool (decide (k = 6)) → w' = w → K .normal a' w') :
    (regionOf Tryz.f13 15).wp Tryz.prog K a w := by
  refine rgE hK (cgF_of hs) fun HK => ?_; clear hK hs
  simp only [cgF, h5]
  have e_ : ((k : Int) == 6) = decide (k = 6) := by rw [Bool.eq_iff_iff]; simp; try omega
  go_wp2_with fail
  exact HK.out _ _ ⟨rfl, rfl⟩ kk (rfl) rfl
theorem cgT7 (k : Nat) (a : Act) (w : World) (K : KT) (hs : Sz 57 a)
    (h5 : sl a 5 = .int .i64 (k : Int)) 
    (hK : ∀ a' w', Sz 57 a' → Kp [0, 2, 3, 5] a a' → sl a' 29 = .bool (decide (k = 7)) → w' = w → K .normal a' w') :
    (regionOf Tryz.f13 17).wp Tryz.prog K a w := by
  refine rgE hK (cgF_of hs) fun HK => ?_; clear hK hs
  simp only [cgF, h5]
  have e_ : ((k : Int) == 7) = decide (k = 7) := by rw [Bool.eq_iff_iff]; simp; try omega
  go_wp2_with fail
  exact HK.out _ _ ⟨rfl, rfl⟩ kk (rfl) rfl
theorem cgT8 (k : Nat) (a : Act) (w : World) (K : KT) (hs : Sz 57 a)
    (h5 : sl a 5 = .int .i64 (k : Int)) 
    (hK : ∀ a' w', Sz 57 a' → Kp [0, 2, 3, 5] a a' → sl a' 32 = .bool (decide (k = 8)) → w' = w → K .normal a' w') :
    (regionOf Tryz.f13 19).wp Tryz.prog K a w := by
  refine rgE hK (cgF_of hs) fun HK => ?_; clear hK hs
  simp only [cgF, h5]
  have e_ : ((k : Int) == 8) = decide (k = 8) := by rw [Bool.eq_iff_iff]; simp; try omega
  go_wp2_with fail
  exact HK.out _ _ ⟨rfl, rfl⟩ kk (rfl) rfl
theorem cgT9 (k : Nat) (a : Act) (w : World) (K : KT) (hs : Sz 57 a)
    (h5 : sl a 5 = .int .i64 (k : Int)) 
    (hK : ∀ a' w', Sz 57 a' → Kp [0, 2, 3, 5] a a' → sl a' 35 = .bool (decide (k = 9)) → w' = w → K .normal a' w') :
    (regionOf Tryz.f13 21).wp Tryz.prog K a w := by
  refine rgE hK (cgF_of hs) fun HK => ?_; clear hK hs
  simp only [cgF, h5]
  have e_ : ((k : Int) == 9) = decide (k = 9) := by rw [Bool.eq_iff_iff]; simp; try omega
  go_wp2_with fail
  exact HK.out _ _ ⟨rfl, rfl⟩ kk (rfl) rfl
theorem cgT10 (k : Nat) (a : Act) (w : World) (K : KT) (hs : Sz 57 a)
    (h5 : sl a 5 = .int .i64 (k : Int)) 
    (hK : ∀ a' w', Sz 57 a' → Kp [0, 2, 3, 5] a a' → sl a' 38 = .bool (decide (k = 10)) → w' = w → K .normal a' w') :
    (regionOf Tryz.f13 23).wp Tryz.prog K a w := by
  refine rgE hK (cgF_of hs) fun HK => ?_; clear hK hs
  simp only [cgF, h5]
  have e_ : ((k : Int) == 10) = decide (k = 10) := by rw [Bool.eq_iff_iff]; simp; try omega
  go_wp2_with fail
  exact HK.out _ _ ⟨rfl, rfl⟩ kk (rfl) rfl
theorem cgT11 (k : Nat) (a : Act) (w : World) (K : KT) (hs : Sz 57 a)
    (h5 : sl a 5 = .int .i64 (k : Int)) 
    (hK : ∀ a' w', Sz 57 a' → Kp [0, 2, 3, 5] a a' → sl a' 41 = .bool (decide (k = 11)) → w' = w → K .normal a' w') :
    (regionOf Tryz.f13 25).wp Tryz.prog K a w := by
  refine rgE hK (cgF_of hs) fun HK => ?_; clear hK hs
  simp only [cgF, h5]
  have e_ : ((k : Int) == 11) = decide (k = 11) := by rw [Bool.eq_iff_iff]; simp; try omega
  go_wp2_with fail
  exact HK.out _ _ ⟨rfl, rfl⟩ kk (rfl) rfl
theorem cgT12 (k : Nat) (a : Act) (w : World) (K : KT) (hs : Sz 57 a)
    (h5 : sl a 5 = .int .i64 (k : Int)) 
    (hK : ∀ a' w', Sz 57 a' → Kp [0, 2, 3, 5] a a' → sl a' 44 = .bool (decide (k = 12)) → w' = w → K .normal a' w') :
    (regionOf Tryz.f13 27).wp Tryz.prog K a w := by
  refine rgE hK (cgF_of hs) fun HK => ?_; clear hK hs
  simp only [cgF, h5]
  have e_ : ((k : Int) == 12) = decide (k = 12) := by rw [Bool.eq_iff_iff]; simp; try omega
  go_wp2_with fail
  exact HK.out _ _ ⟨rfl, rfl⟩ kk (rfl) rfl
theorem cgT13 (k : Nat) (a : Act) (w : World) (K : KT) (hs : Sz 57 a)
    (h5 : sl a 5 = .int .i64 (k : Int)) 
    (hK : ∀ a' w', Sz 57 a' → Kp [0, 2, 3, 5] a a' → sl a' 47 = .bool (decide (k = 13)) → w' = w → K .normal a' w') :
    (regionOf Tryz.f13 29).wp Tryz.prog K a w := by
  refine rgE hK (cgF_of hs) fun HK => ?_; clear hK hs
  simp only [cgF, h5]
  have e_ : ((k : Int) == 13) = decide (k = 13) := by rw [Bool.eq_iff_iff]; simp; try omega
  go_wp2_with fail
  exact HK.out _ _ ⟨rfl, rfl⟩ kk (rfl) rfl
theorem cgT14 (k : Nat) (a : Act) (w : World) (K : KT) (hs : Sz 57 a)
    (h5 : sl a 5 = .int .i64 (k : Int)) 
    (hK : ∀ a' w', Sz 57 a' → Kp [0, 2, 3, 5] a a' → sl a' 50 = .bool (decide (k = 14)) → w' = w → K .normal a' w') :
    (regionOf Tryz.f13 31).wp Tryz.prog K a w := by
  refine rgE hK (cgF_of hs) fun HK => ?_; clear hK hs
  simp only [cgF, h5]
  have e_ : ((k : Int) == 14) = decide (k = 14) := by rw [Bool.eq_iff_iff]; simp; try omega
  go_wp2_with fail
  exact HK.out _ _ ⟨rfl, rfl⟩ kk (rfl) rfl
theorem cgT15 (k : Nat) (a : Act) (w : World) (K : KT) (hs : Sz 57 a)
    (h5 : sl a 5 = .int .i64 (k : Int)) 
    (hK : ∀ a' w', Sz 57 a' → Kp [0, 2, 3, 5] a a' → sl a' 53 = .bool (decide (k = 15)) → w' = w → K .normal a' w') :
    (regionOf Tryz.f13 33).wp Tryz.prog K a w := by
  refine rgE hK (cgF_of hs) fun HK => ?_; clear hK hs
  simp only [cgF, h5]
  have e_ : ((k : Int) == 15) = decide (k = 15) := by rw [Bool.eq_iff_iff]; simp; try omega
  go_wp2_with fail
  exact HK.out _ _ ⟨rfl, rfl⟩ kk (rfl) rfl
theorem cgS0 (g : Nat) (a : Act) (w : World) (K : KT) (hs : Sz 57 a)
    (h3 : sl a 3 = .pointer (some ⟨g, 0, none⟩)) (hB : Bk w g 28 (cfgC (cfgN q0)))
    (hK : ∀ a' w', Sz 57 a' → Kp [0, 2, 3, 5] a a' → Fr (oneB g) w w' → Bk w' g 28 (cfgC (chg q0 0)) → K .normal a' w') :
    (regionOf Tryz.f13 4).wp Tryz.prog K a w := by
  refine rgE hK (cgF_of hs) fun HK => ?_; clear hK hs
  simp only [cgF, h3]
  go_wp2_with ((refine wpList_store_part rfl 26 (.tmp 9) (.tmp 8) rfl g 0 _ _ _ (cfgC (chg q0 0)) rfl rfl hB (by decide) (by kernel_rfl) (by kernel_rfl) (fun j => by match j with | 0 | 1 | 2 | 3 | 4 | 5 | 6 | 7 | 8 | 9 | 10 | 11 | 12 => rfl | n + 13 => rw [if_neg (fun x => absurd x.2 (by simp)), Array.getElem?_eq_none (by simp [cfgC]), Array.getElem?_eq_none (by simp [cfgC])]) ?_); intro w5 hx5 hf5)
  exact HK.out _ _ ⟨rfl, rfl⟩ kk  hf5 hx5
theorem cgS1 (g : Nat) (a : Act) (w : World) (K : KT) (hs : Sz 57 a)
    (h3 : sl a 3 = .pointer (some ⟨g, 0, none⟩)) (hB : Bk w g 28 (cfgC (cfgN q0)))
    (hK : ∀ a' w', Sz 57 a' → Kp [0, 2, 3, 5] a a' → Fr (oneB g) w w' → Bk w' g 28 (cfgC (chg q0 1)) → K .normal a' w') :
    (regionOf Tryz.f13 6).wp Tryz.prog K a w := by
  refine rgE hK (cgF_of hs) fun HK => ?_; clear hK hs
  simp only [cgF, h3]
  have c_ := hB.cell 0
  have hfz := hB.free 0
  go_wp2_with fail
  exact HK.out _ _ ⟨rfl, rfl⟩ kk  ((Fr.refl (oneB g) w).setCell (p := ⟨g, 0, none⟩) (fun _ => rfl) (.int .u8 1)) (hB.set 0 (.int .u8 1))
theorem cgS2 (g : Nat) (a : Act) (w : World) (K : KT) (hs : Sz 57 a)
    (h3 : sl a 3 = .pointer (some ⟨g, 0, none⟩)) (hB : Bk w g 28 (cfgC (cfgN q0)))
    (hK : ∀ a' w', Sz 57 a' → Kp [0, 2, 3, 5] a a' → Fr (oneB g) w w' → Bk w' g 28 (cfgC (chg q0 2)) → K .normal a' w') :
    (regionOf Tryz.f13 8).wp Tryz.prog K a w := by
  refine rgE hK (cgF_of hs) fun HK => ?_; clear hK hs
  simp only [cgF, h3]
  have c_ := hB.cell 6
  have hfz := hB.free 6
  go_wp2_with fail
  exact HK.out _ _ ⟨rfl, rfl⟩ kk  ((Fr.refl (oneB g) w).setCell (p := ⟨g, 6, none⟩) (fun _ => rfl) (.string ⟨#[]⟩)) (hB.set 6 (.string ⟨#[]⟩))
theorem cgS3 (g : Nat) (a : Act) (w : World) (K : KT) (hs : Sz 57 a)
    (h3 : sl a 3 = .pointer (some ⟨g, 0, none⟩)) (hB : Bk w g 28 (cfgC (cfgN q0)))
    (hK : ∀ a' w', Sz 57 a' → Kp [0, 2, 3, 5] a a' → Fr (oneB g) w w' → Bk w' g 28 (cfgC (chg q0 3)) → K .normal a' w') :
    (regionOf Tryz.f13 10).wp Tryz.prog K a w := by
  refine rgE hK (cgF_of hs) fun HK => ?_; clear hK hs
  simp only [cgF, h3]
  have c_ := hB.cell 6
  have hfz := hB.free 6
  go_wp2_with fail
  exact HK.out _ _ ⟨rfl, rfl⟩ kk  ((Fr.refl (oneB g) w).setCell (p := ⟨g, 6, none⟩) (fun _ => rfl) (.string (bs [97, 32, 98]))) (hB.set 6 (.string (bs [97, 32, 98])))
theorem cgS4 (g : Nat) (a : Act) (w : World) (K : KT) (hs : Sz 57 a)
    (h3 : sl a 3 = .pointer (some ⟨g, 0, none⟩)) (hB : Bk w g 28 (cfgC (cfgN q0)))
    (hK : ∀ a' w', Sz 57 a' → Kp [0, 2, 3, 5] a a' → Fr (oneB g) w w' → Bk w' g 28 (cfgC (chg q0 4)) → K .normal a' w') :
    (regionOf Tryz.f13 12).wp Tryz.prog K a w := by
  refine rgE hK (cgF_of hs) fun HK => ?_; clear hK hs
  simp only [cgF, h3]
  have c_ := hB.cell 6
  have hfz := hB.free 6
  go_wp2_with fail
  exact HK.out _ _ ⟨rfl, rfl⟩ kk  ((Fr.refl (oneB g) w).setCell (p := ⟨g, 6, none⟩) (fun _ => rfl) (.string (bs [97, 98, 99, 100, 101, 102, 103, 104, 105, 106, 107, 108, 109, 110, 111, 112, 113, 114, 115, 116, 117]))) (hB.set 6 (.string (bs [97, 98, 99, 100, 101, 102, 103, 104, 105, 106, 107, 108, 109, 110, 111, 112, 113, 114, 115, 116, 117])))
theorem cgS5 (g : Nat) (a : Act) (w : World) (K : KT) (hs : Sz 57 a)
    (h3 : sl a 3 = .pointer (some ⟨g, 0, none⟩)) (hB : Bk w g 28 (cfgC (cfgN q0)))
    (hK : ∀ a' w', Sz 57 a' → Kp [0, 2, 3, 5] a a' → Fr (oneB g) w w' → Bk w' g 28 (cfgC (chg q0 5)) → K .normal a' w') :
    (regionOf Tryz.f13 14).wp Tryz.prog K a w := by
  refine rgE hK (cgF_of hs) fun HK => ?_; clear hK hs
  simp only [cgF, h3]
  have c_ := hB.cell 8
  have hfz := hB.free 8
  go_wp2_with fail
  exact HK.out _ _ ⟨rfl, rfl⟩ kk  ((Fr.refl (oneB g) w).setCell (p := ⟨g, 8, none⟩) (fun _ => rfl) (.string (bs [120]))) (hB.set 8 (.string (bs [120])))
theorem cgS6 (g : Nat) (a : Act) (w : World) (K : KT) (hs : Sz 57 a)
    (h3 : sl a 3 = .pointer (some ⟨g, 0, none⟩)) (hB : Bk w g 28 (cfgC (cfgN q0)))
    (hK : ∀ a' w', Sz 57 a' → Kp [0, 2, 3, 5] a a' → Fr (oneB g) w w' → Bk w' g 28 (cfgC (chg q0 6)) → K .normal a' w') :
    (regionOf Tryz.f13 16).wp Tryz.prog K a w := by
  refine rgE hK (cgF_of hs) fun HK => ?_; clear hK hs
  simp only [cgF, h3]
  have c_ := hB.cell 7
  have hfz := hB.free 7
  go_wp2_with fail
  exact HK.out _ _ ⟨rfl, rfl⟩ kk  ((Fr.refl (oneB g) w).setCell (p := ⟨g, 7, none⟩) (fun _ => rfl) (.int .i64 0)) (hB.set 7 (.int .i64 0))
theorem cgS7 (g : Nat) (a : Act) (w : World) (K : KT) (hs : Sz 57 a)
    (h3 : sl a 3 = .pointer (some ⟨g, 0, none⟩)) (hB : Bk w g 28 (cfgC (cfgN q0)))
    (hK : ∀ a' w', Sz 57 a' → Kp [0, 2, 3, 5] a a' → Fr (oneB g) w w' → Bk w' g 28 (cfgC (chg q0 7)) → K .normal a' w') :
    (regionOf Tryz.f13 18).wp Tryz.prog K a w := by
  refine rgE hK (cgF_of hs) fun HK => ?_; clear hK hs
  simp only [cgF, h3]
  have c_ := hB.cell 7
  have hfz := hB.free 7
  go_wp2_with fail
  exact HK.out _ _ ⟨rfl, rfl⟩ kk  ((Fr.refl (oneB g) w).setCell (p := ⟨g, 7, none⟩) (fun _ => rfl) (.int .i64 600001)) (hB.set 7 (.int .i64 600001))
theorem cgS8 (g : Nat) (a : Act) (w : World) (K : KT) (hs : Sz 57 a)
    (h3 : sl a 3 = .pointer (some ⟨g, 0, none⟩)) (hB : Bk w g 28 (cfgC (cfgN q0)))
    (hK : ∀ a' w', Sz 57 a' → Kp [0, 2, 3, 5] a a' → Fr (oneB g) w w' → Bk w' g 28 (cfgC (chg q0 8)) → K .normal a' w') :
    (regionOf Tryz.f13 20).wp Tryz.prog K a w := by
  refine rgE hK (cgF_of hs) fun HK => ?_; clear hK hs
  simp only [cgF, h3]
  have c_ := hB.cell 9
  have hfz := hB.free 9
  go_wp2_with fail
  exact HK.out _ _ ⟨rfl, rfl⟩ kk  ((Fr.refl (oneB g) w).setCell (p := ⟨g, 9, none⟩) (fun _ => rfl) (.int .i64 7)) (hB.set 9 (.int .i64 7))
theorem cgS9 (g : Nat) (a : Act) (w : World) (K : KT) (hs : Sz 57 a)
    (h3 : sl a 3 = .pointer (some ⟨g, 0, none⟩)) (hB : Bk w g 28 (cfgC (cfgN q0)))
    (hK : ∀ a' w', Sz 57 a' → Kp [0, 2, 3, 5] a a' → Fr (oneB g) w w' → Bk w' g 28 (cfgC (chg q0 9)) → K .normal a' w') :
    (regionOf Tryz.f13 22).wp Tryz.prog K a w := by
  refine rgE hK (cgF_of hs) fun HK => ?_; clear hK hs
  simp only [cgF, h3]
  have c_ := hB.cell 9
  have hfz := hB.free 9
  go_wp2_with fail
  exact HK.out _ _ ⟨rfl, rfl⟩ kk  ((Fr.refl (oneB g) w).setCell (p := ⟨g, 9, none⟩) (fun _ => rfl) (.int .i64 1025)) (hB.set 9 (.int .i64 1025))
theorem cgS10 (g : Nat) (a : Act) (w : World) (K : KT) (hs : Sz 57 a)
    (h3 : sl a 3 = .pointer (some ⟨g, 0, none⟩)) (hB : Bk w g 28 (cfgC (cfgN q0)))
    (hK : ∀ a' w', Sz 57 a' → Kp [0, 2, 3, 5] a a' → Fr (oneB g) w w' → Bk w' g 28 (cfgC (chg q0 10)) → K .normal a' w') :
    (regionOf Tryz.f13 24).wp Tryz.prog K a w := by
  refine rgE hK (cgF_of hs) fun HK => ?_; clear hK hs
  simp only [cgF, h3]
  have c_ := hB.cell 10
  have hfz := hB.free 10
  go_wp2_with fail
  exact HK.out _ _ ⟨rfl, rfl⟩ kk  ((Fr.refl (oneB g) w).setCell (p := ⟨g, 10, none⟩) (fun _ => rfl) (.int .i64 0)) (hB.set 10 (.int .i64 0))
theorem cgS11 (g : Nat) (a : Act) (w : World) (K : KT) (hs : Sz 57 a)
    (h3 : sl a 3 = .pointer (some ⟨g, 0, none⟩)) (hB : Bk w g 28 (cfgC (cfgN q0)))
    (hK : ∀ a' w', Sz 57 a' → Kp [0, 2, 3, 5] a a' → Fr (oneB g) w w' → Bk w' g 28 (cfgC (chg q0 11)) → K .normal a' w') :
    (regionOf Tryz.f13 26).wp Tryz.prog K a w := by
  refine rgE hK (cgF_of hs) fun HK => ?_; clear hK hs
  simp only [cgF, h3]
  have c_ := hB.cell 10
  have hfz := hB.free 10
  go_wp2_with fail
  exact HK.out _ _ ⟨rfl, rfl⟩ kk  ((Fr.refl (oneB g) w).setCell (p := ⟨g, 10, none⟩) (fun _ => rfl) (.int .i64 9)) (hB.set 10 (.int .i64 9))
theorem cgS12 (g : Nat) (a : Act) (w : World) (K : KT) (hs : Sz 57 a)
    (h3 : sl a 3 = .pointer (some ⟨g, 0, none⟩)) (hB : Bk w g 28 (cfgC (cfgN q0)))
    (hK : ∀ a' w', Sz 57 a' → Kp [0, 2, 3, 5] a a' → Fr (oneB g) w w' → Bk w' g 28 (cfgC (chg q0 12)) → K .normal a' w') :
    (regionOf Tryz.f13 28).wp Tryz.prog K a w := by
  refine rgE hK (cgF_of hs) fun HK => ?_; clear hK hs
  simp only [cgF, h3]
  have c_ := hB.cell 11
  have hfz := hB.free 11
  go_wp2_with fail
  exact HK.out _ _ ⟨rfl, rfl⟩ kk  ((Fr.refl (oneB g) w).setCell (p := ⟨g, 11, none⟩) (fun _ => rfl) (.int .i64 0)) (hB.set 11 (.int .i64 0))
theorem cgS13 (g : Nat) (a : Act) (w : World) (K : KT) (hs : Sz 57 a)
    (h3 : sl a 3 = .pointer (some ⟨g, 0, none⟩)) (hB : Bk w g 28 (cfgC (cfgN q0)))
    (hK : ∀ a' w', Sz 57 a' → Kp [0, 2, 3, 5] a a' → Fr (oneB g) w w' → Bk w' g 28 (cfgC (chg q0 13)) → K .normal a' w') :
    (regionOf Tryz.f13 30).wp Tryz.prog K a w := by
  refine rgE hK (cgF_of hs) fun HK => ?_; clear hK hs
  simp only [cgF, h3]
  have c_ := hB.cell 11
  have hfz := hB.free 11
  go_wp2_with fail
  exact HK.out _ _ ⟨rfl, rfl⟩ kk  ((Fr.refl (oneB g) w).setCell (p := ⟨g, 11, none⟩) (fun _ => rfl) (.int .i64 17)) (hB.set 11 (.int .i64 17))
theorem cgS14 (g : Nat) (a : Act) (w : World) (K : KT) (hs : Sz 57 a)
    (h3 : sl a 3 = .pointer (some ⟨g, 0, none⟩)) (hB : Bk w g 28 (cfgC (cfgN q0)))
    (hK : ∀ a' w', Sz 57 a' → Kp [0, 2, 3, 5] a a' → Fr (oneB g) w w' → Bk w' g 28 (cfgC (chg q0 14)) → K .normal a' w') :
    (regionOf Tryz.f13 32).wp Tryz.prog K a w := by
  refine rgE hK (cgF_of hs) fun HK => ?_; clear hK hs
  simp only [cgF, h3]
  have c_ := hB.cell 12
  have hfz := hB.free 12
  go_wp2_with fail
  exact HK.out _ _ ⟨rfl, rfl⟩ kk  ((Fr.refl (oneB g) w).setCell (p := ⟨g, 12, none⟩) (fun _ => rfl) (.int .i64 0)) (hB.set 12 (.int .i64 0))
theorem cgS15 (g : Nat) (a : Act) (w : World) (K : KT) (hs : Sz 57 a)
    (h3 : sl a 3 = .pointer (some ⟨g, 0, none⟩)) (hB : Bk w g 28 (cfgC (cfgN q0)))
    (hK : ∀ a' w', Sz 57 a' → Kp [0, 2, 3, 5] a a' → Fr (oneB g) w w' → Bk w' g 28 (cfgC (chg q0 15)) → K .normal a' w') :
    (regionOf Tryz.f13 34).wp Tryz.prog K a w := by
  refine rgE hK (cgF_of hs) fun HK => ?_; clear hK hs
  simp only [cgF, h3]
  have c_ := hB.cell 12
  have hfz := hB.free 12
  go_wp2_with fail
  exact HK.out _ _ ⟨rfl, rfl⟩ kk  ((Fr.refl (oneB g) w).setCell (p := ⟨g, 12, none⟩) (fun _ => rfl) (.int .i64 17)) (hB.set 12 (.int .i64 17))
theorem cgR35 (g g2 : Nat) (c : CfgI) (a : Act) (w : World) (K : KT) (hs : Sz 57 a)
    (h2 : sl a 2 = .pointer (some ⟨g2, 0, none⟩)) (h3 : sl a 3 = .pointer (some ⟨g, 0, none⟩)) (hB : Bk w g 28 (cfgC c)) (hZ : Bk w g2 28 zCfg)
    (hK : ∀ a' w', Sz 57 a' → Kp [0, 2, 3, 5] a a' → Fr (oneB g2) w w' → Bk w' g2 28 (cfgC c) → K .normal a' w') :
    (regionOf Tryz.f13 35).wp Tryz.prog K a w := by
  refine rgE hK (cgF_of hs) fun HK => ?_; clear hK hs
  simp only [cgF, h2, h3]
  have hu := Tryz.underlying28
  have hi : (Tryz.prog.info? 28).map (·.size) = some (cfgC c).size := cfgInfo
  go_wp2_with (first | (refine wpList_load_row rfl 28 (.tmp 3) rfl g rfl 28 (cfgC c) (0, 0) _ hB hu rfl hi ?_) | (refine wpList_store_bk rfl 28 (.tmp 2) (.tmp 56) rfl g2 _ _ (cfgC c) rfl rfl hZ rfl cfgInfo (cfgC_one _) ?_; intro w5 hx5 hf5))
  exact HK.out _ _ ⟨rfl, rfl⟩ kk  hf5 hx5
theorem changedFn (k : Nat) (hk : k < 16) (w : World) (hC : CardG cardK w) (hG : Glb w) : Calls Tryz.prog 13 #[.int .i64 (k : Int)] w fun e w' => e = .returned (.agg (cfgC (chg q0 k))) ∧ Fr noB w w' := by
  go_enter Tryz.func13, Tryz.ntmps13
  refine wp_seq ?_
  refine cgR0 _ w _ ⟨rfl, rfl⟩ ?_
  intro a0 w0 hs0 k0 o2 f0 hZ0
  have hgl : w.heap.size < w0.heap.size := hZ0.lt
  refine wp_seq ?_
  refine cgR1 a0 w0 _ hs0 (hC.keep f0 (fun x => x)) (hG.keep f0 (fun _ _ x => x)) ?_
  intro a1 w1 g hs1 k1 o3 f1 hB1 hg
  have hZ1 := hZ0.keep f1 (fun x => x)
  refine wp_seq (wp_seq ?_)
  refine cgR2 k a1 w1 _ hs1 ((k1 0 (by decide)).trans ((k0 0 (by decide)).trans rfl)) ?_
  intro a2 w2 hs2 k2 o5 hw; subst w2
  have e2 := (k2 2 (by decide)).trans ((k1 2 (by decide)).trans o2)
  have e3 := (k2 3 (by decide)).trans o3
  have fin : ∀ (a' : Act) (w' : World), Sz 57 a' → sl a' 2 = .pointer (some ⟨w.heap.size, 0, none⟩) → sl a' 3 = .pointer (some ⟨g, 0, none⟩) → Fr (oneB g) w1 w' → Bk w' g 28 (cfgC (chg q0 k)) → (((regionOf Tryz.f13 35).seq .ret)).wp Tryz.prog (bodyPost Tryz.prog Tryz.f13 fun e w' => e = .returned (.agg (cfgC (chg q0 k))) ∧ Fr noB w w') a' w' := by
    intro a' w' hs' e2 e3 hf hB
    refine wp_seq ?_
    refine cgR35 g _ _ a' w' _ hs' e2 e3 hB (hZ1.keep hf (fun hx => by have hx' : w.heap.size = g := hx; omega)) ?_
    intro a3 w3 hs3 k3 hf3 hB3
    refine wp_ret ?_
    refine bodyPost_ret (results_cell_row rfl _ _ _ 28 _ (0, 0) _ ((k3 2 (by decide)).trans e2) hB3 Tryz.underlying28 rfl cfgInfo) hs3.defers ⟨rfl, ((f0.none f1).trans' hf (fun b hb hx => ?_)).trans' hf3 (fun b hb hx => ?_)⟩
    · have hx' : b = g := hx; have := f0.size; omega
    · have hx' : b = w.heap.size := hx; omega
  clear k0 k1 k2
  refine wp_block ?_
  refine wp_seq ?_
  refine cgT0 k a2 w1 _ hs2 o5 ?_
  intro a3 v0 hs3 kk0 ot hw; subst v0
  have e2 := (kk0 2 (by decide)).trans e2
  have e3 := (kk0 3 (by decide)).trans e3
  have o5 := (kk0 5 (by decide)).trans o5
  refine wp_if ot (fun hb => ?_) (fun hb => ?_)
  · obtain rfl : k = 0 := of_decide_eq_true hb
    refine cgS0 g a3 w1 _ hs3 e3 hB1 ?_
    intro b1 v1 hs' k' hf hB
    exact fin b1 v1 hs' ((k' 2 (by decide)).trans e2) ((k' 3 (by decide)).trans e3) hf hB
  have n0 := of_decide_eq_false hb
  refine wp_seq ?_
  refine cgT1 k a3 w1 _ hs3 o5 ?_
  intro a4 v1 hs4 kk1 ot hw; subst v1
  have e2 := (kk1 2 (by decide)).trans e2
  have e3 := (kk1 3 (by decide)).trans e3
  have o5 := (kk1 5 (by decide)).trans o5
  refine wp_if ot (fun hb => ?_) (fun hb => ?_)
  · obtain rfl : k = 1 := of_decide_eq_true hb
    refine cgS1 g a4 w1 _ hs4 e3 hB1 ?_
    intro b1 v1 hs' k' hf hB
    exact fin b1 v1 hs' ((k' 2 (by decide)).trans e2) ((k' 3 (by decide)).trans e3) hf hB
  have n1 := of_decide_eq_false hb
  refine wp_seq ?_
  refine cgT2 k a4 w1 _ hs4 o5 ?_
  intro a5 v2 hs5 kk2 ot hw; subst v2
  have e2 := (kk2 2 (by decide)).trans e2
  have e3 := (kk2 3 (by decide)).trans e3
  have o5 := (kk2 5 (by decide)).trans o5
  refine wp_if ot (fun hb => ?_) (fun hb => ?_)
  · obtain rfl : k = 2 := of_decide_eq_true hb
    refine cgS2 g a5 w1 _ hs5 e3 hB1 ?_
    intro b1 v1 hs' k' hf hB
    exact fin b1 v1 hs' ((k' 2 (by decide)).trans e2) ((k' 3 (by decide)).trans e3) hf hB
  have n2 := of_decide_eq_false hb
  refine wp_seq ?_
  refine cgT3 k a5 w1 _ hs5 o5 ?_
  intro a6 v3 hs6 kk3 ot hw; subst v3
  have e2 := (kk3 2 (by decide)).trans e2
  have e3 := (kk3 3 (by decide)).trans e3
  have o5 := (kk3 5 (by decide)).trans o5
  refine wp_if ot (fun hb => ?_) (fun hb => ?_)
  · obtain rfl : k = 3 := of_decide_eq_true hb
    refine cgS3 g a6 w1 _ hs6 e3 hB1 ?_
    intro b1 v1 hs' k' hf hB
    exact fin b1 v1 hs' ((k' 2 (by decide)).trans e2) ((k' 3 (by decide)).trans e3) hf hB
  have n3 := of_decide_eq_false hb
  refine wp_seq ?_
  refine cgT4 k a6 w1 _ hs6 o5 ?_
  intro a7 v4 hs7 kk4 ot hw; subst v4
  have e2 := (kk4 2 (by decide)).trans e2
  have e3 := (kk4 3 (by decide)).trans e3
  have o5 := (kk4 5 (by decide)).trans o5
  refine wp_if ot (fun hb => ?_) (fun hb => ?_)
  · obtain rfl : k = 4 := of_decide_eq_true hb
    refine cgS4 g a7 w1 _ hs7 e3 hB1 ?_
    intro b1 v1 hs' k' hf hB
    exact fin b1 v1 hs' ((k' 2 (by decide)).trans e2) ((k' 3 (by decide)).trans e3) hf hB
  have n4 := of_decide_eq_false hb
  refine wp_seq ?_
  refine cgT5 k a7 w1 _ hs7 o5 ?_
  intro a8 v5 hs8 kk5 ot hw; subst v5
  have e2 := (kk5 2 (by decide)).trans e2
  have e3 := (kk5 3 (by decide)).trans e3
  have o5 := (kk5 5 (by decide)).trans o5
  refine wp_if ot (fun hb => ?_) (fun hb => ?_)
  · obtain rfl : k = 5 := of_decide_eq_true hb
    refine cgS5 g a8 w1 _ hs8 e3 hB1 ?_
    intro b1 v1 hs' k' hf hB
    exact fin b1 v1 hs' ((k' 2 (by decide)).trans e2) ((k' 3 (by decide)).trans e3) hf hB
  have n5 := of_decide_eq_false hb
  refine wp_seq ?_
  refine cgT6 k a8 w1 _ hs8 o5 ?_
  intro a9 v6 hs9 kk6 ot hw; subst v6
  have e2 := (kk6 2 (by decide)).trans e2
  have e3 := (kk6 3 (by decide)).trans e3
  have o5 := (kk6 5 (by decide)).trans o5
  refine wp_if ot (fun hb => ?_) (fun hb => ?_)
  · obtain rfl : k = 6 := of_decide_eq_true hb
    refine cgS6 g a9 w1 _ hs9 e3 hB1 ?_
    intro b1 v1 hs' k' hf hB
    exact fin b1 v1 hs' ((k' 2 (by decide)).trans e2) ((k' 3 (by decide)).trans e3) hf hB
  have n6 := of_decide_eq_false hb
  refine wp_seq ?_
  refine cgT7 k a9 w1 _ hs9 o5 ?_
  intro a10 v7 hs10 kk7 ot hw; subst v7
  have e2 := (kk7 2 (by decide)).trans e2
  have e3 := (kk7 3 (by decide)).trans e3
  have o5 := (kk7 5 (by decide)).trans o5
  refine wp_if ot (fun hb => ?_) (fun hb => ?_)
  · obtain rfl : k = 7 := of_decide_eq_true hb
    refine cgS7 g a10 w1 _ hs10 e3 hB1 ?_
    intro b1 v1 hs' k' hf hB
    exact fin b1 v1 hs' ((k' 2 (by decide)).trans e2) ((k' 3 (by decide)).trans e3) hf hB
  have n7 := of_decide_eq_false hb
  refine wp_seq ?_
  refine cgT8 k a10 w1 _ hs10 o5 ?_
  intro a11 v8 hs11 kk8 ot hw; subst v8
  have e2 := (kk8 2 (by decide)).trans e2
  have e3 := (kk8 3 (by decide)).trans e3
  have o5 := (kk8 5 (by decide)).trans o5
  refine wp_if ot (fun hb => ?_) (fun hb => ?_)
  · obtain rfl : k = 8 := of_decide_eq_true hb
    refine cgS8 g a11 w1 _ hs11 e3 hB1 ?_
    intro b1 v1 hs' k' hf hB
    exact fin b1 v1 hs' ((k' 2 (by decide)).trans e2) ((k' 3 (by decide)).trans e3) hf hB
  have n8 := of_decide_eq_false hb
  refine wp_seq ?_
  refine cgT9 k a11 w1 _ hs11 o5 ?_
  intro a12 v9 hs12 kk9 ot hw; subst v9
  have e2 := (kk9 2 (by decide)).trans e2
  have e3 := (kk9 3 (by decide)).trans e3
  have o5 := (kk9 5 (by decide)).trans o5
  refine wp_if ot (fun hb => ?_) (fun hb => ?_)
  · obtain rfl : k = 9 := of_decide_eq_true hb
    refine cgS9 g a12 w1 _ hs12 e3 hB1 ?_
    intro b1 v1 hs' k' hf hB
    exact fin b1 v1 hs' ((k' 2 (by decide)).trans e2) ((k' 3 (by decide)).trans e3) hf hB
  have n9 := of_decide_eq_false hb
  refine wp_seq ?_
  refine cgT10 k a12 w1 _ hs12 o5 ?_
  intro a13 v10 hs13 kk10 ot hw; subst v10
  have e2 := (kk10 2 (by decide)).trans e2
  have e3 := (kk10 3 (by decide)).trans e3
  have o5 := (kk10 5 (by decide)).trans o5
  refine wp_if ot (fun hb => ?_) (fun hb => ?_)
  · obtain rfl : k = 10 := of_decide_eq_true hb
    refine cgS10 g a13 w1 _ hs13 e3 hB1 ?_
    intro b1 v1 hs' k' hf hB
    exact fin b1 v1 hs' ((k' 2 (by decide)).trans e2) ((k' 3 (by decide)).trans e3) hf hB
  have n10 := of_decide_eq_false hb
  refine wp_seq ?_
  refine cgT11 k a13 w1 _ hs13 o5 ?_
  intro a14 v11 hs14 kk11 ot hw; subst v11
  have e2 := (kk11 2 (by decide)).trans e2
  have e3 := (kk11 3 (by decide)).trans e3
  have o5 := (kk11 5 (by decide)).trans o5
  refine wp_if ot (fun hb => ?_) (fun hb => ?_)
  · obtain rfl : k = 11 := of_decide_eq_true hb
    refine cgS11 g a14 w1 _ hs14 e3 hB1 ?_
    intro b1 v1 hs' k' hf hB
    exact fin b1 v1 hs' ((k' 2 (by decide)).trans e2) ((k' 3 (by decide)).trans e3) hf hB
  have n11 := of_decide_eq_false hb
  refine wp_seq ?_
  refine cgT12 k a14 w1 _ hs14 o5 ?_
  intro a15 v12 hs15 kk12 ot hw; subst v12
  have e2 := (kk12 2 (by decide)).trans e2
  have e3 := (kk12 3 (by decide)).trans e3
  have o5 := (kk12 5 (by decide)).trans o5
  refine wp_if ot (fun hb => ?_) (fun hb => ?_)
  · obtain rfl : k = 12 := of_decide_eq_true hb
    refine cgS12 g a15 w1 _ hs15 e3 hB1 ?_
    intro b1 v1 hs' k' hf hB
    exact fin b1 v1 hs' ((k' 2 (by decide)).trans e2) ((k' 3 (by decide)).trans e3) hf hB
  have n12 := of_decide_eq_false hb
  refine wp_seq ?_
  refine cgT13 k a15 w1 _ hs15 o5 ?_
  intro a16 v13 hs16 kk13 ot hw; subst v13
  have e2 := (kk13 2 (by decide)).trans e2
  have e3 := (kk13 3 (by decide)).trans e3
  have o5 := (kk13 5 (by decide)).trans o5
  refine wp_if ot (fun hb => ?_) (fun hb => ?_)
  · obtain rfl : k = 13 := of_decide_eq_true hb
    refine cgS13 g a16 w1 _ hs16 e3 hB1 ?_
    intro b1 v1 hs' k' hf hB
    exact fin b1 v1 hs' ((k' 2 (by decide)).trans e2) ((k' 3 (by decide)).trans e3) hf hB
  have n13 := of_decide_eq_false hb
  refine wp_seq ?_
  refine cgT14 k a16 w1 _ hs16 o5 ?_
  intro a17 v14 hs17 kk14 ot hw; subst v14
  have e2 := (kk14 2 (by decide)).trans e2
  have e3 := (kk14 3 (by decide)).trans e3
  have o5 := (kk14 5 (by decide)).trans o5
  refine wp_if ot (fun hb => ?_) (fun hb => ?_)
  · obtain rfl : k = 14 := of_decide_eq_true hb
    refine cgS14 g a17 w1 _ hs17 e3 hB1 ?_
    intro b1 v1 hs' k' hf hB
    exact fin b1 v1 hs' ((k' 2 (by decide)).trans e2) ((k' 3 (by decide)).trans e3) hf hB
  have n14 := of_decide_eq_false hb
  refine wp_seq ?_
  refine cgT15 k a17 w1 _ hs17 o5 ?_
  intro a18 v15 hs18 kk15 ot hw; subst v15
  have e2 := (kk15 2 (by decide)).trans e2
  have e3 := (kk15 3 (by decide)).trans e3
  have o5 := (kk15 5 (by decide)).trans o5
  refine wp_if ot (fun hb => ?_) (fun hb => ?_)
  · obtain rfl : k = 15 := of_decide_eq_true hb
    refine cgS15 g a18 w1 _ hs18 e3 hB1 ?_
    intro b1 v1 hs' k' hf hB
    exact fin b1 v1 hs' ((k' 2 (by decide)).trans e2) ((k' 3 (by decide)).trans e3) hf hB
  have n15 := of_decide_eq_false hb
  omega
end Go.Proofs.YtcbkaiakdhiloacGreatDoor
