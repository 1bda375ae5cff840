/- Parts of the walk; written by programs, merged. -/
import Derived.Test.YtcbkaiakdhiloabGreatDoorMai
import Derived.Test.YtcbkaiakdhiloabGreatDoorMal
import Derived.Test.YtcbkaiakdhiloabGreatDoorMar
import Derived.Test.YtcbkaiakdhiloabGreatDoorMav
import Derived.Test.YtcbkaiakdhiloabGreatDoorMax
import Derived.Test.YtcbkaiakdhiloabGreatDoorProg
import Derived.Test.YtcbkaiakdhiloabGreatDoorShelf
import Derived.WalkKit
import Derived.WalkLawsBesides
import Derived.WalkSpells
import Derived.Deep.AppendLies
import Derived.Deep.DrawnRows
import Derived.Maps.AppendAt
import Derived.StillTailTactics
import Derived.Lib.Hide
import Derived.Lib.AppendStr
import Derived.Lib.Strings
import Derived.Laws.MakeOwn
import Derived.Laws.OwnMore
import Derived.Laws.BitsAllLaws
import Derived.Orders
import Derived.Deep.MidRow
import Derived.Deep.DeepMust
import Derived.Deep.RegionHeld3
import Derived.Deep.RegionLaw
import Derived.Deep.LoopGhost
import Derived.Deep.Cut
import Derived.Deep.CutRange
import Derived.Deep.QuietTactic
import Derived.BigQuiet
import Derived.Lib.ConvBytes
import Derived.Lib.LazyBuf
import Derived.Recover
import Derived.OrdersHeld
import Derived.Lib.MapLaws
import Derived.Lib.TrimAscii
import Derived.Lib.LaidTab
import Derived.Lib.ItoaNum
import Derived.Maps.Own
import Derived.Maps.OwnOps
import Derived.Maps.OwnSet
import Derived.Maps.Views
import Derived.Maps.RangeWalk
import Derived.Deep.CutBlock
import Derived.Lib.SlBytesRow
import Derived.Lib.ItoaMem
import Derived.Laws.StructEq
import Derived.DeepKeys
import Derived.RangeFuncGives
import Derived.Sort.MapsRangeIn
import Derived.OwnWalkIn
import Derived.TacticsInMore
import Derived.RegionIn
import Derived.LoopNIn
import Derived.LoopIn
import Derived.Shelf.Abstract
import Derived.Laws.RangeString
import Derived.Lib.OthersKept
import Derived.Laws.BitsAll
import Derived.Deep.Slices
import Derived.OpenShut
set_option linter.unusedSimpArgs false
set_option linter.unusedVariables false
set_option maxRecDepth 20000
set_option maxHeartbeats 8000000
set_option maxRecDepth 20000
namespace Go.Proofs.YtcbkaiakdhiloabGreatDoor
open Go.RowKit Go.Proofs
attribute [local go_sem] bs_size bs_append bs_extract bs_toList
theorem modNeighboursQ (p T : Nat) (M : MLay) (s : St) (w : World) (h : ModelAt w p T M s) (hc : s.cache = []) : Calls Tryz.prog 147 #[.pointer (some ⟨p, 0, none⟩)] w fun e w' => e = .returned (.tuple #[]) ∧ MNow p T M w s w' := by
  have hs0 : ({ s with cache := [] } : St) = s := by
    rcases s with ⟨c, rx, tx, now, draw, boots, lost, id, cache, lease, xid, addr, mask, router, server, source, t1, t2, untl, lagain, lsends, phase, port, peer, block, wind, next, came, tagain, tsends, goal, last, image⟩
    dsimp only at hc; subst hc; rfl
  have hl0 : s.cache.length = 0 := by rw [hc]; rfl
  go_enter Tryz.func147, Tryz.ntmps147
  refine wp_seq ?_
  refine nhR0 _ w _ ⟨rfl, rfl⟩ ?_
  intro a0 w0 hs0' k0 o2 hw; subst w0
  refine wp_seq ?_
  refine nhR1 a0 w _ hs0' ?_
  intro a1 w1 hs1 k1 o3 hw; subst w1
  have e0 : sl a1 0 = .pointer (some ⟨p, 0, none⟩) := (k1 0 (by decide)).trans ((k0 0 (by decide)).trans rfl)
  have e2 := (k1 2 (by decide)).trans o2
  refine wp_seq (wp_seq ?_)
  refine nhR2 p T M s a1 w _ hs1 e0 h ?_
  intro a2 w2 hs2 k2 o12 o13 o14 hw; subst w2
  rw [hl0] at o13
  refine wp_block ?_
  refine wp_loop_sz 100 (fun a' w' => Kp [0, 2, 3, 13, 14] a2 a' ∧ w' = w) (fun _ _ => 0) hs2 ⟨Kp.refl _ _, rfl⟩ ?_
  rintro b1 v1 hs1' ⟨j1, hv⟩
  subst v1
  refine wp_seq ?_
  refine nhR3 0 0 b1 w _ hs1' ((j1 13 (by decide)).trans o13) ((j1 14 (by decide)).trans o14) ?_
  intro b2 v2 hs2' j2 o15 hw; subst v2
  refine wp_seq ?_
  refine wp_if o15 (fun hb => absurd (of_decide_eq_true hb) (by omega)) (fun _ => ?_)
  refine wp_exit (then_exit (then_exit (inBlock_self ?_)))
  have j : Kp [0, 2, 3] a2 b2 := fun i hi => (j2 i (by revert hi; revert i; decide)).trans (j1 i (by revert hi; revert i; decide))
  have e0 := (j 0 (by decide)).trans ((k2 0 (by decide)).trans e0)
  have e2 := (j 2 (by decide)).trans ((k2 2 (by decide)).trans e2)
  have e3 := (j 3 (by decide)).trans ((k2 3 (by decide)).trans o3)
  refine wp_seq ?_
  refine nhR12 p T M s none 0 [] b2 w _ hs2' e0 e2 h w h (Fr.refl _ _) ⟨rfl, .inl ⟨rfl, rfl⟩⟩ (by rw [hs0]; exact h.ok) (by simp) (by simp) ?_
  intro a4 w4 hs4 k4 hN4 f4
  rw [hs0] at hN4
  refine wp_block ?_
  refine wp_loop_sz 100 (fun a' w' => sl a' 3 = .slice none 0 0 ∧ w' = w4) (fun _ _ => 0) hs4 ⟨(k4 3 (by decide)).trans e3, rfl⟩ ?_
  rintro c1 u1 hs5 ⟨i3, hv⟩
  subst u1
  refine wp_seq (wp_seq ?_)
  refine nhR13 none 0 0 c1 w4 _ hs5 i3 ?_
  intro c2 u2 hs6 l2 o65 hw; subst u2
  refine wp_if o65 (fun hb => absurd (of_decide_eq_true hb) (by omega)) (fun _ => ?_)
  refine wp_exit (then_exit (then_exit (inBlock_self ?_)))
  exact bodyPost_end (results_none rfl _ _ _) hs6.defers ⟨rfl, hN4⟩
theorem modLeasesQ (p T : Nat) (M : MLay) (s : St) (w : World) (h : ModelAt w p T M s) (hlq : s.lease ≤ 1) : Calls Tryz.prog 148 #[.pointer (some ⟨p, 0, none⟩)] w fun e w' => e = .returned (.tuple #[]) ∧ MNow p T M w s.leases w' := by
  have hls := h.ok.lsends
  go_enter Tryz.func148, Tryz.ntmps148
  have hret : ∀ (a' : Act) (w' : World), Sz 174 a' → MNow p T M w s.leases w' → bodyPost Tryz.prog Tryz.f148 (fun e w' => e = .returned (.tuple #[]) ∧ MNow p T M w s.leases w') .ret a' w' := fun a' w' hs hN => bodyPost_ret (results_none rfl _ _ _) hs.defers ⟨rfl, hN⟩
  have hend : ∀ (a' : Act) (w' : World), Sz 174 a' → MNow p T M w s.leases w' → bodyPost Tryz.prog Tryz.f148 (fun e w' => e = .returned (.tuple #[]) ∧ MNow p T M w s.leases w') .normal a' w' := fun a' w' hs hN => bodyPost_end (results_none rfl _ _ _) hs.defers ⟨rfl, hN⟩
  refine wp_seq (wp_seq ?_)
  refine nyR0 p T M s _ w _ ⟨rfl, rfl⟩ rfl h ?_
  intro a0 w0 hs0 k0 o6 hw; subst w0
  have e0 : sl a0 0 = .pointer (some ⟨p, 0, none⟩) := (k0 0 (by decide)).trans rfl
  refine wp_block (wp_seq ?_)
  refine nyR1 s.lease a0 w _ hs0 o6 ?_
  intro a1 w1 hs1 k1 o7 hw; subst w1
  have e0 := (k1 0 (by decide)).trans e0
  have o6 := (k1 6 (by decide)).trans o6
  refine wp_if o7 (fun hb => ?_) (fun hb => ?_)
  · have hl := of_decide_eq_true hb
    have hq : s.leases = ({ s with xid := s.draw } : St).goes 1 := by unfold St.leases; rw [if_pos hl]
    refine wp_seq ?_
    refine nyR2 p T M s a1 w _ hs1 e0 h ?_
    intro a2 w2 hs2 k2 h2 f2
    refine wp_seq ?_
    refine nyR3 p T M _ a2 w2 _ hs2 ((k2 0 (by decide)).trans e0) h2 ?_
    intro a3 w3 hs3 k3 hN
    refine wp_ret ?_
    exact hret a3 w3 hs3 (by rw [hq]; exact MNow.comp (fun _ hb => .inl hb) f2 hN)
  have hl0 := of_decide_eq_false hb
  refine wp_seq (wp_seq ?_)
  refine nyR4 s.lease a1 w _ hs1 o6 ?_
  intro a2 w2 hs2 k2 o18 hw; subst w2
  have e0 := (k2 0 (by decide)).trans e0
  have o6 := (k2 6 (by decide)).trans o6
  refine wp_mono (Q := fun ex a3 w3 => ex = .normal ∧ Sz 174 a3 ∧ sl a3 0 = .pointer (some ⟨p, 0, none⟩) ∧ sl a3 6 = .int .i64 (s.lease : Int) ∧ sl a3 18 = .bool (decide (s.lease = 1 ∨ s.lease = 2)) ∧ w3 = w) ?_ ?_
  · refine wp_if o18 (fun hb => ?_) (fun hb => ?_)
    · have hl := of_decide_eq_true hb
      refine wp_skip ?_
      exact ⟨rfl, hs2, e0, o6, by rw [o18, decide_eq_true hl, decide_eq_true (Or.inl hl)], rfl⟩
    · have hl := of_decide_eq_false hb
      refine nyR5 s.lease a2 w _ hs2 o6 ?_
      intro a3 w3 hs3 k3 o18' hw
      exact ⟨rfl, hs3, (k3 0 (by decide)).trans e0, (k3 6 (by decide)).trans o6, by rw [o18', show decide (s.lease = 2) = decide (s.lease = 1 ∨ s.lease = 2) from decide_eq_decide.2 ⟨.inr, fun x => x.resolve_left hl⟩], hw⟩
  clear e0 o6 o18 o7
  rintro _ a3 w3 ⟨rfl, hs3, e0, o6, o18, hw⟩
  subst w3
  refine wp_if o18 (fun hb => ?_) (fun hb => ?_)
  · have hl := of_decide_eq_true hb
    have hq : s.leases = if s.now < s.lagain then s else if s.lsends = 4 then s.fail else ({ s with lagain := wrap64 (s.now + s.wait s.lsends), lsends := s.lsends + 1 } : St).asks := by unfold St.leases; rw [if_neg hl0, if_pos hl]
    refine wp_seq (wp_seq ?_)
    have key : ∀ K : Exit → Act → World → Prop, (∀ a' w', Sz 174 a' → sl a' 0 = .pointer (some ⟨p, 0, none⟩) → sl a' 36 = .bool (decide (s.lagain ≤ s.now ∧ s.lsends = 4)) → ModelAt w' p T M s → Fr noB w w' → K .normal a' w') → (regionOf Tryz.f148 6).wp Tryz.prog K a3 w := fun K hK => by
      by_cases hg : s.lagain ≤ s.now
      · refine nyR6b p T M s a3 w K hs3 e0 h hg ?_
        intro a' w' hs' k' o36 h' f'
        exact hK a' w' hs' ((k' 0 (by decide)).trans e0) (by rw [o36]; exact congrArg Value.bool (decide_eq_decide.2 ⟨fun x => ⟨hg, x⟩, fun x => x.2⟩)) h' f'
      · refine nyR6a p T M s a3 w K hs3 e0 h hg ?_
        intro a' w' hs' k' o36 h' f'
        exact hK a' w' hs' ((k' 0 (by decide)).trans e0) (by rw [o36, decide_eq_false (fun x => hg x.1)]) h' f'
    refine key _ ?_
    intro a4 w4 hs4 e0 o36 h4 f4
    refine wp_if o36 (fun hb => ?_) (fun hb => ?_)
    · have hc := of_decide_eq_true hb
      refine nyR7 p T M s a4 w4 _ hs4 e0 h4 ?_
      intro a5 w5 hs5 k5 hN
      refine wp_ret ?_
      exact hret a5 w5 hs5 (by rw [hq, if_neg (by omega), if_pos hc.2]; exact MNow.pre f4 hN)
    · have hc := of_decide_eq_false hb
      refine wp_seq ?_
      refine nyR8 p T M s a4 w4 _ hs4 e0 h4 ?_
      intro a5 w5 hs5 k5 o47 h5 f5
      have e0 := (k5 0 (by decide)).trans e0
      refine wp_if o47 (fun hb => ?_) (fun hb => ?_)
      · have hg := of_decide_eq_true hb
        have hn4 : ¬ s.lsends = 4 := fun x => hc ⟨hg, x⟩
        refine wp_seq ?_
        refine nyR9 p T M s a5 w5 _ hs5 e0 h5 ?_
        intro a6 w6 hs6 k6 h6 f6
        have e0 := (k6 0 (by decide)).trans e0
        refine wp_seq ?_
        refine nyR10 p T M _ a6 w6 _ hs6 e0 h6 (by show s.lsends < 4; omega) ?_
        intro a7 w7 hs7 k7 h7 f7
        refine nyR11 p T M _ a7 w7 _ hs7 ((k7 0 (by decide)).trans e0) h7 ?_
        intro a8 w8 hs8 k8 hN
        refine wp_ret ?_
        exact hret a8 w8 hs8 (by rw [hq, if_neg (by omega), if_neg hn4]; exact MNow.pre (f4.none f5) (MNow.comp (fun _ hb => .inl hb) (f6.trans f7) hN))
      · have hg := of_decide_eq_false hb
        refine wp_skip ?_
        refine wp_ret ?_
        exact hret a5 w5 hs5 (by rw [hq, if_pos (by omega)]; exact MNow.of h5 ((f4.none f5).of_no _))
  have hl12 := of_decide_eq_false hb
  exact absurd (show s.lease = 1 ∨ s.lease = 2 by omega) hl12
theorem nzR3q (p T : Nat) (M : MLay) (s : St) (a : Act) (w : World) (K : Exit → Act → World → Prop) (hs : Sz 78 a)
    (h0 : sl a 0 = .pointer (some ⟨p, 0, none⟩)) (h : ModelAt w p T M s) (hc : s.cache = [])
    (hK : ∀ a' w', Sz 78 a' → Kp [0, 1] a a' → MNow p T M w s w' → K .normal a' w') :
    (regionOf Tryz.f103 3).wp Tryz.prog K a w := by
  unfold Kp at hK; rw [nzF_of hs]; clear hs; generalize sl a = u at *; clear a; have HK := Lib.hid hK; clear hK; conv => arg 2; whnf
  simp only [nzF, h0]
  go_wp2_with fail
  refine (modNeighboursQ p T M s _ h hc).mono ?_
  rintro e w1 ⟨rfl, hN⟩
  go_wp2_with fail
  exact HK.out _ _  ⟨rfl, rfl⟩ (KpU.cons (h0.symm) (KpU.cons (rfl) (KpU.nil _ _)))  hN
theorem nzR4q (p T : Nat) (M : MLay) (s : St) (a : Act) (w : World) (K : Exit → Act → World → Prop) (hs : Sz 78 a)
    (h0 : sl a 0 = .pointer (some ⟨p, 0, none⟩)) (h : ModelAt w p T M s) (hl : s.lease ≤ 1)
    (hK : ∀ a' w', Sz 78 a' → Kp [0, 1] a a' → MNow p T M w s.leases w' → K .normal a' w') :
    (regionOf Tryz.f103 4).wp Tryz.prog K a w := by
  unfold Kp at hK; rw [nzF_of hs]; clear hs; generalize sl a = u at *; clear a; have HK := Lib.hid hK; clear hK; conv => arg 2; whnf
  simp only [nzF, h0]
  go_wp2_with fail
  refine (modLeasesQ p T M s _ h hl).mono ?_
  rintro e w1 ⟨rfl, hN⟩
  go_wp2_with fail
  exact HK.out _ _  ⟨rfl, rfl⟩ (KpU.cons (h0.symm) (KpU.cons (rfl) (KpU.nil _ _)))  hN
theorem modTickQ (p T : Nat) (M : MLay) (s : St) (d : Nat) (w : World) (h : ModelAt w p T M s) (hqq : Quiet s) (hn : s.now < 4611686018427387904) (hd : d < 4294967296) : Calls Tryz.prog 103 #[.pointer (some ⟨p, 0, none⟩), .int .u32 (d : Int)] w fun e w' => e = .returned (.tuple #[]) ∧ MNow p T M w (s.tick d) w' := by
  have hn0 := h.ok.now0
  have hw : wrap64 (s.now + 1) = s.now + 1 := by unfold wrap64; omega
  have hok : ({ s with now := wrap64 (s.now + 1) } : St).Ok := { h.ok with now0 := by show 0 ≤ wrap64 _; omega, now1 := by show wrap64 _ ≤ _; omega }
  go_enter Tryz.func103, Tryz.ntmps103
  have hret : ∀ (a' : Act) (w' : World), Sz 78 a' → MNow p T M w (s.tick d) w' → bodyPost Tryz.prog Tryz.f103 (fun e w' => e = .returned (.tuple #[]) ∧ MNow p T M w (s.tick d) w') .ret a' w' := fun a' w' hs hN => bodyPost_ret (results_none rfl _ _ _) hs.defers ⟨rfl, hN⟩
  have hend : ∀ (a' : Act) (w' : World), Sz 78 a' → MNow p T M w (s.tick d) w' → bodyPost Tryz.prog Tryz.f103 (fun e w' => e = .returned (.tuple #[]) ∧ MNow p T M w (s.tick d) w') .normal a' w' := fun a' w' hs hN => bodyPost_end (results_none rfl _ _ _) hs.defers ⟨rfl, hN⟩
  have hq : s.tick d = if (({ s with now := wrap64 (s.now + 1), draw := d } : St)).over then ({ s with now := wrap64 (s.now + 1), draw := d } : St) else (({ s with now := wrap64 (s.now + 1), draw := d } : St)).neighbours.leases.again := rfl
  refine wp_seq ?_
  refine nzR0 p T M s _ w _ ⟨rfl, rfl⟩ rfl h hok ?_
  intro a1 w1 hs1 k1 h1 f1
  have e0 : sl a1 0 = .pointer (some ⟨p, 0, none⟩) := (k1 0 (by decide)).trans rfl
  refine wp_seq ?_
  refine nzR1 p T M _ d a1 w1 _ hs1 e0 ((k1 1 (by decide)).trans rfl) h1 hd ?_
  intro a2 w2 hs2 k2 h2 f2
  have e0 := (k2 0 (by decide)).trans e0
  have f02 := f1.trans f2
  have hqt : Quiet ({ s with now := wrap64 (s.now + 1), draw := d } : St) := ⟨hqq.cache, hqq.lease, hqq.phase⟩
  obtain ⟨t, ht⟩ : ∃ t, ({ s with now := wrap64 (s.now + 1), draw := d } : St) = t := ⟨_, rfl⟩
  rw [ht] at hq hqt
  have h2 : ModelAt w2 p T M t := by rw [← ht]; exact h2
  clear ht h1
  refine wp_seq (wp_seq ?_)
  refine nzR2 p T M t a2 w2 _ hs2 e0 h2 ?_
  intro a3 w3 hs3 k3 o16 hw3; subst w3
  have e0 := (k3 0 (by decide)).trans e0
  refine wp_if o16 (fun hb => ?_) (fun hb => ?_)
  · rw [hb, if_pos rfl] at hq
    refine wp_ret ?_
    exact hret a3 w2 hs3 (by rw [hq]; exact MNow.of h2 f02)
  rw [hb, if_neg (by decide)] at hq
  rw [quiet_nb hqt.cache] at hq
  refine wp_skip ?_
  refine wp_seq ?_
  refine nzR3q p T M t a3 w2 _ hs3 e0 h2 hqt.cache ?_
  intro a4 w4 hs4 k4 hN4
  obtain ⟨M4, o4, h4, f4⟩ := hN4
  have e0 := (k4 0 (by decide)).trans e0
  refine wp_seq ?_
  refine nzR4q p T M4 _ a4 w4 _ hs4 e0 h4 hqt.lease ?_
  intro a5 w5 hs5 k5 hN5
  have hN5 := MNow.comp (fun _ hb => .inl hb) f02 (MNow.comp o4 f4 hN5)
  obtain ⟨M5, o5, h5, f5⟩ := hN5
  have e0 := (k5 0 (by decide)).trans e0
  have hqv := hqt.leases
  have hbz : t.leases.busy = false := by unfold St.busy; rcases hqv.phase with e | e <;> rw [e] <;> rfl
  have hp1 : t.leases.phase ≠ 1 := by rcases hqv.phase with e | e <;> rw [e] <;> decide
  have hp2 : t.leases.phase ≠ 2 := by rcases hqv.phase with e | e <;> rw [e] <;> decide
  generalize t.leases = v at *
  clear o4 f4 h4 h2
  refine wp_seq (wp_seq ?_)
  refine nzR5c p T M5 v a5 w5 _ hs5 e0 h5 hp1 hp2 ?_
  intro a6 w6 hs6 k6 o43 h6 f6
  have f06 := f5.none f6
  refine wp_if o43 (fun hb => ?_) (fun hb => by cases hb)
  refine wp_ret ?_
  exact hret a6 w6 hs6 (by rw [hq]; unfold St.again; rw [if_pos (.inl hbz)]; exact ⟨M5, o5, h6, f06⟩)
end Go.Proofs.YtcbkaiakdhiloabGreatDoor
set_option maxRecDepth 20000
namespace Go.Proofs.YtcbkaiakdhiloabGreatDoor
open Go.RowKit Go.Proofs
attribute [local go_sem] bs_size bs_append bs_extract bs_toList
def InvS (k : Nat) (ss : List St) : Prop := (∀ s ∈ ss, Quiet s ∧ 0 ≤ s.now ∧ s.now ≤ k) ∧ ss.length ≤ k
theorem new_quiet (c : CfgI) : Quiet (stNew c) := ⟨rfl, Nat.zero_le _, .inl rfl⟩
theorem take_quiet {s : St} (h : Quiet s) : Quiet s.take.1 ∧ s.take.1.now = s.now := by
  unfold St.take
  first
    | exact ⟨⟨h.cache, h.lease, h.phase⟩, rfl⟩
    | (split <;> exact ⟨⟨h.cache, h.lease, h.phase⟩, rfl⟩)
theorem InvS.step {k : Nat} {ss : List St} (h : InvS k ss) : InvS (k + 1) ss := ⟨fun s hs => ⟨(h.1 s hs).1, (h.1 s hs).2.1, by have := (h.1 s hs).2.2; omega⟩, by have := h.2; omega⟩
theorem InvS.set {k i : Nat} {ss : List St} {s : St} (h : InvS k ss) (hq : Quiet s) (hn0 : 0 ≤ s.now) (hn : s.now ≤ k + 1) : InvS (k + 1) (ss.set i s) := by
  refine ⟨fun x hx => ?_, by rw [List.length_set]; exact h.step.2⟩
  rcases List.mem_or_eq_of_mem_set hx with h1 | rfl
  · exact h.step.1 x h1
  · exact ⟨hq, hn0, by omega⟩
theorem InvS.new {k : Nat} {ss : List St} (c : CfgI) (h : InvS k ss) : InvS (k + 1) (ss ++ [stNew c]) := by
  refine ⟨fun x hx => ?_, by rw [List.length_append]; have := h.2; simp; omega⟩
  rcases List.mem_append.1 hx with h1 | h1
  · exact h.step.1 x h1
  · rw [List.mem_singleton.1 h1]; exact ⟨new_quiet c, by show (0 : Int) ≤ 0; omega, by show (0 : Int) ≤ _; omega⟩
theorem send_n (s : St) (d : Mac) (k : Nat) (l : List UInt8) : (s.send d k l).now = s.now := by unfold St.send; split <;> rfl
theorem say_n (s : St) (k : UInt8) (os : List OptD) : (s.say k false os).now = s.now := by unfold St.say; exact send_n s.took _ _ _
theorem asks_n (s : St) : s.asks.now = s.now := by unfold St.asks; split <;> exact say_n ..
theorem goes_n (s : St) (l : Nat) : (s.goes l).now = s.now := by unfold St.goes; exact asks_n _
theorem fail_n (s : St) : s.fail.now = s.now := by unfold St.fail; dsimp only; split <;> rfl
theorem Quiet.leases_n {s : St} (h : Quiet s) : s.leases.now = s.now := by
  have q := h.lease
  unfold St.leases
  split
  · exact goes_n _ _
  split
  · split
    · rfl
    split
    · exact fail_n _
    · exact asks_n _
  · omega
theorem tick_now_q {s : St} (h : Quiet s) (d : Nat) : (s.tick d).now = wrap64 (s.now + 1) := by
  rw [h.tick_eq]; split
  · rfl
  · exact Quiet.leases_n (s := { s with now := wrap64 (s.now + 1), draw := d }) ⟨h.cache, h.lease, h.phase⟩
theorem played2_eq {kind : Int} (h : playedB kind 2 = true) : kind = 1 ∨ kind = 4 ∨ kind = 3 ∨ kind = 6 := by
  unfold playedB at h
  rw [if_neg (by decide), if_pos rfl] at h
  exact of_decide_eq_true h
theorem startsStep (ops : List OpD) (hn : ops.length ≤ 65536) (hA : ∀ o ∈ ops, -9223372036854775808 ≤ o.a ∧ o.a ≤ 9223372036854775807) (k : Nat) (o : OpD) (ss : List St) (ho : ops[k]? = some o) (hp : playedB o.kind 2 = true) (hI : InvS k ss) :
    ∃ ss', InvS (k + 1) ss' ∧ ∀ (base g T : Nat) (l : List Pr) (A : Option Addr) (cap : Nat) (w : World), WldAt base w g T l A cap → l.map (·.s) = ss → Glb2 base w → Calls Tryz.prog 54 #[.pointer (some ⟨g, 0, none⟩), .agg (opC o)] w (StepTo base g T ss' w) := by
  have hk : k < ops.length := by
    rcases Nat.lt_or_ge k ops.length with h1 | h1
    · exact h1
    · rw [List.getElem?_eq_none h1] at ho; cases ho
  have hA := hA o (List.mem_of_getElem? ho)
  have hkind := played2_eq hp
  by_cases k1 : o.kind = 1
  · refine ⟨if o.c.Ok then ss ++ [stNew o.c] else ss, ?_, ?_⟩
    · split
      · exact hI.new o.c
      · exact hI.step
    · intro base g T l A cap w hW hl hG
      have hc := stepNew base g T l A cap o w hW hG k1 (by have := hI.2; rw [← hl, List.length_map] at this; omega)
      rw [hl] at hc; exact hc
  rcases hss : ss with _ | ⟨s0, ss0⟩
  · refine ⟨[], ⟨(fun s hs => nomatch hs), Nat.zero_le _⟩, ?_⟩
    intro base g T l A cap w hW hl hG
    have hl0 : l = [] := List.map_eq_nil_iff.1 hl
    have hc := stepEmpty base g T l A cap o w hW hG k1 hl0
    rw [hl] at hc; exact hc
  rw [← hss]
  have hpos : 0 < ss.length := by rw [hss]; simp
  clear hss
  have hil := pickI_lt o.a ss.length hpos
  obtain ⟨i, hi⟩ : ∃ i, pickI o.a ss.length = i := ⟨_, rfl⟩
  rw [hi] at hil
  obtain ⟨s, hs⟩ : ∃ s, ss[i]? = some s := ⟨ss[i], List.getElem?_eq_getElem hil⟩
  have hq := hI.1 s (List.mem_of_getElem? hs)
  obtain ⟨d, hd⟩ : ∃ d : Nat, o.n % 4294967296 = (d : Int) := ⟨(o.n % 4294967296).toNat, by omega⟩
  have hd2 : d < 4294967296 := by omega
  have hn2 : s.now < 4611686018427387904 := by have := hq.2; omega
  have key : ∀ (s' : St), ((o.kind = 3 ∧ s' = s.take.1) ∨ (o.kind = 4 ∧ s' = s.tick d) ∨ (o.kind = 6 ∧ s' = s)) → ∀ (base g T : Nat) (l : List Pr) (A : Option Addr) (cap : Nat) (w : World), WldAt base w g T l A cap → l.map (·.s) = ss → Glb2 base w → Calls Tryz.prog 54 #[.pointer (some ⟨g, 0, none⟩), .agg (opC o)] w (StepTo base g T (ss.set i s') w) := by
    intro s' hK base g T l A cap w hW hl hG
    have hlen : l.length = ss.length := by rw [← hl, List.length_map]
    obtain ⟨x, hx⟩ : ∃ x, l[i]? = some x := ⟨l[i]'(by omega), List.getElem?_eq_getElem (by omega)⟩
    have hxs : x.s = s := by
      have : (l.map (·.s))[i]? = some x.s := by rw [List.getElem?_map, hx]; rfl
      rw [hl, hs] at this; exact (Option.some.inj this).symm
    subst hxs
    have hc := stepPair base g T l A cap o w hW hG k1 i d x (by rw [hlen]; exact hi.symm) hx (by have := hI.2; omega) hA.1 hA.2 s' hd
      (by rcases hK with h | ⟨h, _⟩ | h; exact .inl h; exact .inr (.inl h); exact .inr (.inr h))
      (fun k4 w h => by
        have e : s' = x.s.tick d := by rcases hK with ⟨h, _⟩ | ⟨_, h⟩ | ⟨h, _⟩; omega; exact h; omega
        rw [e]; exact bootTickQ x.L x.s d w h hq.1 hn2 hd2)
      (fun k4 w h => by
        have e : s' = x.s.tick d := by rcases hK with ⟨h, _⟩ | ⟨_, h⟩ | ⟨h, _⟩; omega; exact h; omega
        rw [e]; exact modTickQ x.p T x.M x.s d w h hq.1 hn2 hd2)
    rw [hl] at hc; exact hc
  rcases hkind with h | h | h | h
  · exact absurd h k1
  · refine ⟨ss.set i (s.tick d), hI.set (hq.1.tick d) ?_ ?_, key _ (.inr (.inl ⟨h, rfl⟩))⟩
    all_goals (have e1 : (s.tick d).now = wrap64 (s.now + 1) := tick_now_q hq.1 d; rw [e1]; have := hq.2; unfold wrap64; omega)
  · obtain ⟨q1, q2⟩ := take_quiet hq.1
    exact ⟨ss.set i s.take.1, hI.set q1 (by rw [q2]; exact hq.2.1) (by rw [q2]; have := hq.2.2; omega), key _ (.inl ⟨h, rfl⟩)⟩
  · exact ⟨ss.set i s, hI.set hq.1 hq.2.1 (by have := hq.2.2; omega), key _ (.inr (.inr ⟨h, rfl⟩))⟩
def wsF (u : Nat → Value) : Act := ⟨#[u 0, u 1, u 2, u 3, u 4, u 5, u 6, u 7, u 8, u 9, u 10], []⟩
set_option maxRecDepth 100000 in
theorem wsF_eq (u : Nat → Value) : wsF u = frN 11 u := rfl
theorem wsF_of {a : Act} (h : Sz 11 a) : a = wsF (sl a) := h.eq.trans (wsF_eq _).symm
theorem wsR0  (a : Act) (w : World) (K : Exit → Act → World → Prop) (hs : Sz 11 a)
     
    (hK : ∀ a' w', Sz 11 a' → Kp [0] a a' → sl a' 2 = .bool false → w' = w → K .normal a' w') :
    (regionOf Tryz.f6 0).wp Tryz.prog K a w := by
  unfold Kp at hK; rw [wsF_of hs]; clear hs; generalize sl a = u at *; clear a; have HK := Lib.hid hK; clear hK; conv => arg 2; whnf
  simp only [wsF]
  go_wp2_with fail
  exact HK.out _ _  ⟨rfl, rfl⟩ (Kc rfl (Kn _ _)) (rfl) rfl
theorem wsR1 (A : Option Addr) (n cap : Nat) (b : Bool) (a : Act) (w : World) (K : Exit → Act → World → Prop) (hs : Sz 11 a)
    (h0 : sl a 0 = .slice A n cap) (h1 : Calls Tryz.prog 22 #[.slice A n cap] w fun e w' => e = .returned (.bool b) ∧ Fr noB w w') (h2 : b = true → ∀ w1, Fr noB w w1 → Calls Tryz.prog 23 #[.slice A n cap, .int .i64 2] w1 fun e w' => e = .returned (.int .i64 (-1)) ∧ Fr noB w1 w')
    (hK : ∀ a' w', Sz 11 a' → Kp [0] a a' → sl a' 2 = .bool true → Fr noB w w' → K .normal a' w') :
    (regionOf Tryz.f6 1).wp Tryz.prog K a w := by
  unfold Kp at hK; rw [wsF_of hs]; clear hs; generalize sl a = u at *; clear a; have HK := Lib.hid hK; clear hK; conv => arg 2; whnf
  simp only [wsF, h0]
  have H1 := Lib.hid h1
  clear h1
  have H2 := Lib.hid h2
  clear h2
  go_wp2_with fail
  refine H1.out.mono ?_
  rintro e w1 ⟨rfl, hF⟩
  rcases b with _ | _
  · go_wp2_with fail
    exact HK.out _ _  ⟨rfl, rfl⟩ (Kc h0.symm (Kn _ _)) (rfl) hF
  · go_wp2_with fail
    refine (H2.out trivial w1 hF).mono ?_
    rintro e w2 ⟨rfl, hF2⟩
    have hF := hF.trans hF2
    go_wp2_with fail
    exact HK.out _ _  ⟨rfl, rfl⟩ (Kc h0.symm (Kn _ _)) (rfl) hF
theorem startsFn (ops : List OpD) (A : Option Addr) (cap : Nat) (w : World) (hscr : SlR w noB 17 A ops.length (scrC ops)) (hG : Glb w) (ha : RowG w 4 #[.int .u8 255, .int .u8 255, .int .u8 255, .int .u8 255, .int .u8 255, .int .u8 255]) (hl : Lens ops) (hn : ops.length ≤ 140737488355328) (hA : ∀ o ∈ ops, -9223372036854775808 ≤ o.a ∧ o.a ≤ 9223372036854775807) :
    Calls Tryz.prog 6 #[.slice A ops.length cap] w fun e w' => e = .returned (.bool true) ∧ Fr noB w w' := by
  go_enter Tryz.func6, Tryz.ntmps6
  refine wp_seq ?_
  refine wsR0 _ w _ ⟨rfl, rfl⟩ ?_
  intro a0 w0 hs0 k0 o2 hw; subst w0
  have e0 : sl a0 0 = .slice A ops.length cap := (k0 0 (by decide)).trans rfl
  refine wp_seq ?_
  refine wsR1 A ops.length cap _ a0 w _ hs0 e0 (smallFn ops A cap w hscr hl hn) (fun hb w1 hf => ?_) ?_
  · have ht := of_decide_eq_true hb
    have hn2 : ops.length ≤ 65536 := by unfold totN at ht; omega
    exact upToFn 2 (by decide) ops A cap w1 (hscr.keep hf) (hG.keep hf (fun _ _ x => x)) (ha.keep hf (fun x => x)) hn2 InvS ⟨(fun s hs => nomatch hs), Nat.zero_le _⟩
      (fun base g T l A cap k o w hW _ => endsNo base g T l A cap 2 (opC o) w hW (by decide) (by decide))
      (fun k o ss _ _ h => h.step) (startsStep ops hn2 hA)
  intro a1 w1 hs1 k1 o2 hf
  refine wp_ret ?_
  have hp : bodyPost Tryz.prog Tryz.f6 (fun e w' => e = .returned (.bool true) ∧ Fr noB w w') .ret a1 w1 := by
    refine bodyPost_ret (results_tmp rfl _ _ _) hs1.defers ⟨?_, hf⟩
    rw [show a1.tmps.getD 2 undef = .bool true from o2]
  exact hp
end Go.Proofs.YtcbkaiakdhiloabGreatDoor
set_option maxRecDepth 20000
namespace Go.Proofs.YtcbkaiakdhiloabGreatDoor
open Go.RowKit Go.Proofs Go.ChangeShapes Go.WideShapes
section
variable {H : Type} {enc : TypeId × Value → H} {W : World}
theorem int_of {n : Nat} {t : TypeId} {c : Value} {y : DataW H × List MemPlace} (ht : Tryz.prog.underlying t = some (.int .i64)) (h : DataW.trod enc Tryz.prog W 0 (fun _ => true) true n t [c] = some y) : ∃ z : Int, c = .int .i64 z ∧ -9223372036854775808 ≤ z ∧ z ≤ 9223372036854775807 := by
  obtain ⟨q, hq, _, hwf⟩ := DataW.trod_int ht h
  injection hq with hq _
  have hq2 : -9223372036854775808 ≤ q ∧ q ≤ 9223372036854775807 := by simpa [Lit.wf, IntKind.min, IntKind.max, IntKind.signed, IntKind.bits] using hwf
  exact ⟨q, hq, hq2⟩
theorem u8_of {n : Nat} {t : TypeId} {c : Value} {y : DataW H × List MemPlace} (ht : Tryz.prog.underlying t = some (.int .u8)) (h : DataW.trod enc Tryz.prog W 0 (fun _ => true) true n t [c] = some y) : ∃ z : UInt8, c = .int .u8 (z.toNat : Int) := by
  obtain ⟨q, hq, _, hwf⟩ := DataW.trod_int ht h
  injection hq with hq _
  have hq2 : 0 ≤ q ∧ q ≤ 255 := by simpa [Lit.wf, IntKind.min, IntKind.max, IntKind.signed, IntKind.bits] using hwf
  refine ⟨UInt8.ofNat q.toNat, ?_⟩
  rw [hq, UInt8.toNat_ofNat']; congr 1; omega
theorem str_of {n : Nat} {t : TypeId} {c : Value} {y : DataW H × List MemPlace} (ht : Tryz.prog.underlying t = some .string) (h : DataW.trod enc Tryz.prog W 0 (fun _ => true) true n t [c] = some y) : ∃ s : List UInt8, c = .string (bs s) ∧ y.1 = .lit (.string s) := by
  obtain ⟨s, hs, hsx, _⟩ := DataW.trod_string ht h
  injection hs with hs _
  exact ⟨s.data.toList, by rw [hs, bs_of], by rw [hsx]⟩
theorem fld1 {n : Nat} {t : TypeId} {c : Value} {r : List Value} {y : DataW H × List MemPlace} (hc : Tryz.prog.cellsOf t = 1) (h : DataW.trod enc Tryz.prog W 0 (fun _ => true) true n t ((c :: r).take (Tryz.prog.cellsOf t)) = some y) : DataW.trod enc Tryz.prog W 0 (fun _ => true) true n t [c] = some y := by rw [hc] at h; exact h
theorem fldN {n k : Nat} {t : TypeId} {cs : List Value} {y : DataW H × List MemPlace} (hc : Tryz.prog.cellsOf t = k) (h : DataW.trod enc Tryz.prog W 0 (fun _ => true) true n t (cs.take (Tryz.prog.cellsOf t)) = some y) : DataW.trod enc Tryz.prog W 0 (fun _ => true) true n t (cs.take k) = some y := by rw [hc] at h; exact h
theorem arr1 {n i : Nat} {t : TypeId} {c : Value} {cs r : List Value} {y : DataW H × List MemPlace} (hc : Tryz.prog.cellsOf t = 1) (h : DataW.trod enc Tryz.prog W 0 (fun _ => true) true n t ((cs.drop (i * Tryz.prog.cellsOf t)).take (Tryz.prog.cellsOf t)) = some y) (hd : cs.drop (i * 1) = c :: r := by rfl) : DataW.trod enc Tryz.prog W 0 (fun _ => true) true n t [c] = some y := by rw [hc, hd] at h; exact h
def CfgDat (c : CfgI) (d : DataW H) : Prop := ∃ x0 x1 x2 x3 x4 x5, d = .agg [x0, .lit (.string c.name), x1, .lit (.string c.digest), x2, x3, x4, x5]
def OpDat (o : OpD) (d : DataW H) : Prop := ∃ x0 x1 x2 x3, d = .agg [x0, x1, x2, x3, .lit (.string o.s)] ∧ CfgDat o.c x3
theorem openMac {n : Nat} {c0 c1 c2 c3 c4 c5 : Value} {y : DataW H × List MemPlace} (h : DataW.trod enc Tryz.prog W 0 (fun _ => true) true n 23 [c0, c1, c2, c3, c4, c5] = some y) :
    ∃ m : Mac, [c0, c1, c2, c3, c4, c5] = [Value.int .u8 (m.1.toNat : Int), .int .u8 (m.2.1.toNat : Int), .int .u8 (m.2.2.1.toNat : Int), .int .u8 (m.2.2.2.1.toNat : Int), .int .u8 (m.2.2.2.2.1.toNat : Int), .int .u8 (m.2.2.2.2.2.toNat : Int)] := by
  have hcu : Tryz.prog.cellsOf 5 = 1 := by kernel_rfl
  obtain ⟨xs, k, _, _, _, hxl, hf⟩ := DataW.trod_array Tryz.underlying23 h
  match xs, hxl with
  | [y0, y1, y2, y3, y4, y5], _ =>
    obtain ⟨m0, rfl⟩ := u8_of Tryz.underlying5 (arr1 (c := c0) (y := y0) hcu (hf 0 (by decide)))
    obtain ⟨m1, rfl⟩ := u8_of Tryz.underlying5 (arr1 (c := c1) (y := y1) hcu (hf 1 (by decide)))
    obtain ⟨m2, rfl⟩ := u8_of Tryz.underlying5 (arr1 (c := c2) (y := y2) hcu (hf 2 (by decide)))
    obtain ⟨m3, rfl⟩ := u8_of Tryz.underlying5 (arr1 (c := c3) (y := y3) hcu (hf 3 (by decide)))
    obtain ⟨m4, rfl⟩ := u8_of Tryz.underlying5 (arr1 (c := c4) (y := y4) hcu (hf 4 (by decide)))
    obtain ⟨m5, rfl⟩ := u8_of Tryz.underlying5 (arr1 (c := c5) (y := y5) hcu (hf 5 (by decide)))
    exact ⟨(m0, m1, m2, m3, m4, m5), rfl⟩
theorem openCfg {n : Nat} {cs : List Value} {y : DataW H × List MemPlace} (h : DataW.trod enc Tryz.prog W 0 (fun _ => true) true n 48 cs = some y) :
    ∃ c : CfgI, cs = (cfgC c).toList ∧ CfgDat c y.1 := by
  obtain ⟨xs, k, _, hx, hl, hxl, hf⟩ := DataW.trod_struct Tryz.underlying48 h
  have hcl : Tryz.prog.cellsOf 48 = 13 := by kernel_rfl
  have hcm : Tryz.prog.cellsOf 23 = 6 := by kernel_rfl
  have hci : Tryz.prog.cellsOf 3 = 1 := by kernel_rfl
  have hcs : Tryz.prog.cellsOf 9 = 1 := by kernel_rfl
  rw [hcl] at hl
  match cs, hl, xs, hxl with
  | [c0, c1, c2, c3, c4, c5, c6, c7, c8, c9, c10, c11, c12], _, [y0, y1, y2, y3, y4, y5, y6, y7], _ =>
    have g0 := hf 0 _ rfl
    have g1 := hf 1 _ rfl
    have g2 := hf 2 _ rfl
    have g3 := hf 3 _ rfl
    have g4 := hf 4 _ rfl
    have g5 := hf 5 _ rfl
    have g6 := hf 6 _ rfl
    have g7 := hf 7 _ rfl
    obtain ⟨m, hm⟩ := openMac (c0 := c0) (c1 := c1) (c2 := c2) (c3 := c3) (c4 := c4) (c5 := c5) (y := y0) (fldN (k := 6) hcm g0)
    obtain ⟨s1, rfl, e1⟩ := str_of Tryz.underlying9 (fld1 (c := c6) (y := y1) hcs g1)
    obtain ⟨z2, rfl, _⟩ := int_of Tryz.underlying3 (fld1 (c := c7) (y := y2) hci g2)
    obtain ⟨s3, rfl, e3⟩ := str_of Tryz.underlying9 (fld1 (c := c8) (y := y3) hcs g3)
    obtain ⟨z4, rfl, _⟩ := int_of Tryz.underlying3 (fld1 (c := c9) (y := y4) hci g4)
    obtain ⟨z5, rfl, _⟩ := int_of Tryz.underlying3 (fld1 (c := c10) (y := y5) hci g5)
    obtain ⟨z6, rfl, _⟩ := int_of Tryz.underlying3 (fld1 (c := c11) (y := y6) hci g6)
    obtain ⟨z7, rfl, _⟩ := int_of Tryz.underlying3 (fld1 (c := c12) (y := y7) hci g7)
    simp only [List.cons.injEq, and_true] at hm
    obtain ⟨rfl, rfl, rfl, rfl, rfl, rfl⟩ := hm
    refine ⟨⟨m, s1, z2, s3, z4, z5, z6, z7⟩, rfl, y0.1, y2.1, y4.1, y5.1, y6.1, y7.1, ?_⟩
    rw [hx]
    show DataW.agg [y0.1, y1.1, y2.1, y3.1, y4.1, y5.1, y6.1, y7.1] = _
    rw [e1, e3]
theorem openOp {n : Nat} {cs : List Value} {y : DataW H × List MemPlace} (h : DataW.trod enc Tryz.prog W 0 (fun _ => true) true n 114 cs = some y) :
    ∃ o : OpD, cs = (opC o).toList ∧ OpDat o y.1 ∧ -9223372036854775808 ≤ o.a ∧ o.a ≤ 9223372036854775807 := by
  obtain ⟨xs, k, _, hx, hl, hxl, hf⟩ := DataW.trod_struct Tryz.underlying114 h
  have hcl : Tryz.prog.cellsOf 114 = 17 := by kernel_rfl
  have hcm : Tryz.prog.cellsOf 48 = 13 := by kernel_rfl
  have hci : Tryz.prog.cellsOf 3 = 1 := by kernel_rfl
  have hcs : Tryz.prog.cellsOf 9 = 1 := by kernel_rfl
  rw [hcl] at hl
  match cs, hl, xs, hxl with
  | [b0, b1, b2, c0, c1, c2, c3, c4, c5, c6, c7, c8, c9, c10, c11, c12, b4], _, [y0, y1, y2, y3, y4], _ =>
    have g0 := hf 0 _ rfl
    have g1 := hf 1 _ rfl
    have g2 := hf 2 _ rfl
    have g3 := hf 3 _ rfl
    have g4 := hf 4 _ rfl
    obtain ⟨z0, rfl, _⟩ := int_of Tryz.underlying3 (fld1 (c := b0) (y := y0) hci g0)
    obtain ⟨z1, rfl, r1⟩ := int_of Tryz.underlying3 (fld1 (c := b1) (y := y1) hci g1)
    obtain ⟨z2, rfl, _⟩ := int_of Tryz.underlying3 (fld1 (c := b2) (y := y2) hci g2)
    obtain ⟨c, hc, hd⟩ := openCfg (cs := [c0, c1, c2, c3, c4, c5, c6, c7, c8, c9, c10, c11, c12]) (y := y3) (fldN (k := 13) hcm g3)
    obtain ⟨s, rfl, e4⟩ := str_of Tryz.underlying9 (fld1 (c := b4) (y := y4) hcs g4)
    refine ⟨⟨z0, z1, z2, c, s⟩, ?_, ⟨y0.1, y1.1, y2.1, y3.1, ?_, hd⟩, r1⟩
    · show [.int .i64 z0, .int .i64 z1, .int .i64 z2] ++ [c0, c1, c2, c3, c4, c5, c6, c7, c8, c9, c10, c11, c12] ++ [.string (bs s)] = _
      rw [hc]; simp [opC]
    · rw [hx]
      show DataW.agg [y0.1, y1.1, y2.1, y3.1, y4.1] = _
      rw [e4]
theorem lt_of_cell {w : World} {a : Addr} {v : Value} (h : w.cell? a = some v) : a.block < w.heap.size := by
  rcases Nat.lt_or_ge a.block w.heap.size with h1 | h1
  · exact h1
  · unfold World.cell? at h; rw [Array.getElem?_eq_none h1] at h; cases h
theorem flat_back {α : Type} (f : α → List Value) (n : Nat) (hn : 0 < n) (hf : ∀ a, (f a).length = n) : ∀ (l : List α) (j : Nat) (u : Value), (l.flatMap f)[j]? = some u → ∃ i k o, j = i * n + k ∧ l[i]? = some o ∧ (f o)[k]? = some u ∧ k < n
  | [], j, u, h => by simp at h
  | o :: r, j, u, h => by
    rw [List.flatMap_cons] at h
    rcases Nat.lt_or_ge j n with h1 | h1
    · rw [List.getElem?_append_left (by rw [hf]; exact h1)] at h
      exact ⟨0, j, o, by omega, rfl, h, h1⟩
    · rw [List.getElem?_append_right (by rw [hf]; exact h1), hf] at h
      obtain ⟨i, k, o', e, h2, h3, h4⟩ := flat_back f n hn hf r (j - n) u h
      exact ⟨i + 1, k, o', by rw [Nat.add_mul]; omega, h2, h3, h4⟩
theorem slr_scr {a : Addr} {ops : List OpD} (h : ∀ (i : Nat) (o : OpD), ops[i]? = some o → ∀ (j : Nat) (u : Value), (opC o).toList[j]? = some u → W.cell? ((a.add (i * 17)).add j) = some u) : SlR W noB 17 (some a) ops.length (scrC ops) := by
  refine ⟨scrC_len _, fun hn => ⟨a, rfl, ?_, fun x => x, fun j u hu => ?_⟩⟩
  · have h1 := h 0 _ (List.getElem?_eq_getElem hn) 0 _ rfl
    exact lt_of_cell h1
  · obtain ⟨i, k, o, e, ho, hk, _⟩ := flat_back (fun o => (opC o).toList) 17 (by decide) (fun o => opC_size o) ops j u hu
    have h1 := h i o ho k u hk
    rw [Go.Deep.add_add] at h1
    rw [e]; exact h1
theorem openScr {n : Nat} {c : Value} {y : DataW H × List MemPlace} (h : DataW.trod enc Tryz.prog W 0 (fun _ => true) true n 62 [c] = some y) :
    ∃ (ops : List OpD) (A : Option Addr) (cap : Nat), c = .slice A ops.length cap ∧ SlR W noB 17 A ops.length (scrC ops) ∧ (∀ o ∈ ops, -9223372036854775808 ≤ o.a ∧ o.a ≤ 9223372036854775807) ∧
      (ops = [] ∨ ∃ (E : Nat → DataW H) (rest : List (DataW H)), y.1 = .slice ((List.range ops.length).map E) rest ∧ ∀ (i : Nat) (o : OpD), ops[i]? = some o → OpDat o (E i)) := by
  have hco : Tryz.prog.cellsOf 114 = 17 := by kernel_rfl
  rcases Go.Deep.open_slice Tryz.underlying62 h with ⟨hc, rfl⟩ | ⟨a, len, cap, m, n', D, Pl, hc, _, hlc, _, hm, rfl, hel⟩
  · injection hc with hc _
    subst hc
    exact ⟨[], none, 0, rfl, SlR.nil, (fun o ho => nomatch ho), .inl rfl⟩
  · injection hc with hc _
    subst hc
    have hlm : len ≤ m := by simp at hm; omega
    have each : ∀ i, i < len → ∃ o : OpD, (∀ (j : Nat) (u : Value), (opC o).toList[j]? = some u → W.cell? ((a.add (i * 17)).add j) = some u) ∧ OpDat o (D i) ∧ -9223372036854775808 ≤ o.a ∧ o.a ≤ 9223372036854775807 := by
      intro i hi
      obtain ⟨cs, h1, h2⟩ := hel i (by omega)
      rw [hco] at h1
      obtain ⟨_, hlen, hcell⟩ := World.cells?_some h1
      obtain ⟨o, rfl, hd, hr⟩ := openOp h2
      refine ⟨o, fun j u hu => ?_, hd, hr⟩
      have hj : j < 17 := by
        rcases Nat.lt_or_ge j 17 with h3 | h3
        · exact h3
        · rw [List.getElem?_eq_none (by rw [hlen]; exact h3)] at hu; cases hu
      rw [hcell j hj]; exact hu
    haveI : Inhabited OpD := ⟨⟨0, 0, 0, ⟨(0, 0, 0, 0, 0, 0), [], 0, [], 0, 0, 0, 0⟩, []⟩⟩
    obtain ⟨f, hf⟩ := Go.Deep.choose_lt (α := OpD) each
    have hlen : ((List.range len).map f).length = len := by simp
    have hget : ∀ i o, ((List.range len).map f)[i]? = some o → i < len ∧ o = f i := by
      intro i o h
      rw [List.getElem?_map] at h
      rcases Nat.lt_or_ge i len with hi | hi
      · rw [List.getElem?_range hi] at h; simp at h; exact ⟨hi, h.symm⟩
      · rw [List.getElem?_eq_none (by simpa using hi)] at h; simp at h
    have hS : SlR W noB 17 (some a) ((List.range len).map f).length (scrC ((List.range len).map f)) := slr_scr fun i o ho => by
      obtain ⟨hi, rfl⟩ := hget i o ho
      exact (hf i hi).1
    refine ⟨(List.range len).map f, some a, cap, by rw [hlen], hS, fun o ho => ?_, .inr ⟨D, (List.range (m - len)).map fun j => D (len + j), by rw [hlen], fun i o ho => ?_⟩⟩
    · obtain ⟨i, hi⟩ := List.getElem?_of_mem ho
      obtain ⟨hi2, rfl⟩ := hget i o hi
      exact (hf i hi2).2.2
    · obtain ⟨hi, rfl⟩ := hget i o ho
      exact (hf i hi).2.1
theorem weights_all {l : List (DataW H)} {e : TypeId} {d : DataW H} (hd : d ∈ l) : ∀ n ∈ d.weights Tryz.prog e, n ∈ DataW.weightsAll Tryz.prog e l := by
  intro n hn
  induction l with
  | nil => cases hd
  | cons x r ih =>
    simp only [DataW.weightsAll, List.mem_append]
    rcases List.mem_cons.1 hd with h | h
    · subst h; exact .inl hn
    · exact .inr (ih h)
theorem opDat_lens {o : OpD} {d : DataW H} (h : OpDat o d) (hw : ∀ n ∈ d.weights Tryz.prog 114, n ≤ reachBytes) : o.s.length ≤ 140737488355328 ∧ o.c.name.length ≤ 140737488355328 ∧ o.c.digest.length ≤ 140737488355328 := by
  obtain ⟨x0, x1, x2, x3, rfl, y0, y1, y2, y3, y4, y5, rfl⟩ := h
  simp only [DataW.weights, Tryz.underlying114, Tryz.underlying48] at hw
  have e : reachBytes = 140737488351232 := rfl
  rw [e] at hw
  have hc : ∀ n, n ∈ (DataW.agg [y0, .lit (.string o.c.name), y1, .lit (.string o.c.digest), y2, y3, y4, y5] : DataW H).weights Tryz.prog 48 → n ≤ 140737488351232 := fun n hn => hw n (DataW.weights_mem_each (j := 3) (t := 48) rfl rfl n hn)
  simp only [DataW.weights, Tryz.underlying48] at hc
  have a1 := hw o.s.length (DataW.weights_mem_each (j := 4) (t := 9) rfl rfl _ (by simp [DataW.weights]))
  have a2 := hc o.c.name.length (DataW.weights_mem_each (j := 1) (t := 9) rfl rfl _ (by simp [DataW.weights]))
  have a3 := hc o.c.digest.length (DataW.weights_mem_each (j := 3) (t := 9) rfl rfl _ (by simp [DataW.weights]))
  omega
theorem scr_lens {ops : List OpD} {d : DataW H} (hd : ops = [] ∨ ∃ (E : Nat → DataW H) (rest : List (DataW H)), d = .slice ((List.range ops.length).map E) rest ∧ ∀ (i : Nat) (o : OpD), ops[i]? = some o → OpDat o (E i))
    (hw : (DataW.weightsEach Tryz.prog [62] [d]).all (· ≤ reachBytes) = true) : ops.length ≤ 140737488355328 ∧ Lens ops := by
  rcases hd with rfl | ⟨E, rest, rfl, hE⟩
  · exact ⟨Nat.zero_le _, fun o ho => nomatch ho⟩
  have hw' : ∀ n ∈ DataW.weightsEach Tryz.prog [62] [.slice ((List.range ops.length).map E) rest], n ≤ reachBytes := fun n hn => by simpa using List.all_eq_true.1 hw n hn
  have hs := sized_slice hw (j := 0) rfl rfl Tryz.underlying62
  have hb : Tryz.prog.bytesOf 114 = 120 := by kernel_rfl
  rw [hb] at hs
  have e : reachBytes = 140737488351232 := rfl
  refine ⟨by simp at hs; omega, fun o ho => ?_⟩
  obtain ⟨i, hi⟩ := List.getElem?_of_mem ho
  have hi2 : i < ops.length := by
    rcases Nat.lt_or_ge i ops.length with h1 | h1
    · exact h1
    · rw [List.getElem?_eq_none h1] at hi; cases hi
  refine opDat_lens (hE i o hi) fun n hn => hw' n ?_
  refine DataW.weights_mem_each (j := 0) rfl rfl n ?_
  simp only [DataW.weights, Tryz.underlying62, List.mem_cons, List.mem_append]
  exact .inr (.inl (weights_all (List.mem_map.2 ⟨i, List.mem_range.2 hi2, rfl⟩) n hn))
end
end Go.Proofs.YtcbkaiakdhiloabGreatDoor
