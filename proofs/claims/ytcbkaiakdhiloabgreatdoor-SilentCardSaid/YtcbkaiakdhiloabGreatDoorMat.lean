/- Parts of the walk; written by programs, merged. -/
import Derived.Test.YtcbkaiakdhiloabGreatDoorMas
import Derived.Test.YtcbkaiakdhiloabGreatDoorProg
import Derived.Test.YtcbkaiakdhiloabGreatDoorShelf
import Derived.WalkKit
import Derived.WalkLawsBesides
import Derived.WalkSpells
import Derived.Deep.AppendLies
import Derived.Deep.DrawnRows
import Derived.Maps.AppendAt
import Derived.StillTailTactics
import Derived.Lib.Hide
import Derived.Lib.AppendStr
import Derived.Lib.Strings
import Derived.Laws.MakeOwn
import Derived.Laws.OwnMore
import Derived.Laws.BitsAllLaws
import Derived.Orders
import Derived.Deep.MidRow
import Derived.Deep.DeepMust
import Derived.Deep.RegionHeld3
import Derived.Deep.RegionLaw
import Derived.Deep.LoopGhost
import Derived.Deep.Cut
import Derived.Deep.CutRange
import Derived.Deep.QuietTactic
import Derived.BigQuiet
import Derived.Lib.ConvBytes
import Derived.Lib.LazyBuf
import Derived.Recover
import Derived.OrdersHeld
import Derived.Lib.MapLaws
import Derived.Lib.TrimAscii
import Derived.Lib.LaidTab
import Derived.Lib.ItoaNum
import Derived.Maps.Own
import Derived.Maps.OwnOps
import Derived.Maps.OwnSet
import Derived.Maps.Views
import Derived.Maps.RangeWalk
import Derived.Lib.SlBytesRow
import Derived.Deep.CutBlock
import Derived.Lib.ItoaMem
import Derived.Laws.StructEq
import Derived.DeepKeys
import Derived.RangeFuncGives
import Derived.Sort.MapsRangeIn
import Derived.OwnWalkIn
import Derived.TacticsInMore
import Derived.RegionIn
import Derived.LoopNIn
import Derived.LoopIn
import Derived.Shelf.Abstract
import Derived.Laws.RangeString
import Derived.Lib.OthersKept
set_option linter.unusedSimpArgs false
set_option linter.unusedVariables false
set_option maxRecDepth 20000
namespace Go.Proofs.YtcbkaiakdhiloabGreatDoor
open Go.RowKit Go.Proofs
attribute [local go_sem] bs_size bs_append bs_extract bs_toList
theorem cfgK_ok (m : Mac) (q : List UInt8) (b wd : Int) (hm : m.1.toNat % 2 ≠ 1) (hz : m.1 ≠ 0) (hb : 8 ≤ b ∧ b ≤ 1024) (hw : 1 ≤ wd ∧ wd ≤ 8) : (cfgK m q b wd).Ok :=
  ⟨⟨show 1 ≤ 6 by decide, show 6 ≤ 20 by decide, show (sha q).length = 32 from rfl⟩, show kernelB.all chrOk = true by decide,
    ⟨⟨show (1 : Int) ≤ 600000 by decide, show (600000 : Int) ≤ 600000 by decide⟩, hb, hw, ⟨show (1 : Int) ≤ 16 by decide, show (16 : Int) ≤ 16 by decide⟩, ⟨show (1 : Int) ≤ 16 by decide, show (16 : Int) ≤ 16 by decide⟩⟩,
    fun e => hz (congrArg (fun q : Mac => q.1) e), hm⟩
theorem silentFn (m : Mac) (last draw : Int) (w : World) (hC : CardG m w) (hG : Glb w) (hm : m.1.toNat % 2 ≠ 1) (hz : m.1 ≠ 0) (b0 : -9223372036854775808 ≤ draw) (b1 : draw ≤ 9223372036854775807) :
    Calls Tryz.prog 4 #[.int .i64 last, .int .i64 draw] w fun e w' => e = .returned (.bool true) ∧ Fr noB w w' := by
  have hgl := glb_lt hG
  obtain ⟨x, hx⟩ : ∃ x : UInt8, IntKind.u8.wrap last = (x.toNat : Int) := ⟨UInt8.ofNat (last % 256).toNat, by
    have h1 := Int.emod_nonneg last (by omega : (256 : Int) ≠ 0)
    have h2 := Int.emod_lt_of_pos last (by omega : (0 : Int) < 256)
    rw [UInt8.toNat_ofNat']
    have e : IntKind.u8.wrap last = last % 256 := by unfold IntKind.wrap; simp [IntKind.signed, IntKind.bits]
    rw [e]; omega⟩
  obtain ⟨d, hd⟩ : ∃ d : Nat, d = pickI draw 1073741824 := ⟨_, rfl⟩
  have hdl : d < 1073741824 := by rw [hd]; exact pickI_lt _ _ (by decide)
  obtain ⟨c, hc⟩ : ∃ c : CfgI, c = cfgK (m.1, m.2.1, m.2.2.1, m.2.2.2.1, m.2.2.2.2.1, x) [120] 8 1 := ⟨_, rfl⟩
  have hok : c.Ok := by
    rw [hc]
    exact cfgK_ok _ _ _ _ hm hz ⟨by decide, by decide⟩ ⟨by decide, by decide⟩
  have hctx : c.cfg.tx ≠ 0 := by rw [hc]; show (16 : Nat) ≠ 0; decide
  go_enter Tryz.func4, Tryz.ntmps4
  refine wp_seq ?_
  refine siR0 _ w _ ⟨rfl, rfl⟩ ?_
  intro a0 w0 hs0 k0 hw; subst w0
  have e0 : sl a0 0 = .int .i64 last := (k0 0 (by decide)).trans rfl
  have e1 : sl a0 1 = .int .i64 draw := (k0 1 (by decide)).trans rfl
  clear k0
  refine wp_seq ?_
  refine siR1 m a0 w _ hs0 hC hG ?_
  intro a1 w1 g hs1 k1 o5 hf1 hB1 hg1
  have e0 := (k1 0 (by decide)).trans e0
  have e1 := (k1 1 (by decide)).trans e1
  refine wp_seq ?_
  refine siR2 m [120] 8 1 last x g a1 w1 _ hs1 e0 o5 hB1 hx ?_
  intro a2 w2 hs2 k2 hf2 hB2
  have e1 := (k2 1 (by decide)).trans e1
  have o5 := (k2 5 (by decide)).trans o5
  have hf02 : Fr noB w w2 := hf1.trans' hf2 fun b hb hx => by have hx' : b = g := hx; omega
  have hG2 := hG.keep hf02 (fun _ _ x => x)
  rw [← hc] at hB2
  clear hB1 hc hx
  refine wp_seq ?_
  refine siR3 c g a2 w2 _ hs2 o5 hB2 hG2 hok ?_
  intro a3 w3 L hs3 k3 o6 o7 hB3 ho3 hf3
  have e1 := (k3 1 (by decide)).trans e1
  have hM3 : MSt w L.p (stNew c) w3 := ⟨L, rfl, hB3, fun b hb => Nat.le_trans hf02.size (ho3 b hb), hf02.none hf3⟩
  have hF3 : Fresh c.cfg (0 : Nat) 0 (stNew c) := ⟨rfl, rfl, rfl, rfl, rfl, rfl, rfl⟩
  generalize stNew c = s3 at *
  obtain ⟨cf, hcf⟩ : ∃ cf, c.cfg = cf := ⟨_, rfl⟩
  rw [hcf] at hF3 hctx
  clear hB3 ho3 hf3 hB2 hG2 hok hcf
  generalize L.p = p at *
  refine wp_seq (wp_seq ?_)
  refine siR4 p a3 w3 _ hs3 o6 o7 ?_
  intro a4 w4 hs4 k4 o29 hw; subst w4
  refine wp_if o29 (fun hb => by cases hb) (fun _ => ?_)
  refine wp_skip ?_
  refine wp_seq ?_
  refine siR6 draw d a4 w3 _ hs4 ((k4 1 (by decide)).trans e1) hd b0 b1 hdl ?_
  intro a5 w5 hs5 k5 o8 hw; subst w5
  have hj := Nat.mod_lt d (by omega : 0 < 3)
  refine wp_seq ?_
  refine siR7 d ((d % 3 : Nat) - 1 : Int) a5 w3 _ hs5 o8 ((IntWalk.i64_in _ (by omega)).trans rfl) ((IntWalk.i64_in _ (by omega)).trans (by omega)) ?_
  intro a6 w6 hs6 k6 o9 hw; subst w6
  have o8 := (k6 8 (by decide)).trans o8
  have o6 := (k6 6 (by decide)).trans ((k5 6 (by decide)).trans ((k4 6 (by decide)).trans o6))
  clear k1 k2 k3 k4 k5 k6 hd
  refine wp_seq (wp_seq ?_)
  refine siR8 a6 w3 _ hs6 ?_
  intro a7 w7 hs7 k7 o37 hw; subst w7
  have o6 := (k7 6 (by decide)).trans o6
  have o8 := (k7 8 (by decide)).trans o8
  have o9 := (k7 9 (by decide)).trans o9
  refine wp_block ?_
  refine wp_loop_sz 121 (fun a' w' => ∃ (r : Nat) (s' : St) (t : Int), r ≤ 3 ∧ sl a' 37 = .int .i64 (r : Int) ∧ Kp [6, 8, 9] a7 a' ∧ MSt w p s' w' ∧ 0 ≤ t ∧ t ≤ 200 * r ∧ (r < 3 → Fresh cf r t s') ∧ (r = 3 → Dead s' ∧ s'.now ≤ 1000)) (fun a' _ => 3 - (intOf (sl a' 37)).toNat)
    hs7 ⟨0, s3, 0, by omega, o37, Kp.refl _ _, hM3, by omega, by omega, fun _ => hF3, fun h => by cases h⟩ ?_
  rintro b1 v1 hs1' ⟨r, s1, t, hr, i37, j1, hM1, ht0, ht1, hFr, hDd⟩
  refine wp_seq ?_
  refine siR9 r b1 v1 _ hs1' i37 ?_
  intro b2 v2 hs2' j2 o38 hw; subst v2
  refine wp_seq ?_
  have y6 := (j2 6 (by decide)).trans ((j1 6 (by decide)).trans o6)
  have y8 := (j2 8 (by decide)).trans ((j1 8 (by decide)).trans o8)
  have y9 := (j2 9 (by decide)).trans ((j1 9 (by decide)).trans o9)
  refine wp_if o38 (fun hb => ?_) (fun hb => ?_)
  rotate_left
  · have hr3 : r = 3 := by have := of_decide_eq_false hb; omega
    obtain ⟨hD, hnow⟩ := hDd hr3
    refine wp_exit (then_exit (then_exit (inBlock_self ?_)))
    refine wp_seq (wp_seq ?_)
    refine siR31 b2 v1 _ hs2' ?_
    intro b3 v3 hs3' j3 o105 hw; subst v3
    have y6 := (j3 6 (by decide)).trans y6
    have y8 := (j3 8 (by decide)).trans y8
    refine wp_block ?_
    refine wp_loop_sz 121 (fun a' w' => ∃ (i : Nat) (s' : St), i ≤ 50 ∧ sl a' 105 = .int .i64 (i : Int) ∧ Kp [6, 8] b3 a' ∧ MSt w p s' w' ∧ Dead s' ∧ s'.now ≤ 1000 + i) (fun a' _ => 50 - (intOf (sl a' 105)).toNat)
      hs3' ⟨0, s1, by omega, o105, Kp.refl _ _, hM1, hD, by omega⟩ ?_
    rintro c1 u1 hs4' ⟨i, s4, hi, i105, l1, hM4, hD4, hn4⟩
    refine wp_seq ?_
    refine siR32 i c1 u1 _ hs4' i105 ?_
    intro c2 u2 hs5' l2 o106 hw; subst u2
    have x6 := (l2 6 (by decide)).trans ((l1 6 (by decide)).trans y6)
    have x8 := (l2 8 (by decide)).trans ((l1 8 (by decide)).trans y8)
    refine wp_seq ?_
    refine wp_if o106 (fun hb => ?_) (fun hb => ?_)
    · have hlt := of_decide_eq_true hb
      refine wp_skip ?_
      refine wp_seq (wp_block ?_)
      refine siR33 w p s4 d c2 u1 _ hs5' x6 x8 hM4 hD4.q (by omega) (by omega) ?_
      intro c3 u3 hs6' l3 hM5
      obtain ⟨hD5, hn5⟩ := hD4.tick d (by omega)
      refine siR34 i (i + 1) c3 u3 _ hs6' ((l3 105 (by decide)).trans ((l2 105 (by decide)).trans i105)) ((IntWalk.i64_in _ (by omega)).trans (by omega)) ?_
      intro c4 u4 hs7' l4 o105 hw; subst u4
      refine ⟨hs7', ⟨i + 1, _, by omega, o105, (fun i hi => ((l4 i (by revert hi; revert i; decide)).trans ((l3 i (by revert hi; revert i; decide)).trans ((l2 i (by revert hi; revert i; decide)).trans (l1 i (by revert hi; revert i; decide)))))), hM5, hD5, by omega⟩, ?_⟩
      rw [o105, i105]; simp only [intOf]; omega
    · refine wp_exit (then_exit (then_exit (inBlock_self ?_)))
      refine wp_seq ?_
      refine siR35 w p s4 c2 u1 _ hs5' x6 hM4 hD4.tx (by rw [hD4.phase]; rfl) ?_
      intro c3 u3 hs6' l3 o4 hM5
      refine wp_ret ?_
      refine bodyPost_ret (results_tmp rfl _ _ _) hs6'.defers ⟨?_, hM5.fr⟩
      rw [show c3.tmps.getD 4 undef = .bool true from o4]
  have hr3 := of_decide_eq_true hb
  refine wp_skip ?_
  have hF1 := hFr hr3
  refine wp_seq (wp_block (wp_seq ?_))
  refine siR10 r b2 v1 _ hs2' ((j2 37 (by decide)).trans i37) ?_
  intro b3 v3 hs3' j3 o10 hw; subst v3
  refine wp_seq ?_
  refine siR11 b3 v1 _ hs3' ?_
  intro b4 v4 hs4' j4 o11 hw; subst v4
  refine wp_seq (wp_seq ?_)
  refine siR12 b4 v1 _ hs4' ?_
  intro b5 v5 hs5' j5 o40 hw; subst v5
  have j25 : Kp [6, 8, 9, 37] b2 b5 := (fun i hi => ((j5 i (by revert hi; revert i; decide)).trans ((j4 i (by revert hi; revert i; decide)).trans (j3 i (by revert hi; revert i; decide)))))
  have o10 := (j5 10 (by decide)).trans ((j4 10 (by decide)).trans o10)
  have o11 := (j5 11 (by decide)).trans o11
  clear j3 j4 j5
  refine siRound w p cf d r t s1 (by omega) hctx ht0 (by omega) hF1 b5 v1 _ hs5' ((j25 6 (by decide)).trans y6) ((j25 8 (by decide)).trans y8) ((j25 9 (by decide)).trans y9) o11 o40 hM1 ?_
  intro b6 v6 s6 t6 hs6' j6 hM6 ht6 ht60 hS6
  have j26 : Kp [6, 8, 9, 37] b2 b6 := (fun i hi => ((j6 i (by revert hi; revert i; decide)).trans (j25 i (by revert hi; revert i; decide))))
  have o10 := (j6 10 (by decide)).trans o10
  refine wp_seq ?_
  refine siR27 w p s6 d b6 v6 _ hs6' ((j26 6 (by decide)).trans y6) ((j26 8 (by decide)).trans y8) hM6 hS6.quiet (by rw [hS6.now]; omega) (by omega) ?_
  intro b7 v7 hs7' j7 hM7
  obtain ⟨htx, hbo, hno, hA, hZ⟩ := hS6.over (by omega) ht60 (by omega) (by omega) (by omega)
  have j27 : Kp [6, 8, 9, 37] b2 b7 := (fun i hi => ((j7 i (by revert hi; revert i; decide)).trans (j26 i (by revert hi; revert i; decide))))
  refine wp_seq ?_
  refine siR28 w p _ r b7 v7 _ hs7' ((j27 6 (by decide)).trans y6) ((j7 10 (by decide)).trans o10) hM7 htx (IntWalk.i64_in _ (by omega)) (by rw [hbo]; simp) ?_
  intro b8 v8 hs8' j8 o103 hM8
  refine wp_if o103 (fun hb => by cases hb) (fun _ => ?_)
  refine wp_skip ?_
  have j28 : Kp [6, 8, 9, 37] b2 b8 := (fun i hi => ((j8 i (by revert hi; revert i; decide)).trans (j27 i (by revert hi; revert i; decide))))
  refine siR30 r (r + 1) b8 v8 _ hs8' ((j28 37 (by decide)).trans ((j2 37 (by decide)).trans i37)) ((IntWalk.i64_in _ (by omega)).trans (by omega)) ?_
  intro b9 v9 hs9' j9 o37' hw; subst v9
  refine ⟨hs9', ⟨r + 1, _, t6 + 1, by omega, o37', (fun i hi => ((j9 i (by revert hi; revert i; decide)).trans ((j28 i (by revert hi; revert i; decide)).trans ((j2 i (by revert hi; revert i; decide)).trans (j1 i (by revert hi; revert i; decide)))))), hM8, by omega, by omega, fun h => by have := hA (by omega); rw [show ((r + 1 : Nat) : Int) = (r : Int) + 1 by omega]; exact this, fun h => ⟨hZ (by omega), by rw [hno]; omega⟩⟩, ?_⟩
  rw [o37', i37]; simp only [intOf]; omega
end Go.Proofs.YtcbkaiakdhiloabGreatDoor
