/- Parts of the walk; written by programs, merged. -/
import Derived.Test.YtcbkaiakdhiloabGreatDoorMai
import Derived.Test.YtcbkaiakdhiloabGreatDoorProg
import Derived.Test.YtcbkaiakdhiloabGreatDoorShelf
import Derived.WalkKit
import Derived.WalkLawsBesides
import Derived.WalkSpells
import Derived.Deep.AppendLies
import Derived.Deep.DrawnRows
import Derived.Maps.AppendAt
import Derived.StillTailTactics
import Derived.Lib.Hide
import Derived.Lib.AppendStr
import Derived.Lib.Strings
import Derived.Laws.MakeOwn
import Derived.Laws.OwnMore
import Derived.Laws.BitsAllLaws
import Derived.Orders
import Derived.Deep.MidRow
import Derived.Deep.DeepMust
import Derived.Deep.RegionHeld3
import Derived.Deep.RegionLaw
import Derived.Deep.LoopGhost
import Derived.Deep.Cut
import Derived.Deep.CutRange
import Derived.Deep.QuietTactic
import Derived.BigQuiet
import Derived.Lib.ConvBytes
import Derived.Lib.LazyBuf
import Derived.Recover
import Derived.OrdersHeld
import Derived.Lib.MapLaws
import Derived.Lib.TrimAscii
import Derived.Lib.LaidTab
import Derived.Lib.ItoaNum
import Derived.Maps.Own
import Derived.Maps.OwnOps
import Derived.Maps.OwnSet
import Derived.Maps.Views
import Derived.Maps.RangeWalk
import Derived.Lib.SlBytesRow
import Derived.Deep.CutBlock
set_option linter.unusedSimpArgs false
set_option linter.unusedVariables false
namespace Go.Proofs.YtcbkaiakdhiloabGreatDoor
open Go.RowKit Go.Proofs
attribute [local go_sem] bs_size bs_append bs_extract bs_toList
theorem BootAt.set1 {w : World} {L : Lay} {s : St} (h : BootAt w L s) (k : Nat) (v : Value) (s' : St) (he : (bootC s L).setIfInBounds k v = bootC s' L) (hc : s'.c = s.c) (hr : s'.rx = s.rx) (ht : s'.tx = s.tx) (hm : s'.cache = s.cache) (hi : s'.image = s.image) (ok : s'.Ok) :
    BootAt (w.setCell ⟨L.p, k, Option.none⟩ v) L s' := by
  have hb : Bk (w.setCell ⟨L.p, k, Option.none⟩ v) L.p 102 (bootC s' L) := by rw [← he]; exact h.bk.set k v
  exact h.turn s' ((Fr.refl (oneB L.p) w).setCell (p := ⟨L.p, k, Option.none⟩) (fun _ => rfl) v) hb hc hr ht hm hi ok
theorem fr_set1 (L : Lay) (w : World) (k : Nat) (v : Value) : Fr (own' L) w (w.setCell ⟨L.p, k, none⟩ v) := (Fr.refl (own' L) w).setCell (p := ⟨L.p, k, none⟩) (fun _ => own_p L) v
theorem both_wt (s : St) : wtO s.both ≤ 1000 := by simp [St.both, wtO, big_length]
set_option maxRecDepth 20000 in
set_option maxHeartbeats 4000000 in
theorem bootAsksL (L : Lay) (s : St) (w : World) (h : BootAt w L s) :
    Calls Tryz.prog 90 #[.pointer (some ⟨L.p, 0, none⟩)] w (LPost L s.asks (.tuple #[]) w) := by
  have c21 := h.g21
  by_cases hl : s.lease = 1
  · have hu : s.asks = s.say 1 false [] := by unfold St.asks; rw [if_pos hl]
    have b1 : ((s.lease : Int) == 1) = true := by rw [hl]; rfl
    have hcall := bootSayL0 L s 1 [] none 0 0 w h rfl SlR.nil (by decide)
    have Hcall := Lib.hid hcall
    have Hu := Lib.hid hu
    clear hcall hu hl
    go_enter Tryz.func90, Tryz.ntmps90
    go_wp2_with fail
    refine Hcall.out.mono ?_
    rintro e w2 ⟨rfl, hM, f2⟩
    go_wp2_with fail
    refine bodyPost_end (results_none rfl _ _ _) rfl ?_
    rw [Hu.out]
    exact ⟨rfl, hM, f2⟩
  · have hu : s.asks = s.say 3 false s.both := by unfold St.asks; rw [if_neg hl]
    have b1 : ((s.lease : Int) == 1) = false := by simp; omega
    have Hu := Lib.hid hu
    clear hu hl
    go_enter Tryz.func90, Tryz.ntmps90
    go_upto_region 2 with fail
    refine wp_region_pls (by kernel_rfl) (fun w' => BootAt w' L s ∧ Fr noB w w') [16] (.p 0 (.p 1 (.p 2 (.p 3 (.p 4 (.p 8 (.p 9 (.p 10 (.p 11 (.q 5 (.q 12 (.e 6 (.p 7 (.e 13 (.p 14 (.e 15 (.e 16 (.nil)))))))))))))))))) (by kernel_rfl) (⟨h.drew, (Fr.refl _ _).drew⟩) ?_
    intro ops Q' hO hQ' wr1 hR1
    iterate 9 (refine pl_p0 hO rfl rfl ?_ (fun w' => ?_) ?_; rotate_left 1; (focus (go_simp; ((try with_reducible rfl); done))); simp only [Act.put, List.setIfInBounds_toArray, List.set_cons_zero, List.set_cons_succ])
    iterate 2 (refine pl_q0 hO rfl rfl ?_ (fun w' hS => ?_) ?_; rotate_left 1; (focus (obtain ⟨hB, hF⟩ := hS; have c23 := hB.g23; have c26 := hB.g26; go_simp; ((try with_reducible rfl); done))); simp only [Act.put, List.setIfInBounds_toArray, List.set_cons_zero, List.set_cons_succ])
    refine pl_e0 hO rfl rfl rfl (fun K hK => ?_)
    go_simp
    refine (bootFour s.addr _ h.ok.addr).mono ?_
    rintro e w2 ⟨rfl, fw2⟩
    refine hK _ _ (⟨hR1.1.none fw2, hR1.2.none fw2⟩) (fun hR_6 => ?_)
    clear hK K
    refine pl_p0 hO rfl rfl ?_ (fun w' => ?_) ?_; rotate_left 1; (focus (go_simp; ((try with_reducible rfl); done))); simp only [Act.put, List.setIfInBounds_toArray, List.set_cons_zero, List.set_cons_succ]
    refine pl_e0 hO rfl rfl rfl (fun K hK => ?_)
    go_simp
    refine (bootFour s.server _ h.ok.server).mono ?_
    rintro e w3 ⟨rfl, fw3⟩
    refine hK _ _ (⟨hR_6.1.none fw3, hR_6.2.none fw3⟩) (fun hR_13 => ?_)
    clear hK K
    refine pl_p0 hO rfl rfl ?_ (fun w' => ?_) ?_; rotate_left 1; (focus (go_simp; ((try with_reducible rfl); done))); simp only [Act.put, List.setIfInBounds_toArray, List.set_cons_zero, List.set_cons_succ]
    refine pl_e0 hO rfl rfl rfl (fun K hK => ?_)
    go_simp
    refine hK _ _ (⟨hR_13.1.none ((Fr.refl _ _).alloc _), hR_13.2.none ((Fr.refl _ _).alloc _)⟩) (fun hR_15 => ?_)
    clear hK K
    refine pl_b0 hO rfl rfl rfl (fun K hK => ?_)
    go_simp
    refine (bootSayL0 L s 3 s.both (some ⟨w3.heap.size, 0, none⟩) 2 2 _ hR_15.1 rfl (SlR.of_bk (Bk.new w3 72 #[.int .u8 50, .string (bs (big 4 s.addr)), .int .u8 54, .string (bs (big 4 s.server))]) (fun x => x) rfl) (both_wt s)).mono ?_
    rintro e w4 ⟨rfl, hM4, f4⟩
    refine hK _ _ ?_
    clear hK K
    refine pl_nil (hQ' _ _ ?_)
    go_wp2_with fail
    refine bodyPost_end (results_none rfl _ _ _) rfl ?_
    rw [Hu.out]
    exact ⟨rfl, hM4, (hR_15.2.of_no (own' L)).trans f4⟩
set_option maxRecDepth 20000 in
set_option maxHeartbeats 4000000 in
theorem bootGoesL (L : Lay) (s : St) (l : Nat) (w : World) (h : BootAt w L s) :
    Calls Tryz.prog 89 #[.pointer (some ⟨L.p, 0, none⟩), .int .i64 (l : Int)] w (LPost L (s.goes l) (.tuple #[]) w) := by
  obtain ⟨s2, hs2⟩ : ∃ s2 : St, { s with lease := l, lsends := 1 } = s2 := ⟨_, rfl⟩
  have hM2 : BootAt ((w.setCell ⟨L.p, 21, none⟩ (.int .i64 (l : Int))).setCell ⟨L.p, 32, none⟩ (.int .i64 1)) L s2 := by
    rw [← hs2]
    exact (h.set1 21 (.int .i64 (l : Int)) { s with lease := l } rfl rfl rfl rfl rfl rfl { h.ok with }).set1 32 (.int .i64 1) { s with lease := l, lsends := 1 } rfl rfl rfl rfl rfl rfl { h.ok with lsends := by show 1 ≤ 4; decide }
  have f2 : Fr (own' L) w ((w.setCell ⟨L.p, 21, none⟩ (.int .i64 (l : Int))).setCell ⟨L.p, 32, none⟩ (.int .i64 1)) := (fr_set1 L w _ _).trans (fr_set1 L _ _ _)
  have c21 := h.g21
  have c32 := h.g32
  have hfz := h.fr
  go_enter Tryz.func89, Tryz.ntmps89
  go_upto_region 2 with fail
  generalize (w.setCell ⟨L.p, 21, none⟩ (.int .i64 (l : Int))).setCell ⟨L.p, 32, none⟩ (.int .i64 1) = w2 at *
  have q := i64w (s2.now + s2.wait 0)
  refine wp_region_pls (by kernel_rfl) (fun w' => BootAt w' L s2 ∧ Fr noB w2 w') [11] (.p 0 (.p 1 (.p 2 (.p 3 (.p 5 (.q 4 (.e 6 (.p 7 (.p 8 (.p 9 (.p 10 (.e 11 (.nil))))))))))))) (by kernel_rfl) (⟨hM2.drew, (Fr.refl _ _).drew⟩) ?_
  intro ops Q' hO hQ' wr1 hR1
  iterate 5 (refine pl_p0 hO rfl rfl ?_ (fun w' => ?_) ?_; rotate_left 1; (focus (go_simp; ((try with_reducible rfl); done))); simp only [Act.put, List.setIfInBounds_toArray, List.set_cons_zero, List.set_cons_succ])
  refine pl_q0 hO rfl rfl ?_ (fun w' hS => ?_) ?_; rotate_left 1; (focus (obtain ⟨hB, hF⟩ := hS; have c16 := hB.g16; go_simp; ((try with_reducible rfl); done))); simp only [Act.put, List.setIfInBounds_toArray, List.set_cons_zero, List.set_cons_succ]
  refine pl_e0 hO rfl rfl rfl (fun K hK => ?_)
  go_simp
  refine (bootWait L s2 0 (by decide) _ hR1.1).mono ?_
  rintro e w5 ⟨rfl, fw5⟩
  refine hK _ _ (⟨hR1.1.none fw5, hR1.2.none fw5⟩) (fun hR_6 => ?_)
  clear hK K
  iterate 4 (refine pl_p0 hO rfl rfl ?_ (fun w' => ?_) ?_; rotate_left 1; (focus (go_simp; ((try with_reducible rfl); done))); simp only [Act.put, List.setIfInBounds_toArray, List.set_cons_zero, List.set_cons_succ])
  refine pl_b0 hO rfl rfl rfl (fun K hK => ?_)
  have c31 := hR_6.1.g31
  have hfz := hR_6.1.fr
  go_simp
  refine hK _ _ ?_
  clear hK K
  refine pl_nil (hQ' _ _ ?_)
  have hM6 := hR_6.1.set1 31 (.int .i64 (wrap64 (s2.now + s2.wait 0))) { s2 with lagain := wrap64 (s2.now + s2.wait 0) } rfl rfl rfl rfl rfl rfl { hR_6.1.ok with }
  have f6 := fr_set1 L w5 31 (.int .i64 (wrap64 (s2.now + s2.wait 0)))
  generalize w5.setCell ⟨L.p, 31, none⟩ (.int .i64 (wrap64 (s2.now + s2.wait 0))) = w6 at *
  go_wp2_with fail
  refine (bootAsksL L _ _ hM6).mono ?_
  rintro e w7 ⟨rfl, hM7, f7⟩
  go_wp2_with fail
  refine bodyPost_end (results_none rfl _ _ _) rfl ?_
  exact ⟨rfl, by rw [← hs2] at hM7; exact hM7, f2.trans ((hR_6.2.of_no (own' L)).trans (f6.trans f7))⟩
end Go.Proofs.YtcbkaiakdhiloabGreatDoor
namespace Go.Proofs.YtcbkaiakdhiloabGreatDoor
open Go.RowKit Go.Proofs
attribute [local go_sem] bs_size bs_append bs_extract bs_toList
set_option maxRecDepth 20000 in
set_option maxHeartbeats 4000000 in
theorem tick0 (L : Lay) (s : St) (w : World) (h : BootAt w L s) (hl : s.lease = 0) :
    Calls Tryz.prog 45 #[.pointer (some ⟨L.p, 0, none⟩)] w (LPost L (({ s with xid := s.draw } : St).goes 1) (.tuple #[]) w) := by
  have c21 := h.g21
  have hfz := h.fr
  rw [hl] at c21
  have c17 := h.g17
  have c22 := h.g22
  have hM2 := h.set1 22 (.int .u32 (s.draw : Int)) { s with xid := s.draw } rfl rfl rfl rfl rfl rfl { h.ok with xid := h.ok.draw }
  go_enter Tryz.func45, Tryz.ntmps45
  go_wp2_with fail
  refine (bootGoesL L { s with xid := s.draw } 1 _ hM2).mono ?_
  rintro e w2 ⟨rfl, hM3, f3⟩
  go_wp2_with fail
  exact bodyPost_end (results_none rfl _ _ _) rfl ⟨rfl, hM3, (fr_set1 L w 22 _).trans f3⟩
set_option maxRecDepth 20000 in
set_option maxHeartbeats 4000000 in
theorem tick1a (L : Lay) (s : St) (w : World) (h : BootAt w L s) (hl : s.lease = 1) (h1 : s.now < s.lagain) :
    Calls Tryz.prog 45 #[.pointer (some ⟨L.p, 0, none⟩)] w (LPost L s (.tuple #[]) w) := by
  have c21 := h.g21
  have hfz := h.fr
  rw [hl] at c21
  go_enter Tryz.func45, Tryz.ntmps45
  go_upto_region 8 with fail
  refine wp_region_pls (by kernel_rfl) (fun w' => BootAt w' L s ∧ Fr noB w w') [] (.p 0 (.p 1 (.p 2 (.p 4 (.p 5 (.p 6 (.q 3 (.q 7 (.p 8 .nil))))))))) (by kernel_rfl) (⟨h.drew, (Fr.refl _ _).drew⟩) ?_
  intro ops Q' hO hQ' wr1 hR1
  iterate 6 (refine pl_p0 hO rfl rfl ?_ (fun w' => ?_) ?_; rotate_left 1; (focus (go_simp; ((try with_reducible rfl); done))); simp only [Act.put, List.setIfInBounds_toArray, List.set_cons_zero, List.set_cons_succ])
  iterate 2 (refine pl_q0 hO rfl rfl ?_ (fun w' hS => ?_) ?_; rotate_left 1; (focus (obtain ⟨hB, hF⟩ := hS; have c16 := hB.g16; have c31 := hB.g31; have c32 := hB.g32; go_simp; ((try with_reducible rfl); done))); simp only [Act.put, List.setIfInBounds_toArray, List.set_cons_zero, List.set_cons_succ])
  refine pl_p0 hO rfl rfl ?_ (fun w' => ?_) ?_; rotate_left 1; (focus (go_simp; ((try with_reducible rfl); done))); simp only [Act.put, List.setIfInBounds_toArray, List.set_cons_zero, List.set_cons_succ]
  refine pl_nil (hQ' _ _ ?_)
  go_wp2_with fail
  exact bodyPost_end (results_none rfl _ _ _) rfl ⟨rfl, hR1.1, hR1.2.of_no _⟩
set_option maxRecDepth 20000 in
set_option maxHeartbeats 4000000 in
theorem tick1b (L : Lay) (s : St) (w : World) (h : BootAt w L s) (hl : s.lease = 1) (h1 : s.lagain ≤ s.now) (h4 : s.lsends = 4) :
    Calls Tryz.prog 45 #[.pointer (some ⟨L.p, 0, none⟩)] w (LPost2 L s.fail (.tuple #[]) w) := by
  have c21 := h.g21
  have hfz := h.fr
  rw [hl] at c21
  have g1 : decide (s.now < s.lagain) = false := by simp; omega
  go_enter Tryz.func45, Tryz.ntmps45
  go_upto_region 8 with fail
  refine wp_region_pls (by kernel_rfl) (fun w' => BootAt w' L s ∧ Fr noB w w') [] (.p 0 (.p 1 (.p 2 (.p 4 (.p 5 (.p 6 (.q 3 (.q 7 (.p 8 .nil))))))))) (by kernel_rfl) (⟨h.drew, (Fr.refl _ _).drew⟩) ?_
  intro ops Q' hO hQ' wr1 hR1
  iterate 6 (refine pl_p0 hO rfl rfl ?_ (fun w' => ?_) ?_; rotate_left 1; (focus (go_simp; ((try with_reducible rfl); done))); simp only [Act.put, List.setIfInBounds_toArray, List.set_cons_zero, List.set_cons_succ])
  iterate 2 (refine pl_q0 hO rfl rfl ?_ (fun w' hS => ?_) ?_; rotate_left 1; (focus (obtain ⟨hB, hF⟩ := hS; have c16 := hB.g16; have c31 := hB.g31; have c32 := hB.g32; go_simp; ((try with_reducible rfl); done))); simp only [Act.put, List.setIfInBounds_toArray, List.set_cons_zero, List.set_cons_succ])
  refine pl_p0 hO rfl rfl ?_ (fun w' => ?_) ?_; rotate_left 1; (focus (go_simp; ((try with_reducible rfl); done))); simp only [Act.put, List.setIfInBounds_toArray, List.set_cons_zero, List.set_cons_succ]
  refine pl_nil (hQ' _ _ ?_)
  have d32 := hR1.1.g32
  rw [h4] at d32
  go_wp2_with fail
  refine (bootFailL L s _ hR1.1).mono ?_
  intro e w2 hp
  obtain ⟨rfl, hp⟩ := hp
  go_wp2_with fail
  exact bodyPost_end (results_none rfl _ _ _) rfl (LPost2.comp (L1 := L) rfl (fun b hb => .inl hb) (hR1.2.of_no _) ⟨rfl, hp⟩)
set_option maxRecDepth 20000 in
set_option maxHeartbeats 4000000 in
theorem tick1c (L : Lay) (s : St) (w : World) (h : BootAt w L s) (hl : s.lease = 1) (h1 : s.lagain ≤ s.now) (h4 : s.lsends ≠ 4) :
    Calls Tryz.prog 45 #[.pointer (some ⟨L.p, 0, none⟩)] w (LPost L (({ s with lagain := wrap64 (s.now + s.wait s.lsends), lsends := s.lsends + 1 } : St).asks) (.tuple #[]) w) := by
  have c21 := h.g21
  have hfz := h.fr
  rw [hl] at c21
  have g1 : decide (s.now < s.lagain) = false := by simp; omega
  have b4 : ((s.lsends : Int) == 4) = false := by simp; omega
  have hls := h.ok.lsends
  obtain ⟨n1, hn1⟩ : ∃ n1, s.lsends + 1 = n1 := ⟨_, rfl⟩
  have hn4 : n1 ≤ 4 := by omega
  have q1 : IntKind.i64.wrap ((s.lsends : Int) + 1) = (n1 : Int) := by rw [IntWalk.i64_in _ (by omega)]; omega
  have q := i64w (s.now + s.wait s.lsends)
  have Hn1 := Lib.hid hn1
  have H4 := Lib.hid h4
  have Hls := Lib.hid hls
  clear hn1 h4 hls
  go_enter Tryz.func45, Tryz.ntmps45
  go_upto_region 8 with fail
  refine wp_region_pls (by kernel_rfl) (fun w' => BootAt w' L s ∧ Fr noB w w') [] (.p 0 (.p 1 (.p 2 (.p 4 (.p 5 (.p 6 (.q 3 (.q 7 (.p 8 .nil))))))))) (by kernel_rfl) (⟨h.drew, (Fr.refl _ _).drew⟩) ?_
  intro ops Q' hO hQ' wr1 hR1
  iterate 6 (refine pl_p0 hO rfl rfl ?_ (fun w' => ?_) ?_; rotate_left 1; (focus (go_simp; ((try with_reducible rfl); done))); simp only [Act.put, List.setIfInBounds_toArray, List.set_cons_zero, List.set_cons_succ])
  iterate 2 (refine pl_q0 hO rfl rfl ?_ (fun w' hS => ?_) ?_; rotate_left 1; (focus (obtain ⟨hB, hF⟩ := hS; have c16 := hB.g16; have c31 := hB.g31; have c32 := hB.g32; go_simp; ((try with_reducible rfl); done))); simp only [Act.put, List.setIfInBounds_toArray, List.set_cons_zero, List.set_cons_succ])
  refine pl_p0 hO rfl rfl ?_ (fun w' => ?_) ?_; rotate_left 1; (focus (go_simp; ((try with_reducible rfl); done))); simp only [Act.put, List.setIfInBounds_toArray, List.set_cons_zero, List.set_cons_succ]
  refine pl_nil (hQ' _ _ ?_)
  have d32 := hR1.1.g32
  go_upto_region 11 with fail
  refine wp_region_pls (by kernel_rfl) (fun w' => BootAt w' L s ∧ Fr noB w w') [14] (.p 0 (.p 1 (.p 2 (.p 3 (.p 5 (.p 6 (.p 7 (.p 8 (.q 4 (.q 9 (.e 10 (.p 11 (.p 12 (.p 13 (.e 14 (.nil)))))))))))))))) (by kernel_rfl) (⟨hR1.1.drew, hR1.2.drew⟩) ?_
  intro ops Q' hO hQ' wr2 hR2
  iterate 8 (refine pl_p0 hO rfl rfl ?_ (fun w' => ?_) ?_; rotate_left 1; (focus (go_simp; ((try with_reducible rfl); done))); simp only [Act.put, List.setIfInBounds_toArray, List.set_cons_zero, List.set_cons_succ])
  iterate 2 (refine pl_q0 hO rfl rfl ?_ (fun w' hS => ?_) ?_; rotate_left 1; (focus (obtain ⟨hB, hF⟩ := hS; have c16 := hB.g16; have c31 := hB.g31; have c32 := hB.g32; go_simp; ((try with_reducible rfl); done))); simp only [Act.put, List.setIfInBounds_toArray, List.set_cons_zero, List.set_cons_succ])
  refine pl_e0 hO rfl rfl rfl (fun K hK => ?_)
  go_simp
  refine (bootWait L s s.lsends h.ok.lsends _ hR2.1).mono ?_
  rintro e w5 ⟨rfl, fw5⟩
  refine hK _ _ (⟨hR2.1.none fw5, hR2.2.none fw5⟩) (fun hR_10 => ?_)
  clear hK K
  iterate 3 (refine pl_p0 hO rfl rfl ?_ (fun w' => ?_) ?_; rotate_left 1; (focus (go_simp; ((try with_reducible rfl); done))); simp only [Act.put, List.setIfInBounds_toArray, List.set_cons_zero, List.set_cons_succ])
  refine pl_b0 hO rfl rfl rfl (fun K hK => ?_)
  have d31 := hR_10.1.g31
  have hfz2 := hR_10.1.fr
  go_simp
  refine hK _ _ ?_
  clear hK K
  refine pl_nil (hQ' _ _ ?_)
  have hM6 := (hR_10.1.set1 31 (.int .i64 (wrap64 (s.now + s.wait s.lsends))) { s with lagain := wrap64 (s.now + s.wait s.lsends) } rfl rfl rfl rfl rfl rfl { h.ok with })
  have hM7 := hM6.set1 32 (.int .i64 (n1 : Int)) { s with lagain := wrap64 (s.now + s.wait s.lsends), lsends := n1 } rfl rfl rfl rfl rfl rfl { h.ok with lsends := hn4 }
  have f7 := (fr_set1 L w5 31 (.int .i64 (wrap64 (s.now + s.wait s.lsends)))).trans (fr_set1 L _ 32 (.int .i64 (n1 : Int)))
  have d32 := hR_10.1.g32
  have hfz3 := hR_10.1.fr
  go_wp2_with fail
  refine (bootAsksL L _ _ hM7).mono ?_
  rintro e w8 ⟨rfl, hM8, f8⟩
  go_wp2_with fail
  refine bodyPost_end (results_none rfl _ _ _) rfl ?_
  rw [Hn1.out] 
  exact ⟨rfl, hM8, (hR_10.2.of_no (own' L)).trans (f7.trans f8)⟩
end Go.Proofs.YtcbkaiakdhiloabGreatDoor
