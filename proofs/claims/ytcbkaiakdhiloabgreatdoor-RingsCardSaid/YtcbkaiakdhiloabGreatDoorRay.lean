/- Parts of the walk; written by programs, merged. -/
import Derived.Test.YtcbkaiakdhiloabGreatDoorRar
import Derived.Test.YtcbkaiakdhiloabGreatDoorRax
import Derived.Deep.Slices
import Derived.OpenShut
set_option linter.unusedSimpArgs false
set_option linter.unusedVariables false
set_option maxRecDepth 20000
set_option maxHeartbeats 8000000
set_option maxRecDepth 20000
namespace Go.Proofs.YtcbkaiakdhiloabGreatDoor
open Go.RowKit Go.Proofs
attribute [local go_sem] bs_size bs_append bs_extract bs_toList
theorem leased_off {s : St} (h : s.lease = 0) (d : DhcD) : s.leased d = s := by
  have hg : ∀ fm, s.granted d fm = s := fun fm => by
    unfold St.granted
    split
    · rfl
    · rw [if_pos (.inl (by omega))]
  unfold St.leased
  split
  · split
    · rw [if_neg (by omega)]
    · split
      · rw [hg]; exact ite_self _
      · split
        · rw [if_neg (by omega)]
        · rfl
  · rfl
theorem arped_off {s : St} (h : s.lease = 0) (hc : s.cache = []) (x : ArpD) : s.arped x = s := by rw [St.arped_low x (by omega) hc, if_neg (by omega)]
theorem modArp0 (p T : Nat) (M : MLay) (s : St) (x : ArpD) (w : World) (h : ModelAt w p T M s) (hlow : s.lease = 0) (hc : s.cache = []) : Calls Tryz.prog 182 #[.pointer (some ⟨p, 0, none⟩), .agg (arpC x)] w (fun e w' => e = .returned (.tuple #[]) ∧ MNow p T M w s w') := by
  go_enter Tryz.func182, Tryz.ntmps182
  have hlt := h.lt
  have hret : ∀ (a' : Act) (w' : World), Sz 140 a' → ModelAt w' p T M s → Fr noB w w' → bodyPost Tryz.prog Tryz.f182 (fun e w' => e = .returned (.tuple #[]) ∧ MNow p T M w s w') .ret a' w' := fun a' w' hs hM hF => bodyPost_ret (results_none rfl _ _ _) hs.defers ⟨rfl, MNow.of hM (hF.of_no _)⟩
  have hend : ∀ (a' : Act) (w' : World), Sz 140 a' → ModelAt w' p T M s → Fr noB w w' → bodyPost Tryz.prog Tryz.f182 (fun e w' => e = .returned (.tuple #[]) ∧ MNow p T M w s w') .normal a' w' := fun a' w' hs hM hF => bodyPost_end (results_none rfl _ _ _) hs.defers ⟨rfl, MNow.of hM (hF.of_no _)⟩
  refine wp_seq ?_
  refine naqR0 x _ w _ ⟨rfl, rfl⟩ rfl ?_
  intro a0 w0 hs0 k0 o3 f0 hG
  have e0 : sl a0 0 = .pointer (some ⟨p, 0, none⟩) := (k0 0 (by decide)).trans rfl
  have h := h.none f0
  generalize w.heap.size = g at *
  refine wp_seq (wp_seq ?_)
  refine naqR1a p T M s x g a0 w0 _ hs0 e0 o3 h hG (by rw [hlow]; rfl) ?_
  intro a1 w1 hs1 k1 o33 h hG f1
  have f01 := f0.none f1
  have e0 := (k1 0 (by decide)).trans e0
  have o3 := (k1 3 (by decide)).trans o3
  refine wp_if o33 (fun hb => by cases hb) (fun _ => wp_skip ?_)
  refine wp_seq ?_
  refine naqR4a p T M s x g a1 w1 _ hs1 e0 o3 h hG (off_address hlow) ?_
  intro a2 w2 hs2 k2 o4 h hG f2
  have f02 := f01.none f2
  have e0 := (k2 0 (by decide)).trans e0
  have o3 := (k2 3 (by decide)).trans o3
  refine wp_seq ?_
  have fin : ∀ (a' : Act) (w' : World), Sz 140 a' → sl a' 4 = .bool false → Fr noB w w' → ModelAt w' p T M s → (Code.seq (regionOf Tryz.f182 15) (Code.cond (.tmp 118) (Code.seq (regionOf Tryz.f182 16) (regionOf Tryz.f182 17)) .skip)).wp Tryz.prog (bodyPost Tryz.prog Tryz.f182 (fun e w' => e = .returned (.tuple #[]) ∧ MNow p T M w s w')) a' w' := by
    intro a' w' hs' e4 hf h'
    refine wp_seq ?_
    refine naqR15 false a' w' _ hs' e4 ?_
    intro a2 w2 hs2 k2 o hw; subst w2
    exact wp_if o (fun hb => by cases hb) (fun _ => wp_skip (hend a2 w' hs2 h' hf))
  refine wp_seq ?_
  refine naqR5 p T M s x g a2 w2 _ hs2 e0 o3 h hG ?_
  intro a3 w3 hs3 k3 o75 h hG f3
  have f03 := f02.none f3
  have e0 := (k3 0 (by decide)).trans e0
  have o3 := (k3 3 (by decide)).trans o3
  have e4 := (k3 4 (by decide)).trans o4
  refine wp_if o75 (fun hb => ?_) (fun hb => wp_skip (fin a3 w3 hs3 e4 f03 h))
  refine wp_seq ?_
  refine naqR6 p T M s x g a3 w3 _ hs3 e0 o3 h hG ?_
  intro a4 w4 r hs4 k4 o5 hFd f4
  have h := h.none f4
  have hG := hG.keep f4 (fun x => x)
  have f04 := f03.none f4
  have hr : r = -1 := by
    rcases hFd with ⟨rfl, _⟩ | ⟨k, e, _, hk, _⟩
    · rfl
    · rw [hc] at hk; cases hk
  subst hr
  have e0 := (k4 0 (by decide)).trans e0
  have o3 := (k4 3 (by decide)).trans o3
  have e4 := (k4 4 (by decide)).trans e4
  refine wp_seq ?_
  refine naqR7 p T M s x g a4 w4 _ hs4 e0 o3 h hG ?_
  intro a5 w5 gf hs5 k5 o6 h hG _ f5
  have f05 := f04.none f5
  have e4 := (k5 4 (by decide)).trans e4
  refine wp_seq ?_
  refine naqR8 (-1) a5 w5 _ hs5 ((k5 5 (by decide)).trans o5) ?_
  intro a6 w6 hs6 k6 o91 hw; subst w6
  have e4 := (k6 4 (by decide)).trans e4
  refine wp_if o91 (fun hb => absurd (of_decide_eq_true hb) (by decide)) (fun _ => ?_)
  refine wp_seq ?_
  refine naqR13 false a6 w5 _ hs6 e4 ?_
  intro a7 w7 hs7 k7 o114 hw; subst w7
  refine wp_if o114 (fun hb => by cases hb) (fun _ => wp_skip ?_)
  exact fin a7 w5 hs7 ((k7 4 (by decide)).trans e4) f05 h
theorem modGranted0 (p T : Nat) (M : MLay) (s : St) (d : DhcD) (A : Option Addr) (cap n : Nat) (fm : Nat) (w : World) (h : ModelAt w p T M s) (hlow : s.lease = 0) (hn : d.os.length = n) (hA : SlR w (mown p M) 2 A n (optC d.os)) (hwt : wtO d.os ≤ 1099511627776) (hy : d.yours < 4294967296) (hnx : d.next < 4294967296) : Calls Tryz.prog 233 #[.pointer (some ⟨p, 0, none⟩), .agg #[.bool d.reply, .int .u32 (d.xid : Int), .int .u32 (d.client : Int), .int .u32 (d.yours : Int), .int .u32 (d.next : Int), .int .u8 (d.mac.1.toNat : Int), .int .u8 (d.mac.2.1.toNat : Int), .int .u8 (d.mac.2.2.1.toNat : Int), .int .u8 (d.mac.2.2.2.1.toNat : Int), .int .u8 (d.mac.2.2.2.2.1.toNat : Int), .int .u8 (d.mac.2.2.2.2.2.toNat : Int), .slice A n cap], .int .u32 (fm : Int)] w fun e w' => e = .returned (.tuple #[]) ∧ ModelAt w' p T M s ∧ Fr noB w w' := by
  go_enter Tryz.func233, Tryz.ntmps233
  have hret : ∀ (a' : Act) (w' : World), Sz 219 a' → ModelAt w' p T M s → Fr noB w w' → bodyPost Tryz.prog Tryz.f233 (fun e w' => e = .returned (.tuple #[]) ∧ ModelAt w' p T M s ∧ Fr noB w w') .ret a' w' := fun a' w' hs hM hF => bodyPost_ret (results_none rfl _ _ _) hs.defers ⟨rfl, hM, hF⟩
  refine wp_seq ?_
  refine grR0 d A cap n _ w _ ⟨rfl, rfl⟩ rfl ?_
  intro a0 w0 hs0 k0 o4 f0 hG0
  have e0 : sl a0 0 = .pointer (some ⟨p, 0, none⟩) := (k0 0 (by decide)).trans rfl
  have hD0 : DmAt w0 p M d A cap n w.heap.size := ⟨hG0, hA.keep (f0.of_no _), fun x => by have := h.lt _ x; omega, hn, hwt, hy, hnx⟩
  have h0 := h.none f0
  generalize w.heap.size = g at *
  refine wp_seq ?_
  refine grR1 p M d A cap n g a0 w0 _ hs0 o4 hD0 ?_
  intro a1 w1 hs1 k1 o6 o7 f1
  have h1 := h0.none f1
  have hD1 := hD0.none f1
  have e0 := (k1 0 (by decide)).trans e0
  have o4 := (k1 4 (by decide)).trans o4
  refine wp_seq ?_
  refine grR2c p T M s a1 w1 _ hs1 e0 h1 (by omega) (by omega) ?_
  intro a2 w2 hs2 k2 o8 hw; subst w2
  refine wp_seq (wp_seq ?_)
  refine grR3a p T M s d A cap n g a2 w1 _ hs2 ((k2 0 (by decide)).trans e0) ((k2 4 (by decide)).trans o4) (o8.trans (by rw [hlow]; rfl)) h1 hD1 ?_
  intro a3 w3 hs3 k3 o59 h3 f3
  exact wp_if o59 (fun _ => wp_ret (hret a3 w3 hs3 h3 ((f0.none f1).none f3))) (fun hb => by cases hb)
theorem dpgR14 (p T : Nat) (M : MLay) (s : St) (d : DhcD) (A : Option Addr) (cap n g : Nat) (fm : Nat) (a : Act) (w : World) (K : KT) (hs : Sz 94 a)
    (h0 : sl a 0 = .pointer (some ⟨p, 0, none⟩)) (h3 : sl a 3 = .pointer (some ⟨g, 0, none⟩)) (h8 : sl a 8 = .int .u32 (fm : Int)) (h : ModelAt w p T M s) (hD : DmAt w p M d A cap n g) (hlow : s.lease = 0)
    (hK : ∀ a' w', Sz 94 a' → Kp [0, 3, 4, 6, 7, 8, 9, 44] a a' → ModelAt w' p T M s → Fr noB w w' → K .normal a' w') :
    (regionOf Tryz.f186 14).wp Tryz.prog K a w := by
  refine rgE hK (dpF_of hs) fun HK => ?_; clear hK hs
  simp only [dpF, h0, h3, h8]
  have hGc := hD.bk.cells
  have hcall := modGranted0 p T M s d A cap n fm w h hlow hD.hn hD.sl hD.wt hD.yours hD.next
  have Hcall := Lib.hid hcall
  clear hcall hlow
  go_wp2_with fail
  refine Hcall.out.mono ?_
  rintro e w1 ⟨rfl, hM1, hf1⟩
  go_wp2_with fail
  exact HK.out _ _ ⟨rfl, rfl⟩ kk  hM1 hf1
theorem modDhcp0 (p T : Nat) (M : MLay) (s : St) (d : DhcD) (A : Option Addr) (cap n : Nat) (w : World) (h : ModelAt w p T M s) (hlow : s.lease = 0) (hn : d.os.length = n) (hA : SlR w (mown p M) 2 A n (optC d.os)) (hwt : wtO d.os ≤ 1099511627776) (hy : d.yours < 4294967296) (hnx : d.next < 4294967296) : Calls Tryz.prog 186 #[.pointer (some ⟨p, 0, none⟩), .agg #[.bool d.reply, .int .u32 (d.xid : Int), .int .u32 (d.client : Int), .int .u32 (d.yours : Int), .int .u32 (d.next : Int), .int .u8 (d.mac.1.toNat : Int), .int .u8 (d.mac.2.1.toNat : Int), .int .u8 (d.mac.2.2.1.toNat : Int), .int .u8 (d.mac.2.2.2.1.toNat : Int), .int .u8 (d.mac.2.2.2.2.1.toNat : Int), .int .u8 (d.mac.2.2.2.2.2.toNat : Int), .slice A n cap]] w (fun e w' => e = .returned (.tuple #[]) ∧ MNow p T M w s w') := by
  go_enter Tryz.func186, Tryz.ntmps186
  have hret : ∀ (a' : Act) (w' : World), Sz 94 a' → ModelAt w' p T M s → Fr noB w w' → bodyPost Tryz.prog Tryz.f186 (fun e w' => e = .returned (.tuple #[]) ∧ MNow p T M w s w') .ret a' w' := fun a' w' hs hM hF => bodyPost_ret (results_none rfl _ _ _) hs.defers ⟨rfl, MNow.of hM (hF.of_no _)⟩
  have hend : ∀ (a' : Act) (w' : World), Sz 94 a' → ModelAt w' p T M s → Fr noB w w' → bodyPost Tryz.prog Tryz.f186 (fun e w' => e = .returned (.tuple #[]) ∧ MNow p T M w s w') .normal a' w' := fun a' w' hs hM hF => bodyPost_end (results_none rfl _ _ _) hs.defers ⟨rfl, MNow.of hM (hF.of_no _)⟩
  refine wp_seq ?_
  refine dpR0 d A cap n _ w _ ⟨rfl, rfl⟩ rfl ?_
  intro a0 w0 hs0 k0 o3 f0 hG0
  have e0 : sl a0 0 = .pointer (some ⟨p, 0, none⟩) := (k0 0 (by decide)).trans rfl
  have hD0 : DmAt w0 p M d A cap n w.heap.size := ⟨hG0, hA.keep (f0.of_no _), fun x => by have := h.lt _ x; omega, hn, hwt, hy, hnx⟩
  have h0 := h.none f0
  generalize w.heap.size = g at *
  refine wp_seq ?_
  refine dpR1 p M d A cap n g a0 w0 _ hs0 o3 hD0 ?_
  intro a1 w1 hs1 k1 o4 f1
  refine wp_seq ?_
  refine dpR2 p M d A cap n g a1 w1 _ hs1 ((k1 3 (by decide)).trans o3) (hD0.none f1) ?_
  intro a2 w2 hs2 k2 o6 o7 f2
  have f02 := (f0.none f1).none f2
  have h2 := (h0.none f1).none f2
  have hD2 := (hD0.none f1).none f2
  have e0 := (k2 0 (by decide)).trans ((k1 0 (by decide)).trans e0)
  have o3 := (k2 3 (by decide)).trans ((k1 3 (by decide)).trans o3)
  have o4 := (k2 4 (by decide)).trans o4
  refine wp_seq (wp_seq ?_)
  obtain ⟨x, hx⟩ : ∃ x, (optOf d.os 53).getD [] = x := ⟨_, rfl⟩
  rw [hx] at o4
  by_cases hx1 : x.length = 1
  rotate_left
  · refine dpR3a x a2 w2 _ hs2 o4 (by rw [bne_iff_ne]; omega) ?_
    intro a3 w3 hs3 k3 o hw; subst w3
    exact wp_if o (fun _ => wp_ret (hret a3 w2 hs3 h2 f02)) (fun hb => by cases hb)
  refine dpR3b x _ a2 w2 _ hs2 o4 o7 (by rw [bne_eq_false_iff_eq]; omega) ?_
  intro a3 w3 hs3 k3 o27 hw; subst w3
  cases hn54 : St.number d.os 54 with
  | none =>
    rw [hn54] at o27
    exact wp_if o27 (fun _ => wp_ret (hret a3 w2 hs3 h2 f02)) (fun hb => by cases hb)
  | some fm =>
  rw [hn54] at o27 o6
  have hfm := number_lt hn54
  refine wp_if o27 (fun hb => by cases hb) (fun _ => wp_skip ?_)
  obtain ⟨k, rfl⟩ : ∃ k, x = [k] := by
    rcases x with _ | ⟨k, _ | ⟨y, r⟩⟩
    · cases hx1
    · exact ⟨k, rfl⟩
    · simp at hx1
  have e0 := (k3 0 (by decide)).trans e0
  have o3 := (k3 3 (by decide)).trans o3
  have o4 := (k3 4 (by decide)).trans o4
  refine wp_seq ?_
  refine dpR4 fm a3 w2 _ hs3 ((k3 6 (by decide)).trans o6) hfm ?_
  intro a4 w4 hs4 k4 o8 hw; subst w4
  have e0 := (k4 0 (by decide)).trans e0
  have o3 := (k4 3 (by decide)).trans o3
  have o4 := (k4 4 (by decide)).trans o4
  refine wp_seq ?_
  have key : ∀ K : Exit → Act → World → Prop, (∀ a' b, Sz 94 a' → Kp [0, 3, 4, 8] a4 a' → sl a' 9 = .bool b → K .normal a' w2) → (regionOf Tryz.f186 5).wp Tryz.prog K a4 w2 := fun K hK => by
    by_cases q1 : fm = s.server
    · exact dpR5a p T M s fm a4 w2 K hs4 e0 o8 h2 (by rw [beq_iff_eq]; omega) fun a' w' hs' k' o e => by subst e; exact hK a' _ hs' (fun i hi => k' i (by revert hi; revert i; decide)) o
    · exact dpR5b p T M s fm a4 w2 K hs4 e0 o8 h2 (by rw [beq_eq_false_iff_ne]; omega) fun a' w' hs' k' o e => by subst e; exact hK a' _ hs' (fun i hi => k' i (by revert hi; revert i; decide)) o
  refine key _ ?_
  intro a5 b hs5 k5 o9
  have e0 := (k5 0 (by decide)).trans e0
  have o3 := (k5 3 (by decide)).trans o3
  have o8 := (k5 8 (by decide)).trans o8
  refine wp_seq ?_
  refine dpR6 k a5 w2 _ hs5 ((k5 4 (by decide)).trans o4) ?_
  intro a6 w6 hs6 k6 o44 hw; subst w6
  have e0 := (k6 0 (by decide)).trans e0
  have o3 := (k6 3 (by decide)).trans o3
  have o8 := (k6 8 (by decide)).trans o8
  have o9 := (k6 9 (by decide)).trans o9
  refine wp_block (wp_seq ?_)
  refine dpR7 k a6 w2 _ hs6 o44 ?_
  intro a7 w7 hs7 k7 o45 hw; subst w7
  have e0 := (k7 0 (by decide)).trans e0
  have o3 := (k7 3 (by decide)).trans o3
  have o8 := (k7 8 (by decide)).trans o8
  have o9 := (k7 9 (by decide)).trans o9
  have o44 := (k7 44 (by decide)).trans o44
  refine wp_if o45 (fun _ => ?_) (fun _ => ?_)
  · refine wp_seq ?_
    refine dpR8a p T M s a7 w2 _ hs7 e0 h2 (by rw [hlow]; rfl) ?_
    intro a8 w8 hs8 k8 o hw; subst w8
    exact wp_if o (fun hb => by cases hb) (fun _ => wp_skip (hend a8 w2 hs8 h2 f02))
  refine wp_seq ?_
  refine dpR12 k a7 w2 _ hs7 o44 ?_
  intro a8 w8 hs8 k8 o68 hw; subst w8
  have e0 := (k8 0 (by decide)).trans e0
  have o3 := (k8 3 (by decide)).trans o3
  have o8 := (k8 8 (by decide)).trans o8
  have o9 := (k8 9 (by decide)).trans o9
  have o44 := (k8 44 (by decide)).trans o44
  refine wp_if o68 (fun _ => ?_) (fun _ => ?_)
  · refine wp_seq ?_
    refine dpR13 _ a8 w2 _ hs8 o9 ?_
    intro a9 w9 hs9 k9 o70 hw; subst w9
    refine wp_if o70 (fun _ => ?_) (fun _ => wp_skip (hend a9 w2 hs9 h2 f02))
    refine dpgR14 p T M s d A cap n g fm a9 w2 _ hs9 ((k9 0 (by decide)).trans e0) ((k9 3 (by decide)).trans o3) ((k9 8 (by decide)).trans o8) h2 hD2 hlow ?_
    intro b1 v1 hs10 k10 h10 f10
    exact hend b1 v1 hs10 h10 (f02.none f10)
  refine wp_seq ?_
  refine dpR15 k a8 w2 _ hs8 o44 ?_
  intro a9 w9 hs9 k9 o75 hw; subst w9
  have e0 := (k9 0 (by decide)).trans e0
  have o9 := (k9 9 (by decide)).trans o9
  refine wp_if o75 (fun _ => ?_) (fun _ => wp_skip (hend a9 w2 hs9 h2 f02))
  refine wp_seq ?_
  cases b with
  | false =>
    refine dpR16a a9 w2 _ hs9 o9 ?_
    intro b1 v1 hs10 k10 o hw; subst v1
    exact wp_if o (fun hb => by cases hb) (fun _ => wp_skip (hend b1 w2 hs10 h2 f02))
  | true =>
    refine dpR16b p T M s a9 w2 _ hs9 e0 o9 h2 (by rw [hlow]; decide) ?_
    intro b1 v1 hs10 k10 o hw; subst v1
    exact wp_if o (fun hb => by cases hb) (fun _ => wp_skip (hend b1 w2 hs10 h2 f02))
theorem frame_off {s : St} (h : Off s) (f : List UInt8) : s.frame f = s := by
  have hb : s.busy = false := by unfold St.busy; rw [h.phase]; rfl
  have hw : ∀ x y, s.wanted x y = s := fun x y => by unfold St.wanted; rw [hb]; exact if_neg (fun x => by cases x.1)
  have hl : ∀ x, s.leasedP x = s := fun x => by unfold St.leasedP; rw [leased_off h.lease]; exact ite_self _
  rw [St.frame_eq]
  simp only [arped_off h.lease h.cache, hw, hl, ite_self]
theorem modFrame0 (p T : Nat) (M : MLay) (s : St) (ld : List UInt8) (w : World) (h : ModelAt w p T M s) (hf : Off s) (hld : ld.length ≤ 900000) : Calls Tryz.prog 153 #[.pointer (some ⟨p, 0, none⟩), .string (bs ld)] w (fun e w' => e = .returned (.tuple #[]) ∧ MNow p T M w s w') := by
  have hb : s.busy = false := by unfold St.busy; rw [hf.phase]; rfl
  have := modFrameG p T M s ld w h hld (fun x w h _ _ _ => by rw [arped_off hf.lease hf.cache]; exact modArp0 p T M s x w h hf.lease hf.cache) (fun d A cap n w h h1 h2 h3 h4 h5 => by rw [leased_off hf.lease]; exact modDhcp0 p T M s d A cap n w h hf.lease h1 h2 h3 h4 h5) (fun x => by rw [hb] at x; cases x)
  rw [frame_off hf] at this
  exact this
def RInv (s : St) : Prop := Off s ∧ ∀ f ∈ s.rx, f.length ≤ 900000
theorem PollI.all {Inv : St → Prop} {fr : St → List UInt8 → St} (h : PollI Inv fr) : ∀ (m : Nat) (s : St) (k : Nat), Inv s → Inv (pollG fr m s k).1
  | 0, s, k, hi => hi
  | m + 1, s, k, hi => by
    unfold pollG
    split
    · exact hi
    · next f r hq =>
      refine h.all m _ _ ?_
      split
      · next ho => exact h.over s f r hi hq ho
      · next ho => exact h.go s f r hi hq (by simpa using ho)
theorem rInv_id : PollI RInv (fun t _ => t) :=
  ⟨fun t f r h hr _ => ⟨⟨h.1.lease, h.1.cache, h.1.phase⟩, fun x hx => h.2 x (by rw [hr]; exact List.mem_cons_of_mem _ hx)⟩, fun t f r h hr _ => ⟨⟨h.1.lease, h.1.cache, h.1.phase⟩, fun x hx => h.2 x (by rw [hr]; exact List.mem_cons_of_mem _ hx)⟩⟩
theorem bootPoll0 (L : Lay) (s : St) (n : Int) (hn : n ≤ 9223372036854775807) (w : World) (h : BootAt w L s) (hi : RInv s) :
    Calls Tryz.prog 104 #[.pointer (some ⟨L.p, 0, none⟩), .int .i64 n] w (LPost2 L (pollG (fun t _ => t) n.toNat s 0).1 (.int .i64 ((pollG (fun t _ => t) n.toNat s 0).2 : Int)) w) :=
  bootPollG RInv (fun t _ => t) rInv_id (fun t f r ht hr _ L w hB => bootFrame0 L _ f w hB ⟨ht.1.lease, ht.1.cache, ht.1.phase⟩ (by have := ht.2 f (by rw [hr]; exact List.mem_cons_self); omega)) L s n hn w h hi
theorem modPoll0 (p T : Nat) (M : MLay) (s : St) (n : Int) (hn : n ≤ 9223372036854775807) (w : World) (h : ModelAt w p T M s) (hi : RInv s) :
    Calls Tryz.prog 105 #[.pointer (some ⟨p, 0, none⟩), .int .i64 n] w fun e w' => e = .returned (.int .i64 ((pollG (fun t _ => t) n.toNat s 0).2 : Int)) ∧ MNow p T M w (pollG (fun t _ => t) n.toNat s 0).1 w' :=
  modPollG p T RInv (fun t _ => t) rInv_id (fun t f r ht hr _ M w hB => modFrame0 p T M _ f w hB ⟨ht.1.lease, ht.1.cache, ht.1.phase⟩ (ht.2 f (by rw [hr]; exact List.mem_cons_self))) M s n hn w h hi
end Go.Proofs.YtcbkaiakdhiloabGreatDoor
set_option maxRecDepth 20000
namespace Go.Proofs.YtcbkaiakdhiloabGreatDoor
open Go.RowKit Go.Proofs
attribute [local go_sem] bs_size bs_append bs_extract bs_toList
def InvR (k : Nat) (ss : List St) : Prop := (∀ s ∈ ss, RInv s) ∧ ss.length ≤ k
theorem tot_mem {o : OpD} : ∀ (ops : List OpD), o ∈ ops → wOp o ≤ (ops.map wOp).sum
  | [], h => nomatch h
  | x :: r, h => by
    rw [List.map_cons, List.sum_cons]
    rcases List.mem_cons.1 h with rfl | h
    · omega
    · have := tot_mem r h; omega
theorem InvR.step {k : Nat} {ss : List St} (h : InvR k ss) : InvR (k + 1) ss := ⟨h.1, by have := h.2; omega⟩
theorem InvR.set {k i : Nat} {ss : List St} {s : St} (h : InvR k ss) (hq : RInv s) : InvR (k + 1) (ss.set i s) := by
  refine ⟨fun x hx => ?_, by rw [List.length_set]; exact h.step.2⟩
  rcases List.mem_or_eq_of_mem_set hx with h1 | rfl
  · exact h.1 x h1
  · exact hq
theorem InvR.new {k : Nat} {ss : List St} (c : CfgI) (h : InvR k ss) : InvR (k + 1) (ss ++ [stNew c]) := by
  refine ⟨fun x hx => ?_, by rw [List.length_append]; have := h.2; simp; omega⟩
  rcases List.mem_append.1 hx with h1 | h1
  · exact h.1 x h1
  · rw [List.mem_singleton.1 h1]; exact ⟨⟨rfl, rfl, rfl⟩, fun f hf => nomatch hf⟩
theorem rInv_take {s : St} (h : RInv s) : RInv s.take.1 := by
  unfold St.take; split <;> exact ⟨⟨h.1.lease, h.1.cache, h.1.phase⟩, h.2⟩
theorem rInv_put {s : St} {f : List UInt8} (h : RInv s) (hf : f.length ≤ 900000) : RInv (s.put f).1 := by
  unfold St.put
  split
  · exact h
  · refine ⟨⟨h.1.lease, h.1.cache, h.1.phase⟩, fun x hx => ?_⟩
    rcases List.mem_append.1 hx with h1 | h1
    · exact h.2 x h1
    · rw [List.mem_singleton.1 h1]; exact hf
theorem played1_eq {kind : Int} (h : playedB kind 1 = true) : kind = 1 ∨ kind = 2 ∨ kind = 3 ∨ kind = 5 := by
  unfold playedB at h
  rw [if_pos rfl] at h
  exact of_decide_eq_true h
theorem ringsStep (ops : List OpD) (hn : ops.length ≤ 65536) (hA : ∀ o ∈ ops, (-9223372036854775808 ≤ o.a ∧ o.a ≤ 9223372036854775807) ∧ o.n ≤ 9223372036854775807) (hs2 : ∀ o ∈ ops, o.s.length ≤ 65536) (k : Nat) (o : OpD) (ss : List St) (ho : ops[k]? = some o) (hp : playedB o.kind 1 = true) (hI : InvR k ss) :
    ∃ ss', InvR (k + 1) ss' ∧ ∀ (base g T : Nat) (l : List Pr) (A : Option Addr) (cap : Nat) (w : World), WldAt base w g T l A cap → l.map (·.s) = ss → Glb2 base w → Calls Tryz.prog 54 #[.pointer (some ⟨g, 0, none⟩), .agg (opC o)] w (StepTo base g T ss' w) := by
  have hk : k < ops.length := by
    rcases Nat.lt_or_ge k ops.length with h1 | h1
    · exact h1
    · rw [List.getElem?_eq_none h1] at ho; cases ho
  have hA := hA o (List.mem_of_getElem? ho)
  have hs2 := hs2 o (List.mem_of_getElem? ho)
  have hkind := played1_eq hp
  by_cases k1 : o.kind = 1
  · refine ⟨if o.c.Ok then ss ++ [stNew o.c] else ss, ?_, ?_⟩
    · split
      · exact hI.new o.c
      · exact hI.step
    · intro base g T l A cap w hW hl hG
      have hc := stepNew base g T l A cap o w hW hG k1 (by have := hI.2; rw [← hl, List.length_map] at this; omega)
      rw [hl] at hc; exact hc
  rcases hss : ss with _ | ⟨s0, ss0⟩
  · refine ⟨[], ⟨(fun s hs => nomatch hs), Nat.zero_le _⟩, ?_⟩
    intro base g T l A cap w hW hl hG
    have hl0 : l = [] := List.map_eq_nil_iff.1 hl
    have hc := stepEmpty base g T l A cap o w hW hG k1 hl0
    rw [hl] at hc; exact hc
  rw [← hss]
  have hpos : 0 < ss.length := by rw [hss]; simp
  clear hss
  have hil := pickI_lt o.a ss.length hpos
  obtain ⟨i, hi⟩ : ∃ i, pickI o.a ss.length = i := ⟨_, rfl⟩
  rw [hi] at hil
  obtain ⟨s, hs⟩ : ∃ s, ss[i]? = some s := ⟨ss[i], List.getElem?_eq_getElem hil⟩
  have hq := hI.1 s (List.mem_of_getElem? hs)
  have at_ : ∀ (l : List Pr), l.map (·.s) = ss → l.length = ss.length ∧ ∃ x, l[i]? = some x ∧ x.s = s := fun l hl => by
    have hlen : l.length = ss.length := by rw [← hl, List.length_map]
    obtain ⟨x, hx⟩ : ∃ x, l[i]? = some x := ⟨l[i]'(by omega), List.getElem?_eq_getElem (by omega)⟩
    refine ⟨hlen, x, hx, ?_⟩
    have : (l.map (·.s))[i]? = some x.s := by rw [List.getElem?_map, hx]; rfl
    rw [hl, hs] at this; exact (Option.some.inj this).symm
  rcases hkind with h | h | h | h
  · exact absurd h k1
  · refine ⟨ss.set i (s.put o.s).1, hI.set (rInv_put hq (by omega)), ?_⟩
    intro base g T l A cap w hW hl hG
    obtain ⟨hlen, x, hx, rfl⟩ := at_ l hl
    have hc := stepPut base g T l A cap o w hW hG h i x (by rw [hlen]; exact hi.symm) hx (by have := hI.2; omega) hA.1.1 hA.1.2 (x.s.put o.s).1 (x.s.put o.s).2
      (fun w h => (bootPutL x.L x.s o.s w h).mono fun e w' hp => hp.two) (fun w h => modPut x.p T x.M x.s o.s w h)
    rw [hl] at hc; exact hc
  · refine ⟨ss.set i s.take.1, hI.set (rInv_take hq), ?_⟩
    intro base g T l A cap w hW hl hG
    obtain ⟨hlen, x, hx, rfl⟩ := at_ l hl
    obtain ⟨d, hd⟩ : ∃ d : Nat, o.n % 4294967296 = (d : Int) := ⟨(o.n % 4294967296).toNat, by omega⟩
    have hc := stepPair base g T l A cap o w hW hG k1 i d x (by rw [hlen]; exact hi.symm) hx (by have := hI.2; omega) hA.1.1 hA.1.2 x.s.take.1 hd (.inl ⟨h, rfl⟩) (fun k4 => by omega) (fun k4 => by omega)
    rw [hl] at hc; exact hc
  · refine ⟨ss.set i (pollG (fun t _ => t) o.n.toNat s 0).1, hI.set (rInv_id.all _ _ _ hq), ?_⟩
    intro base g T l A cap w hW hl hG
    obtain ⟨hlen, x, hx, rfl⟩ := at_ l hl
    have hc := stepPoll base g T l A cap o w hW hG h i x (by rw [hlen]; exact hi.symm) hx (by have := hI.2; omega) hA.1.1 hA.1.2 _ _
      (fun w h => bootPoll0 x.L x.s o.n hA.2 w h hq) (fun w h => modPoll0 x.p T x.M x.s o.n hA.2 w h hq)
    rw [hl] at hc; exact hc
def wgF (u : Nat → Value) : Act := ⟨#[u 0, u 1, u 2, u 3, u 4, u 5, u 6, u 7, u 8, u 9, u 10], []⟩
set_option maxRecDepth 100000 in
theorem wgF_eq (u : Nat → Value) : wgF u = frN 11 u := rfl
theorem wgF_of {a : Act} (h : Sz 11 a) : a = wgF (sl a) := h.eq.trans (wgF_eq _).symm
set_option maxRecDepth 100000 in
theorem wgF_sz (u : Nat → Value) : Sz 11 (wgF u) := ⟨rfl, rfl⟩
theorem wgR0  (a : Act) (w : World) (K : KT) (hs : Sz 11 a)
     
    (hK : ∀ a' w', Sz 11 a' → Kp [0] a a' → sl a' 2 = .bool false → w' = w → K .normal a' w') :
    (regionOf Tryz.f5 0).wp Tryz.prog K a w := by
  refine rgE hK (wgF_of hs) fun HK => ?_; clear hK hs
  simp only [wgF]
  go_wp2_with fail
  exact HK.out _ _ ⟨rfl, rfl⟩ kk (rfl) rfl
theorem wgR1 (A : Option Addr) (n cap : Nat) (b : Bool) (a : Act) (w : World) (K : KT) (hs : Sz 11 a)
    (h0 : sl a 0 = .slice A n cap) (h1 : Calls Tryz.prog 22 #[.slice A n cap] w fun e w' => e = .returned (.bool b) ∧ Fr noB w w') (h2 : b = true → ∀ w1, Fr noB w w1 → Calls Tryz.prog 23 #[.slice A n cap, .int .i64 1] w1 fun e w' => e = .returned (.int .i64 (-1)) ∧ Fr noB w1 w')
    (hK : ∀ a' w', Sz 11 a' → Kp [0] a a' → sl a' 2 = .bool true → Fr noB w w' → K .normal a' w') :
    (regionOf Tryz.f5 1).wp Tryz.prog K a w := by
  refine rgE hK (wgF_of hs) fun HK => ?_; clear hK hs
  simp only [wgF, h0]
  have H1 := Lib.hid h1
  clear h1
  have H2 := Lib.hid h2
  clear h2
  go_wp2_with fail
  refine H1.out.mono ?_
  rintro e w1 ⟨rfl, hF⟩
  rcases b with _ | _
  · go_wp2_with fail
    exact HK.out _ _ ⟨rfl, rfl⟩ kk (rfl) hF
  · go_wp2_with fail
    refine (H2.out trivial w1 hF).mono ?_
    rintro e w2 ⟨rfl, hF2⟩
    have hF := hF.trans hF2
    go_wp2_with fail
    exact HK.out _ _ ⟨rfl, rfl⟩ kk (rfl) hF
theorem ringsFn (ops : List OpD) (A : Option Addr) (cap : Nat) (w : World) (hscr : SlR w noB 17 A ops.length (scrC ops)) (hG : Glb w) (ha : RowG w 4 #[.int .u8 255, .int .u8 255, .int .u8 255, .int .u8 255, .int .u8 255, .int .u8 255]) (hl : Lens ops) (hn : ops.length ≤ 140737488355328) (hA : ∀ o ∈ ops, (-9223372036854775808 ≤ o.a ∧ o.a ≤ 9223372036854775807) ∧ o.n ≤ 9223372036854775807) :
    Calls Tryz.prog 5 #[.slice A ops.length cap] w fun e w' => e = .returned (.bool true) ∧ Fr noB w w' := by
  go_enter Tryz.func5, Tryz.ntmps5
  refine wp_seq ?_
  refine wgR0 _ w _ ⟨rfl, rfl⟩ ?_
  intro a0 w0 hs0 k0 o2 hw; subst w0
  have e0 : sl a0 0 = .slice A ops.length cap := (k0 0 (by decide)).trans rfl
  refine wp_seq ?_
  refine wgR1 A ops.length cap _ a0 w _ hs0 e0 (smallFn ops A cap w hscr hl hn) (fun hb w1 hf => ?_) ?_
  · have ht := of_decide_eq_true hb
    have hn2 : ops.length ≤ 65536 := by unfold totN at ht; omega
    have hs2 : ∀ o ∈ ops, o.s.length ≤ 65536 := fun o ho => by
      have h1 := tot_mem ops ho
      have h2 : o.s.length ≤ wOp o := by unfold wOp; omega
      unfold totN at ht; omega
    exact upToFn 1 (by decide) ops A cap w1 (hscr.keep hf) (hG.keep hf (fun _ _ x => x)) (ha.keep hf (fun x => x)) hn2 InvR ⟨(fun s hs => nomatch hs), Nat.zero_le _⟩
      (fun base g T l A cap k o w hW _ => endsNo base g T l A cap 1 (opC o) w hW (by decide) (by decide))
      (fun k o ss _ _ h => h.step) (ringsStep ops hn2 hA hs2)
  intro a1 w1 hs1 k1 o2 hf
  refine wp_ret ?_
  have hp : bodyPost Tryz.prog Tryz.f5 (fun e w' => e = .returned (.bool true) ∧ Fr noB w w') .ret a1 w1 := by
    refine bodyPost_ret (results_tmp rfl _ _ _) hs1.defers ⟨?_, hf⟩
    rw [show a1.tmps.getD 2 undef = .bool true from o2]
  exact hp
end Go.Proofs.YtcbkaiakdhiloabGreatDoor
set_option maxRecDepth 20000
namespace Go.Proofs.YtcbkaiakdhiloabGreatDoor
open Go.RowKit Go.Proofs Go.ChangeShapes Go.WideShapes
section
variable {H : Type} {enc : TypeId × Value → H} {W : World}
theorem int_of {n : Nat} {t : TypeId} {c : Value} {y : DataW H × List MemPlace} (ht : Tryz.prog.underlying t = some (.int .i64)) (h : DataW.trod enc Tryz.prog W 0 (fun _ => true) true n t [c] = some y) : ∃ z : Int, c = .int .i64 z ∧ -9223372036854775808 ≤ z ∧ z ≤ 9223372036854775807 := by
  obtain ⟨q, hq, _, hwf⟩ := DataW.trod_int ht h
  injection hq with hq _
  have hq2 : -9223372036854775808 ≤ q ∧ q ≤ 9223372036854775807 := by simpa [Lit.wf, IntKind.min, IntKind.max, IntKind.signed, IntKind.bits] using hwf
  exact ⟨q, hq, hq2⟩
theorem u8_of {n : Nat} {t : TypeId} {c : Value} {y : DataW H × List MemPlace} (ht : Tryz.prog.underlying t = some (.int .u8)) (h : DataW.trod enc Tryz.prog W 0 (fun _ => true) true n t [c] = some y) : ∃ z : UInt8, c = .int .u8 (z.toNat : Int) := by
  obtain ⟨q, hq, _, hwf⟩ := DataW.trod_int ht h
  injection hq with hq _
  have hq2 : 0 ≤ q ∧ q ≤ 255 := by simpa [Lit.wf, IntKind.min, IntKind.max, IntKind.signed, IntKind.bits] using hwf
  refine ⟨UInt8.ofNat q.toNat, ?_⟩
  rw [hq, UInt8.toNat_ofNat']; congr 1; omega
theorem str_of {n : Nat} {t : TypeId} {c : Value} {y : DataW H × List MemPlace} (ht : Tryz.prog.underlying t = some .string) (h : DataW.trod enc Tryz.prog W 0 (fun _ => true) true n t [c] = some y) : ∃ s : List UInt8, c = .string (bs s) ∧ y.1 = .lit (.string s) := by
  obtain ⟨s, hs, hsx, _⟩ := DataW.trod_string ht h
  injection hs with hs _
  exact ⟨s.data.toList, by rw [hs, bs_of], by rw [hsx]⟩
theorem fld1 {n : Nat} {t : TypeId} {c : Value} {r : List Value} {y : DataW H × List MemPlace} (hc : Tryz.prog.cellsOf t = 1) (h : DataW.trod enc Tryz.prog W 0 (fun _ => true) true n t ((c :: r).take (Tryz.prog.cellsOf t)) = some y) : DataW.trod enc Tryz.prog W 0 (fun _ => true) true n t [c] = some y := by rw [hc] at h; exact h
theorem fldN {n k : Nat} {t : TypeId} {cs : List Value} {y : DataW H × List MemPlace} (hc : Tryz.prog.cellsOf t = k) (h : DataW.trod enc Tryz.prog W 0 (fun _ => true) true n t (cs.take (Tryz.prog.cellsOf t)) = some y) : DataW.trod enc Tryz.prog W 0 (fun _ => true) true n t (cs.take k) = some y := by rw [hc] at h; exact h
theorem arr1 {n i : Nat} {t : TypeId} {c : Value} {cs r : List Value} {y : DataW H × List MemPlace} (hc : Tryz.prog.cellsOf t = 1) (h : DataW.trod enc Tryz.prog W 0 (fun _ => true) true n t ((cs.drop (i * Tryz.prog.cellsOf t)).take (Tryz.prog.cellsOf t)) = some y) (hd : cs.drop (i * 1) = c :: r := by rfl) : DataW.trod enc Tryz.prog W 0 (fun _ => true) true n t [c] = some y := by rw [hc, hd] at h; exact h
def CfgDat (c : CfgI) (d : DataW H) : Prop := ∃ x0 x1 x2 x3 x4 x5, d = .agg [x0, .lit (.string c.name), x1, .lit (.string c.digest), x2, x3, x4, x5]
def OpDat (o : OpD) (d : DataW H) : Prop := ∃ x0 x1 x2 x3, d = .agg [x0, x1, x2, x3, .lit (.string o.s)] ∧ CfgDat o.c x3
theorem openMac {n : Nat} {c0 c1 c2 c3 c4 c5 : Value} {y : DataW H × List MemPlace} (h : DataW.trod enc Tryz.prog W 0 (fun _ => true) true n 23 [c0, c1, c2, c3, c4, c5] = some y) :
    ∃ m : Mac, [c0, c1, c2, c3, c4, c5] = [Value.int .u8 (m.1.toNat : Int), .int .u8 (m.2.1.toNat : Int), .int .u8 (m.2.2.1.toNat : Int), .int .u8 (m.2.2.2.1.toNat : Int), .int .u8 (m.2.2.2.2.1.toNat : Int), .int .u8 (m.2.2.2.2.2.toNat : Int)] := by
  have hcu : Tryz.prog.cellsOf 5 = 1 := by kernel_rfl
  obtain ⟨xs, k, _, _, _, hxl, hf⟩ := DataW.trod_array Tryz.underlying23 h
  match xs, hxl with
  | [y0, y1, y2, y3, y4, y5], _ =>
    obtain ⟨m0, rfl⟩ := u8_of Tryz.underlying5 (arr1 (c := c0) (y := y0) hcu (hf 0 (by decide)))
    obtain ⟨m1, rfl⟩ := u8_of Tryz.underlying5 (arr1 (c := c1) (y := y1) hcu (hf 1 (by decide)))
    obtain ⟨m2, rfl⟩ := u8_of Tryz.underlying5 (arr1 (c := c2) (y := y2) hcu (hf 2 (by decide)))
    obtain ⟨m3, rfl⟩ := u8_of Tryz.underlying5 (arr1 (c := c3) (y := y3) hcu (hf 3 (by decide)))
    obtain ⟨m4, rfl⟩ := u8_of Tryz.underlying5 (arr1 (c := c4) (y := y4) hcu (hf 4 (by decide)))
    obtain ⟨m5, rfl⟩ := u8_of Tryz.underlying5 (arr1 (c := c5) (y := y5) hcu (hf 5 (by decide)))
    exact ⟨(m0, m1, m2, m3, m4, m5), rfl⟩
theorem openCfg {n : Nat} {cs : List Value} {y : DataW H × List MemPlace} (h : DataW.trod enc Tryz.prog W 0 (fun _ => true) true n 48 cs = some y) :
    ∃ c : CfgI, cs = (cfgC c).toList ∧ CfgDat c y.1 := by
  obtain ⟨xs, k, _, hx, hl, hxl, hf⟩ := DataW.trod_struct Tryz.underlying48 h
  have hcl : Tryz.prog.cellsOf 48 = 13 := by kernel_rfl
  have hcm : Tryz.prog.cellsOf 23 = 6 := by kernel_rfl
  have hci : Tryz.prog.cellsOf 3 = 1 := by kernel_rfl
  have hcs : Tryz.prog.cellsOf 9 = 1 := by kernel_rfl
  rw [hcl] at hl
  match cs, hl, xs, hxl with
  | [c0, c1, c2, c3, c4, c5, c6, c7, c8, c9, c10, c11, c12], _, [y0, y1, y2, y3, y4, y5, y6, y7], _ =>
    have g0 := hf 0 _ rfl
    have g1 := hf 1 _ rfl
    have g2 := hf 2 _ rfl
    have g3 := hf 3 _ rfl
    have g4 := hf 4 _ rfl
    have g5 := hf 5 _ rfl
    have g6 := hf 6 _ rfl
    have g7 := hf 7 _ rfl
    obtain ⟨m, hm⟩ := openMac (c0 := c0) (c1 := c1) (c2 := c2) (c3 := c3) (c4 := c4) (c5 := c5) (y := y0) (fldN (k := 6) hcm g0)
    obtain ⟨s1, rfl, e1⟩ := str_of Tryz.underlying9 (fld1 (c := c6) (y := y1) hcs g1)
    obtain ⟨z2, rfl, _⟩ := int_of Tryz.underlying3 (fld1 (c := c7) (y := y2) hci g2)
    obtain ⟨s3, rfl, e3⟩ := str_of Tryz.underlying9 (fld1 (c := c8) (y := y3) hcs g3)
    obtain ⟨z4, rfl, _⟩ := int_of Tryz.underlying3 (fld1 (c := c9) (y := y4) hci g4)
    obtain ⟨z5, rfl, _⟩ := int_of Tryz.underlying3 (fld1 (c := c10) (y := y5) hci g5)
    obtain ⟨z6, rfl, _⟩ := int_of Tryz.underlying3 (fld1 (c := c11) (y := y6) hci g6)
    obtain ⟨z7, rfl, _⟩ := int_of Tryz.underlying3 (fld1 (c := c12) (y := y7) hci g7)
    simp only [List.cons.injEq, and_true] at hm
    obtain ⟨rfl, rfl, rfl, rfl, rfl, rfl⟩ := hm
    refine ⟨⟨m, s1, z2, s3, z4, z5, z6, z7⟩, rfl, y0.1, y2.1, y4.1, y5.1, y6.1, y7.1, ?_⟩
    rw [hx]
    show DataW.agg [y0.1, y1.1, y2.1, y3.1, y4.1, y5.1, y6.1, y7.1] = _
    rw [e1, e3]
theorem lt_of_cell {w : World} {a : Addr} {v : Value} (h : w.cell? a = some v) : a.block < w.heap.size := by
  rcases Nat.lt_or_ge a.block w.heap.size with h1 | h1
  · exact h1
  · unfold World.cell? at h; rw [Array.getElem?_eq_none h1] at h; cases h
theorem flat_back {α : Type} (f : α → List Value) (n : Nat) (hn : 0 < n) (hf : ∀ a, (f a).length = n) : ∀ (l : List α) (j : Nat) (u : Value), (l.flatMap f)[j]? = some u → ∃ i k o, j = i * n + k ∧ l[i]? = some o ∧ (f o)[k]? = some u ∧ k < n
  | [], j, u, h => by simp at h
  | o :: r, j, u, h => by
    rw [List.flatMap_cons] at h
    rcases Nat.lt_or_ge j n with h1 | h1
    · rw [List.getElem?_append_left (by rw [hf]; exact h1)] at h
      exact ⟨0, j, o, by omega, rfl, h, h1⟩
    · rw [List.getElem?_append_right (by rw [hf]; exact h1), hf] at h
      obtain ⟨i, k, o', e, h2, h3, h4⟩ := flat_back f n hn hf r (j - n) u h
      exact ⟨i + 1, k, o', by rw [Nat.add_mul]; omega, h2, h3, h4⟩
theorem slr_scr {a : Addr} {ops : List OpD} (h : ∀ (i : Nat) (o : OpD), ops[i]? = some o → ∀ (j : Nat) (u : Value), (opC o).toList[j]? = some u → W.cell? ((a.add (i * 17)).add j) = some u) : SlR W noB 17 (some a) ops.length (scrC ops) := by
  refine ⟨scrC_len _, fun hn => ⟨a, rfl, ?_, fun x => x, fun j u hu => ?_⟩⟩
  · have h1 := h 0 _ (List.getElem?_eq_getElem hn) 0 _ rfl
    exact lt_of_cell h1
  · obtain ⟨i, k, o, e, ho, hk, _⟩ := flat_back (fun o => (opC o).toList) 17 (by decide) (fun o => opC_size o) ops j u hu
    have h1 := h i o ho k u hk
    rw [Go.Deep.add_add] at h1
    rw [e]; exact h1
theorem weights_all {l : List (DataW H)} {e : TypeId} {d : DataW H} (hd : d ∈ l) : ∀ n ∈ d.weights Tryz.prog e, n ∈ DataW.weightsAll Tryz.prog e l := by
  intro n hn
  induction l with
  | nil => cases hd
  | cons x r ih =>
    simp only [DataW.weightsAll, List.mem_append]
    rcases List.mem_cons.1 hd with h | h
    · subst h; exact .inl hn
    · exact .inr (ih h)
theorem opDat_lens {o : OpD} {d : DataW H} (h : OpDat o d) (hw : ∀ n ∈ d.weights Tryz.prog 114, n ≤ reachBytes) : o.s.length ≤ 140737488355328 ∧ o.c.name.length ≤ 140737488355328 ∧ o.c.digest.length ≤ 140737488355328 := by
  obtain ⟨x0, x1, x2, x3, rfl, y0, y1, y2, y3, y4, y5, rfl⟩ := h
  simp only [DataW.weights, Tryz.underlying114, Tryz.underlying48] at hw
  have e : reachBytes = 140737488351232 := rfl
  rw [e] at hw
  have hc : ∀ n, n ∈ (DataW.agg [y0, .lit (.string o.c.name), y1, .lit (.string o.c.digest), y2, y3, y4, y5] : DataW H).weights Tryz.prog 48 → n ≤ 140737488351232 := fun n hn => hw n (DataW.weights_mem_each (j := 3) (t := 48) rfl rfl n hn)
  simp only [DataW.weights, Tryz.underlying48] at hc
  have a1 := hw o.s.length (DataW.weights_mem_each (j := 4) (t := 9) rfl rfl _ (by simp [DataW.weights]))
  have a2 := hc o.c.name.length (DataW.weights_mem_each (j := 1) (t := 9) rfl rfl _ (by simp [DataW.weights]))
  have a3 := hc o.c.digest.length (DataW.weights_mem_each (j := 3) (t := 9) rfl rfl _ (by simp [DataW.weights]))
  omega
theorem scr_lens {ops : List OpD} {d : DataW H} (hd : ops = [] ∨ ∃ (E : Nat → DataW H) (rest : List (DataW H)), d = .slice ((List.range ops.length).map E) rest ∧ ∀ (i : Nat) (o : OpD), ops[i]? = some o → OpDat o (E i))
    (hw : (DataW.weightsEach Tryz.prog [62] [d]).all (· ≤ reachBytes) = true) : ops.length ≤ 140737488355328 ∧ Lens ops := by
  rcases hd with rfl | ⟨E, rest, rfl, hE⟩
  · exact ⟨Nat.zero_le _, fun o ho => nomatch ho⟩
  have hw' : ∀ n ∈ DataW.weightsEach Tryz.prog [62] [.slice ((List.range ops.length).map E) rest], n ≤ reachBytes := fun n hn => by simpa using List.all_eq_true.1 hw n hn
  have hs := sized_slice hw (j := 0) rfl rfl Tryz.underlying62
  have hb : Tryz.prog.bytesOf 114 = 120 := by kernel_rfl
  rw [hb] at hs
  have e : reachBytes = 140737488351232 := rfl
  refine ⟨by simp at hs; omega, fun o ho => ?_⟩
  obtain ⟨i, hi⟩ := List.getElem?_of_mem ho
  have hi2 : i < ops.length := by
    rcases Nat.lt_or_ge i ops.length with h1 | h1
    · exact h1
    · rw [List.getElem?_eq_none h1] at hi; cases hi
  refine opDat_lens (hE i o hi) fun n hn => hw' n ?_
  refine DataW.weights_mem_each (j := 0) rfl rfl n ?_
  simp only [DataW.weights, Tryz.underlying62, List.mem_cons, List.mem_append]
  exact .inr (.inl (weights_all (List.mem_map.2 ⟨i, List.mem_range.2 hi2, rfl⟩) n hn))
end
end Go.Proofs.YtcbkaiakdhiloabGreatDoor
set_option maxRecDepth 20000
namespace Go.Proofs.YtcbkaiakdhiloabGreatDoor
open Go.RowKit Go.Proofs Go.ChangeShapes Go.WideShapes
section
variable {H : Type} {enc : TypeId × Value → H} {W : World}
theorem openOpN {n : Nat} {cs : List Value} {y : DataW H × List MemPlace} (h : DataW.trod enc Tryz.prog W 0 (fun _ => true) true n 114 cs = some y) :
    ∃ o : OpD, cs = (opC o).toList ∧ OpDat o y.1 ∧ (-9223372036854775808 ≤ o.a ∧ o.a ≤ 9223372036854775807) ∧ o.n ≤ 9223372036854775807 := by
  obtain ⟨xs, k, _, hx, hl, hxl, hf⟩ := DataW.trod_struct Tryz.underlying114 h
  have hcl : Tryz.prog.cellsOf 114 = 17 := by kernel_rfl
  have hcm : Tryz.prog.cellsOf 48 = 13 := by kernel_rfl
  have hci : Tryz.prog.cellsOf 3 = 1 := by kernel_rfl
  have hcs : Tryz.prog.cellsOf 9 = 1 := by kernel_rfl
  rw [hcl] at hl
  match cs, hl, xs, hxl with
  | [b0, b1, b2, c0, c1, c2, c3, c4, c5, c6, c7, c8, c9, c10, c11, c12, b4], _, [y0, y1, y2, y3, y4], _ =>
    have g0 := hf 0 _ rfl
    have g1 := hf 1 _ rfl
    have g2 := hf 2 _ rfl
    have g3 := hf 3 _ rfl
    have g4 := hf 4 _ rfl
    obtain ⟨z0, rfl, _⟩ := int_of Tryz.underlying3 (fld1 (c := b0) (y := y0) hci g0)
    obtain ⟨z1, rfl, r1⟩ := int_of Tryz.underlying3 (fld1 (c := b1) (y := y1) hci g1)
    obtain ⟨z2, rfl, _, r2⟩ := int_of Tryz.underlying3 (fld1 (c := b2) (y := y2) hci g2)
    obtain ⟨c, hc, hd⟩ := openCfg (cs := [c0, c1, c2, c3, c4, c5, c6, c7, c8, c9, c10, c11, c12]) (y := y3) (fldN (k := 13) hcm g3)
    obtain ⟨s, rfl, e4⟩ := str_of Tryz.underlying9 (fld1 (c := b4) (y := y4) hcs g4)
    refine ⟨⟨z0, z1, z2, c, s⟩, ?_, ⟨y0.1, y1.1, y2.1, y3.1, ?_, hd⟩, r1, r2⟩
    · show [.int .i64 z0, .int .i64 z1, .int .i64 z2] ++ [c0, c1, c2, c3, c4, c5, c6, c7, c8, c9, c10, c11, c12] ++ [.string (bs s)] = _
      rw [hc]; simp [opC]
    · rw [hx]
      show DataW.agg [y0.1, y1.1, y2.1, y3.1, y4.1] = _
      rw [e4]
theorem openScrN {n : Nat} {c : Value} {y : DataW H × List MemPlace} (h : DataW.trod enc Tryz.prog W 0 (fun _ => true) true n 62 [c] = some y) :
    ∃ (ops : List OpD) (A : Option Addr) (cap : Nat), c = .slice A ops.length cap ∧ SlR W noB 17 A ops.length (scrC ops) ∧ (∀ o ∈ ops, (-9223372036854775808 ≤ o.a ∧ o.a ≤ 9223372036854775807) ∧ o.n ≤ 9223372036854775807) ∧
      (ops = [] ∨ ∃ (E : Nat → DataW H) (rest : List (DataW H)), y.1 = .slice ((List.range ops.length).map E) rest ∧ ∀ (i : Nat) (o : OpD), ops[i]? = some o → OpDat o (E i)) := by
  have hco : Tryz.prog.cellsOf 114 = 17 := by kernel_rfl
  rcases Go.Deep.open_slice Tryz.underlying62 h with ⟨hc, rfl⟩ | ⟨a, len, cap, m, n', D, Pl, hc, _, hlc, _, hm, rfl, hel⟩
  · injection hc with hc _
    subst hc
    exact ⟨[], none, 0, rfl, SlR.nil, (fun o ho => nomatch ho), .inl rfl⟩
  · injection hc with hc _
    subst hc
    have hlm : len ≤ m := by simp at hm; omega
    have each : ∀ i, i < len → ∃ o : OpD, (∀ (j : Nat) (u : Value), (opC o).toList[j]? = some u → W.cell? ((a.add (i * 17)).add j) = some u) ∧ OpDat o (D i) ∧ (-9223372036854775808 ≤ o.a ∧ o.a ≤ 9223372036854775807) ∧ o.n ≤ 9223372036854775807 := by
      intro i hi
      obtain ⟨cs, h1, h2⟩ := hel i (by omega)
      rw [hco] at h1
      obtain ⟨_, hlen, hcell⟩ := World.cells?_some h1
      obtain ⟨o, rfl, hd, hr⟩ := openOpN h2
      refine ⟨o, fun j u hu => ?_, hd, hr⟩
      have hj : j < 17 := by
        rcases Nat.lt_or_ge j 17 with h3 | h3
        · exact h3
        · rw [List.getElem?_eq_none (by rw [hlen]; exact h3)] at hu; cases hu
      rw [hcell j hj]; exact hu
    haveI : Inhabited OpD := ⟨⟨0, 0, 0, ⟨(0, 0, 0, 0, 0, 0), [], 0, [], 0, 0, 0, 0⟩, []⟩⟩
    obtain ⟨f, hf⟩ := Go.Deep.choose_lt (α := OpD) each
    have hlen : ((List.range len).map f).length = len := by simp
    have hget : ∀ i o, ((List.range len).map f)[i]? = some o → i < len ∧ o = f i := by
      intro i o h
      rw [List.getElem?_map] at h
      rcases Nat.lt_or_ge i len with hi | hi
      · rw [List.getElem?_range hi] at h; simp at h; exact ⟨hi, h.symm⟩
      · rw [List.getElem?_eq_none (by simpa using hi)] at h; simp at h
    have hS : SlR W noB 17 (some a) ((List.range len).map f).length (scrC ((List.range len).map f)) := slr_scr fun i o ho => by
      obtain ⟨hi, rfl⟩ := hget i o ho
      exact (hf i hi).1
    refine ⟨(List.range len).map f, some a, cap, by rw [hlen], hS, fun o ho => ?_, .inr ⟨D, (List.range (m - len)).map fun j => D (len + j), by rw [hlen], fun i o ho => ?_⟩⟩
    · obtain ⟨i, hi⟩ := List.getElem?_of_mem ho
      obtain ⟨hi2, rfl⟩ := hget i o hi
      exact (hf i hi2).2.2
    · obtain ⟨hi, rfl⟩ := hget i o ho
      exact (hf i hi).2.1
end
end Go.Proofs.YtcbkaiakdhiloabGreatDoor
