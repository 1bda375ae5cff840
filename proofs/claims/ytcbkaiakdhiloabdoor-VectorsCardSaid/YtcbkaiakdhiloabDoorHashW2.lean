/- The program's write: its contract. -/
import Derived.Test.YtcbkaiakdhiloabDoorHashW
set_option linter.unusedSimpArgs false
set_option linter.unusedVariables false
namespace Go.Proofs.YtcbkaiakdhiloabDoor
open Go.RowKit Go.Proofs

noncomputable abbrev fWr : Func := Tryd.f35
/-- the state at block p when the bytes pre have been written -/
def HSt (w : World) (p : Nat) (X : Nat → Prop) (pre : List UInt8) : Prop :=
  ¬ X p ∧ ∃ r, StB w p (feed h0 pre).1.list r (.int .u64 (pre.length : Int)) ∧ RO w X r (feed h0 pre).2
def ownS (p : Nat) (X : Nat → Prop) : Nat → Prop := fun q => q = p ∨ X q
theorem RO.slice {w : World} {X : Nat → Prop} {v : Value} {l : List UInt8} (h : RO w X v l) : ∃ A c, v = .slice A l.length c := by
  rcases h.shape with ⟨rfl, rfl⟩ | ⟨g, off, c, rfl⟩
  · exact ⟨none, 0, rfl⟩
  · exact ⟨_, c, rfl⟩

set_option maxRecDepth 20000 in
theorem wrLoop (t : List UInt8) (n : Value) (p : Nat) (X : Nat → Prop) (hpb : ¬ X p) (hgb : ¬ X 3) (hkp : 3 ≠ p) (a : Act) (w : World) (K : Exit → Act → World → Prop) (hs : Sz 44 a)
    (e0 : sl a 0 = .pointer (some ⟨p, 0, none⟩)) (hRk : RU w 3 kTab)
    (hI : ∃ (H : S8) (l : List UInt8) (r : Value), feed H l = feed h0 t ∧ StB w p H.list r n ∧ RO w X r l)
    (hK : ∀ a' w', Sz 44 a' → (∃ r, StB w' p (feed h0 t).1.list r n ∧ RO w' X r (feed h0 t).2) → Fr (ownS p X) w w' → K .normal a' w') :
    (blockOf fWr 0).wp Tryd.prog K a w := by
  have HK := Lib.hid hK
  clear hK
  conv => arg 2; whnf
  refine wp_block ?_
  refine wp_loop_sz 44 (fun a' w' => sl a' 0 = .pointer (some ⟨p, 0, none⟩) ∧ (∃ (H : S8) (l : List UInt8) (r : Value), feed H l = feed h0 t ∧ StB w' p H.list r n ∧ RO w' X r l) ∧ Fr (ownS p X) w w')
    (fun _ w' => match w'.cell? ⟨p, 8, none⟩ with
      | some (.slice _ k _) => k
      | _ => 0) hs ⟨e0, hI, Fr.refl _ _⟩ ?_
  rintro a1 w1 hs1 ⟨e1, ⟨H, l, r, hfe, hS, hO⟩, hf⟩
  obtain ⟨A, c, rfl⟩ := hO.slice
  refine wp_seq (wp_seq ?_)
  refine wrR2 p l.length c A a1 w1 _ hs1 e1 hS.rest ?_
  intro a2 w2 hs2 k2 o28 f2
  have hS2 := hS.keep f2 id
  have hO2 := hO.keep f2 fun q hq h => h
  have hf2 := hf.none f2
  have e2 := (k2 0 (by decide)).trans e1
  refine wp_if o28 (fun hb => ?_) (fun hb => ?_)
  · have h64 : 64 ≤ l.length := of_decide_eq_true hb
    rcases hO2.shape with ⟨_, rfl⟩ | ⟨g, off, c', he⟩
    · simp at h64
    injection he with he1 _ he3
    subst he1; subst he3
    refine wp_skip ?_
    refine wp_block (wp_seq ?_)
    refine wrR3 p g off c X H l n a2 w2 _ hs2 e2 hS2 hO2 h64 hpb (hRk.keep hf2 (fun h => h.elim hkp hgb)) hkp ?_
    intro a3 w3 hs3 k3 hS3 f3
    have hO3 := hO2.keep f3 fun q hq h => by unfold oneB at h; subst h; exact hpb hq
    have hf3 : Fr (ownS p X) w w3 := hf2.trans' f3 fun b _ h => .inl h
    have e3 := (k3 0 (by decide)).trans e2
    have hfe3 : feed (blk H (l.take 64)) (l.drop 64) = feed h0 t := by rw [← feed_big H l h64]; exact hfe
    have hmu : (match w1.cell? ⟨p, 8, none⟩ with
      | some (.slice _ k _) => k
      | _ => 0) = l.length := by rw [hS.rest]
    have hlc := hO3.cells.2.1
    by_cases hc64 : c = 64
    · subst hc64
      refine wrR4a p g off l.length a3 w3 _ hs3 e3 hS3.rest (hS3.free 8) h64 hlc ?_
      intro a4 w4 hs4 k4 hw4
      subst hw4
      have hl64 : l.length = 64 := by omega
      have hdr : l.drop 64 = [] := List.drop_eq_nil_of_le (by omega)
      have hO4 := hO3.drop 64 h64
      rw [if_pos rfl, hl64, hdr] at hO4
      have hO5 := hO4.keep (w' := w3.setCell ⟨p, 8, none⟩ (.slice (some ⟨g, off, none⟩) 0 0)) ((Fr.refl (oneB p) w3).setCell (p := ⟨p, 8, none⟩) (fun _ => rfl) _) fun q hq h => by unfold oneB at h; subst h; exact hpb hq
      have hS5 := hS3.setRest (.slice (some ⟨g, off, none⟩) 0 0)
      rw [hdr] at hfe3
      refine ⟨hs4, ⟨(k4 0 (by decide)).trans e3, ⟨_, _, _, hfe3, hS5, hO5⟩, hf3.setCell (p := ⟨p, 8, none⟩) (fun _ => .inl rfl) _⟩, ?_⟩
      rw [hmu, hS5.rest]; exact (by omega : 0 < l.length)
    · refine wrR4b p g off l.length c a3 w3 _ hs3 e3 hS3.rest (hS3.free 8) h64 hlc hc64 ?_
      intro a4 w4 hs4 k4 hw4
      subst hw4
      have hO4 := hO3.drop 64 h64
      rw [if_neg hc64] at hO4
      have hO5 := hO4.keep (w' := w3.setCell ⟨p, 8, none⟩ (.slice (some ⟨g, off + 64, none⟩) (l.length - 64) (c - 64))) ((Fr.refl (oneB p) w3).setCell (p := ⟨p, 8, none⟩) (fun _ => rfl) _) fun q hq h => by unfold oneB at h; subst h; exact hpb hq
      have hS5 := hS3.setRest (.slice (some ⟨g, off + 64, none⟩) (l.length - 64) (c - 64))
      refine ⟨hs4, ⟨(k4 0 (by decide)).trans e3, ⟨_, _, _, hfe3, hS5, hO5⟩, hf3.setCell (p := ⟨p, 8, none⟩) (fun _ => .inl rfl) _⟩, ?_⟩
      rw [hmu, hS5.rest]; exact (by omega : l.length - 64 < l.length)
  · have h64 : l.length < 64 := by have := of_decide_eq_false hb; omega
    refine wp_exit (then_exit (then_exit (inBlock_self ?_)))
    rw [feed_small H l h64] at hfe
    exact HK.out a2 w2 hs2 ⟨_, by rw [← hfe]; exact hS2, by rw [← hfe]; exact hO2⟩ hf2

set_option maxRecDepth 20000 in
theorem hashWrite (pre b : List UInt8) (p m c : Nat) (X : Nat → Prop) (A : Option Addr) (w : World) (hS : HSt w p X pre) (hr : SlR w (oneB p) 1 A m (u8s b)) (hb : ∀ q, w.heap.size ≤ q → X q) (hlen : pre.length + b.length ≤ 1000000000000)
    (hRk : RU w 3 kTab) (hgb : ¬ X 3) (hkp : 3 ≠ p) :
    Calls Tryd.prog 35 #[.pointer (some ⟨p, 0, none⟩), .slice A m c] w
      (fun e w' => e = .returned (.tuple #[]) ∧ HSt w' p X (pre ++ b) ∧ Fr (ownS p X) w w') := by
  obtain ⟨hpb, r, hSt, hO⟩ := hS
  have hm : b.length = m := by have := hr.1; rw [u8s_length] at this; omega
  subst hm
  obtain ⟨A1, c1, rfl⟩ := hO.slice
  have hfl : (feed h0 pre).2.length ≤ pre.length := by rw [feed_rest, List.length_drop]; omega
  go_enter Tryd.func35, Tryd.ntmps35
  refine wp_seq ?_
  refine wrR0 p b.length c A pre.length _ w _ ⟨rfl, rfl⟩ rfl rfl (by omega) hSt.num (hSt.free 9) ?_
  intro a1 w1 hs1 k1 hw1
  subst hw1
  have hS1 := hSt.setNum (.int .u64 ((pre.length + b.length : Nat) : Int))
  have hF1 : Fr (oneB p) w (w.setCell ⟨p, 9, none⟩ (.int .u64 ((pre.length + b.length : Nat) : Int))) := (Fr.refl (oneB p) w).setCell (p := ⟨p, 9, none⟩) (fun _ => rfl) _
  have hO1 := hO.keep hF1 fun q hq h => by unfold oneB at h; subst h; exact hpb hq
  have hr1 := hr.keep hF1
  generalize w.setCell ⟨p, 9, none⟩ (.int .u64 ((pre.length + b.length : Nat) : Int)) = w1 at *
  obtain ⟨v2, w2, hrun, hO2, hF2⟩ := run_app_ro w1 X _ _ hO1 A b.length c b (hr1.sub fun _ _ h => h.elim) (by cases A with | none => exact .inl rfl | some ad => exact .inr ⟨ad, rfl⟩) (by omega) (fun q hq => hb q (Nat.le_trans hF1.size hq))
  obtain ⟨A2, c2, rfl⟩ := hO2.slice
  have hS2 := hS1.keep hF2 hpb
  refine wp_seq ?_
  refine wrR1 p b.length c A A1 A2 _ c1 _ c2 w2 a1 w1 _ hs1 ((k1 0 (by decide)).trans rfl) ((k1 1 (by decide)).trans rfl) hS1.rest hrun hS2.rest (hS2.free 8) ?_
  intro a3 w3 hs3 k3 hw3
  subst hw3
  have hS3 := hS2.setRest (.slice A2 ((feed h0 pre).2 ++ b).length c2)
  have hF3 : Fr (oneB p) w2 (w2.setCell ⟨p, 8, none⟩ (.slice A2 ((feed h0 pre).2 ++ b).length c2)) := (Fr.refl (oneB p) w2).setCell (p := ⟨p, 8, none⟩) (fun _ => rfl) _
  have hO3 := hO2.keep hF3 fun q hq h => by unfold oneB at h; subst h; exact hpb hq
  have hF : Fr (ownS p X) w (w2.setCell ⟨p, 8, none⟩ (.slice A2 ((feed h0 pre).2 ++ b).length c2)) :=
    ((hF1.mono fun b _ h => (.inl h : ownS p X b)).trans' hF2 fun b _ h => .inr h).trans' hF3 fun b _ h => .inl h
  generalize w2.setCell ⟨p, 8, none⟩ (.slice A2 ((feed h0 pre).2 ++ b).length c2) = w3 at *
  refine wrLoop (pre ++ b) _ p X hpb hgb hkp a3 w3 _ hs3 ((k3 0 (by decide)).trans ((k1 0 (by decide)).trans rfl)) (hRk.keep hF (fun h => h.elim hkp hgb)) ⟨_, _, _, (feed_append h0 pre b).symm, hS3, hO3⟩ ?_
  rintro a4 w4 hs4 ⟨r4, hS4, hO4⟩ hf4
  refine bodyPost_end (results_none rfl _ _ _) hs4.defers ?_
  refine ⟨rfl, ⟨hpb, r4, ?_, hO4⟩, hF.trans hf4⟩
  rw [List.length_append]; exact hS4
end Go.Proofs.YtcbkaiakdhiloabDoor
