/- The program's sum: its contract. -/
import Derived.Test.YtcbkaiakdhiloabDoorHashS
set_option linter.unusedSimpArgs false
set_option linter.unusedVariables false
namespace Go.Proofs.YtcbkaiakdhiloabDoor
open Go.RowKit Go.Proofs

noncomputable abbrev fSm : Func := Tryd.f36
theorem HSt.keep {S : Nat → Prop} {w w' : World} {p : Nat} {X : Nat → Prop} {t : List UInt8} (h : HSt w p X t) (hf : Fr S w w') (hp : ¬ S p) (hS : ∀ q, X q → ¬ S q) : HSt w' p X t := by
  obtain ⟨h1, r, h2, h3⟩ := h
  exact ⟨h1, r, h2.keep hf hp, h3.keep hf hS⟩
theorem ownS_no {p : Nat} {X : Nat → Prop} {g : Nat} (h1 : g ≠ p) (h2 : ¬ X g) : ¬ ownS p X g := fun h => h.elim h1 h2
theorem feed_len (t : List UInt8) : (feed h0 t).2.length = t.length % 64 := by rw [feed_rest, List.length_drop]; omega

set_option maxRecDepth 20000 in
theorem smPad (s0 : List UInt8) (hlen : s0.length ≤ 100000000100) (p : Nat) (X : Nat → Prop) (a : Act) (w : World) (K : Exit → Act → World → Prop) (hs : Sz 77 a)
    (e0 : sl a 0 = .pointer (some ⟨p, 0, none⟩)) (hS : HSt w p X s0) (hX : ∀ q, w.heap.size ≤ q → X q) (hRk : RU w 3 kTab) (hgb : ¬ X 3) (hkp : 3 ≠ p)
    (hK : ∀ a' w', Sz 77 a' → Kp [0, 2, 3] a a' → HSt w' p X (s0 ++ List.replicate ((120 - s0.length % 64) % 64) 0) → Fr (ownS p X) w w' → K .normal a' w') :
    (blockOf fSm 0).wp Tryd.prog K a w := by
  have HK := Lib.hid hK
  clear hK
  conv => arg 2; whnf
  refine wp_block ?_
  refine wp_loop_sz 77 (fun a' w' => ∃ j, HSt w' p X (s0 ++ List.replicate j 0) ∧ (∀ i, i < j → (s0.length + i) % 64 ≠ 56) ∧ Kp [0, 2, 3] a a' ∧ Fr (ownS p X) w w')
    (fun _ w' => match w'.cell? ⟨p, 8, none⟩ with
      | some (.slice _ k _) => (120 - k) % 64
      | _ => 0) hs ⟨0, by simpa using hS, fun i hi => by omega, Kp.refl _ _, Fr.refl _ _⟩ ?_
  rintro a1 w1 hs1 ⟨j, hS1, hmin, k1, hf⟩
  have hj63 : j ≤ 63 := by
    rcases Nat.lt_or_ge ((120 - s0.length % 64) % 64) j with h | h
    · exact absurd (by omega) (hmin _ h)
    · omega
  have hpX := hS1.1
  obtain ⟨-, r, hSt, hO⟩ := id hS1
  obtain ⟨A, c, rfl⟩ := hO.slice
  have hlt : (s0 ++ List.replicate j (0 : UInt8)).length = s0.length + j := by simp
  have hmu : (match w1.cell? ⟨p, 8, none⟩ with
      | some (.slice _ k _) => (120 - k) % 64
      | _ => 0) = (120 - (s0.length + j) % 64) % 64 := by rw [hSt.rest]; show (120 - (feed h0 (s0 ++ List.replicate j 0)).2.length) % 64 = _; rw [feed_len, hlt]
  refine wp_seq (wp_seq ?_)
  refine smR3 p _ c A a1 w1 _ hs1 ((k1 0 (by decide)).trans e0) hSt.rest ?_
  intro a2 w2 hs2 k2 o22 f2
  rw [feed_len, hlt] at o22
  have hS2 := hS1.keep f2 id fun _ _ h => h
  have hf2 := hf.none f2
  have k2a : Kp [0, 2, 3] a a2 := fun x hx => (k2 x (by revert hx; revert x; decide)).trans (k1 x hx)
  refine wp_if o22 (fun hb => ?_) (fun hb => ?_)
  · have h56 : (s0.length + j) % 64 ≠ 56 := of_decide_eq_true hb
    refine wp_skip ?_
    refine wp_block ?_
    refine smR4 p X _ a2 w2 _ hs2 ((k2a 0 (by decide)).trans e0) hS2 (fun q hq => hX q (Nat.le_trans hf2.size hq)) (by rw [hlt]; omega) (hRk.keep hf2 (ownS_no hkp hgb)) hgb hkp ?_
    intro a3 w3 hs3 k3 hS3 f3
    have e3 : s0 ++ List.replicate j 0 ++ [0] = s0 ++ List.replicate (j + 1) (0 : UInt8) := by rw [List.append_assoc, List.replicate_succ']
    rw [e3] at hS3
    refine ⟨hs3, ⟨j + 1, hS3, ?_, fun x hx => (k3 x (by revert hx; revert x; decide)).trans (k2a x hx), hf2.trans f3⟩, ?_⟩
    · intro i hi
      rcases Nat.lt_or_ge i j with h | h
      · exact hmin i h
      · obtain rfl : i = j := by omega
        exact h56
    · rw [hmu]
      obtain ⟨-, r3, hSt3, hO3⟩ := hS3
      obtain ⟨A3, c3, rfl⟩ := hO3.slice
      rw [hSt3.rest]
      show (120 - (feed h0 (s0 ++ List.replicate (j + 1) 0)).2.length) % 64 < _
      rw [feed_len, show (s0 ++ List.replicate (j + 1) (0 : UInt8)).length = s0.length + (j + 1) by simp]
      omega
  · have h56 : (s0.length + j) % 64 = 56 := by
      rcases Nat.decEq ((s0.length + j) % 64) 56 with h | h
      · exact absurd (of_decide_eq_false hb) (by simpa using h)
      · exact h
    refine wp_exit (then_exit (then_exit (inBlock_self ?_)))
    rw [pad_zero s0 j (by rw [hlt]; exact h56) hmin] at hS2
    exact HK.out a2 w2 hs2 k2a hS2 hf2

/-- the eight bytes of a number, i of them laid -/
def nb8 (N i : Nat) : List UInt8 := (big 8 N).take i ++ List.replicate (8 - i) 0
theorem nb8_step (N : Nat) : ∀ i, i < 8 → ∃ z, (nb8 N i)[i]? = some z ∧ (nb8 N i).set i (UInt8.ofNat (N / 256 ^ (7 - i))) = nb8 N (i + 1) := by
  intro i hi
  have e : big 8 N = [UInt8.ofNat (N / 256 ^ 7), UInt8.ofNat (N / 256 ^ 6), UInt8.ofNat (N / 256 ^ 5), UInt8.ofNat (N / 256 ^ 4), UInt8.ofNat (N / 256 ^ 3), UInt8.ofNat (N / 256 ^ 2), UInt8.ofNat (N / 256 ^ 1), UInt8.ofNat (N / 256 ^ 0)] := by
    simp only [big, Nat.div_div_eq_div_mul, List.nil_append, List.cons_append, List.append_assoc]; simp
  unfold nb8
  rw [e]
  match i, hi with
  | 0, _ => exact ⟨_, rfl, rfl⟩
  | 1, _ => exact ⟨_, rfl, rfl⟩
  | 2, _ => exact ⟨_, rfl, rfl⟩
  | 3, _ => exact ⟨_, rfl, rfl⟩
  | 4, _ => exact ⟨_, rfl, rfl⟩
  | 5, _ => exact ⟨_, rfl, rfl⟩
  | 6, _ => exact ⟨_, rfl, rfl⟩
  | 7, _ => exact ⟨_, rfl, rfl⟩
theorem nb8_all (N : Nat) : nb8 N 8 = big 8 N := by
  unfold nb8; rw [List.take_of_length_le (by rw [big_length]; omega)]; simp
theorem nb8_length (N i : Nat) (h : i ≤ 8) : (nb8 N i).length = 8 := by
  unfold nb8; rw [List.length_append, List.length_take, big_length, List.length_replicate]; omega
/-- a block that is a row of bytes -/
def YB (w : World) (g : Nat) (t : TypeId) (l : List UInt8) : Prop := Bk w g t (u8s l).toArray
theorem YB.get {w : World} {g : Nat} {t : TypeId} {l : List UInt8} (h : YB w g t l) (k : Nat) (x : UInt8) (hx : l[k]? = some x) : w.cell? ⟨g, k, none⟩ = some (.int .u8 (x.toNat : Int)) := by
  have h1 := Bk.cell h k
  rw [h1]; simp [u8s, hx, u8v]
theorem YB.free {w : World} {g : Nat} {t : TypeId} {l : List UInt8} (h : YB w g t l) (k : Nat) : w.frozen? ⟨g, k, none⟩ = false := Bk.free h k
theorem YB.set {w : World} {g : Nat} {t : TypeId} {l : List UInt8} (h : YB w g t l) (k : Nat) (x : UInt8) : YB (w.setCell ⟨g, k, none⟩ (.int .u8 (x.toNat : Int))) g t (l.set k x) := by
  have h1 := Bk.set h k (.int .u8 (x.toNat : Int))
  have e : ((u8s l).toArray).setIfInBounds k (.int .u8 (x.toNat : Int)) = (u8s (l.set k x)).toArray := by simp [u8s, List.map_set, u8v]
  rw [e] at h1; exact h1
theorem YB.keep {S : Nat → Prop} {w w' : World} {g : Nat} {t : TypeId} {l : List UInt8} (h : YB w g t l) (hf : Fr S w w') (hg : ¬ S g) : YB w' g t l := Bk.keep h hf hg

set_option maxRecDepth 20000 in
theorem smNum (N gl : Nat) (hN : N < 18446744073709551616) (a : Act) (w : World) (K : Exit → Act → World → Prop) (hs : Sz 77 a)
    (e3 : sl a 3 = .int .u64 (N : Int)) (e4 : sl a 4 = .pointer (some ⟨gl, 0, none⟩)) (e26 : sl a 26 = .int .i64 ((0 : Nat) : Int)) (hB : YB w gl 104 (nb8 N 0))
    (hK : ∀ a' w', Sz 77 a' → Kp [0, 2, 4] a a' → YB w' gl 104 (big 8 N) → Fr (oneB gl) w w' → K .normal a' w') :
    (blockOf fSm 2).wp Tryd.prog K a w := by
  have HK := Lib.hid hK
  clear hK
  conv => arg 2; whnf
  refine wp_block ?_
  refine wp_loop_sz 77 (fun a' w' => ∃ i : Nat, i ≤ 8 ∧ sl a' 26 = .int .i64 (i : Int) ∧ Kp [0, 2, 3, 4] a a' ∧ YB w' gl 104 (nb8 N i) ∧ Fr (oneB gl) w w') (fun a' _ => 8 - (intOf (sl a' 26)).toNat)
    hs ⟨0, by omega, e26, Kp.refl _ _, hB, Fr.refl _ _⟩ ?_
  rintro a1 w1 hs1 ⟨i, hi, e26, k1, hB1, hf⟩
  refine wp_seq ?_
  refine smR7 i a1 w1 _ hs1 e26 hi ?_
  intro a2 w2 hs2 k2 o27 f2
  have k2a : Kp [0, 2, 3, 4] a a2 := fun x hx => (k2 x (by revert hx; revert x; decide)).trans (k1 x hx)
  have hB2 := hB1.keep f2 id
  have hf2 := hf.none f2
  refine wp_seq ?_
  refine wp_if o27 (fun hb => ?_) (fun hb => ?_)
  · have hlt : i < 8 := of_decide_eq_true hb
    obtain ⟨z, hz, hset⟩ := nb8_step N i hlt
    refine wp_skip ?_
    refine wp_seq (wp_block (wp_seq ?_))
    refine smR8 i a2 w2 _ hs2 ((k2 26 (by decide)).trans e26) ?_
    intro a3 w3 hs3 k3 o5 f3
    have hB3 := hB2.keep f3 id
    have hf3 := hf2.none f3
    have k3a : Kp [0, 2, 3, 4] a a3 := fun x hx => (k3 x (by revert hx; revert x; decide)).trans (k2a x hx)
    refine smR9 i (7 - i) gl N _ a3 w3 _ hs3 ((k3a 3 (by decide)).trans e3) ((k3a 4 (by decide)).trans e4) o5 hlt (by omega) hN (hB3.get i z hz) (hB3.free i) ?_
    intro a4 w4 hs4 k4 hw4
    subst hw4
    have hB4 := hB3.set i (UInt8.ofNat (N / 256 ^ (7 - i)))
    rw [hset] at hB4
    have hf4 := hf3.setCell (p := ⟨gl, i, none⟩) (fun _ => rfl) (.int .u8 ((UInt8.ofNat (N / 256 ^ (7 - i))).toNat : Int))
    refine smR10 i a4 _ _ hs4 ((k4 26 (by decide)).trans ((k3 26 (by decide)).trans ((k2 26 (by decide)).trans e26))) hi ?_
    intro a5 w5 hs5 k5 o26 f5
    refine ⟨hs5, ⟨i + 1, by omega, o26, fun x hx => (k5 x (by revert hx; revert x; decide)).trans ((k4 x (by revert hx; revert x; decide)).trans (k3a x hx)), hB4.keep f5 id, hf4.none f5⟩, ?_⟩
    rw [o26, e26]; simp only [intOf]; omega
  · have : i = 8 := by have := of_decide_eq_false hb; omega
    subst this
    refine wp_exit (then_exit (then_exit (inBlock_self ?_)))
    rw [nb8_all] at hB2
    exact HK.out a2 w2 hs2 (fun x hx => k2a x (by revert hx; revert x; decide)) hB2 hf2

/-- the digest's bytes, of i words -/
def dg (v : S8) (i : Nat) : List UInt8 := (out8 v).take (4 * i) ++ List.replicate (32 - 4 * i) 0
theorem out8_length (v : S8) : (out8 v).length = 32 := rfl
theorem dg_all (v : S8) : dg v 8 = out8 v := by unfold dg; rw [List.take_of_length_le (by rw [out8_length]; omega)]; simp
theorem dg_length (v : S8) (i : Nat) (h : i ≤ 8) : (dg v i).length = 32 := by unfold dg; rw [List.length_append, List.length_take, out8_length, List.length_replicate]; omega
theorem big4 (x : Nat) : big 4 x = [UInt8.ofNat (x / 256 / 256 / 256), UInt8.ofNat (x / 256 / 256), UInt8.ofNat (x / 256), UInt8.ofNat x] := by simp [big]
theorem dg_step (v : S8) : ∀ i, i < 8 → ∀ x, v.list[i]? = some x → (((((dg v i).set (4 * i) (UInt8.ofNat (x.toNat / 256 / 256 / 256))).set (4 * i + 1) (UInt8.ofNat (x.toNat / 256 / 256))).set (4 * i + 2) (UInt8.ofNat (x.toNat / 256))).set (4 * i + 3) (UInt8.ofNat x.toNat)) = dg v (i + 1) := by
  intro i hi x hx
  have e : out8 v = big 4 v.a.toNat ++ (big 4 v.b.toNat ++ (big 4 v.c.toNat ++ (big 4 v.d.toNat ++ (big 4 v.e.toNat ++ (big 4 v.f.toNat ++ (big 4 v.g.toNat ++ big 4 v.h.toNat)))))) := by
    simp [out8, S8.list]
  unfold dg
  rw [e]
  simp only [big4, List.cons_append, List.nil_append]
  match i, hi with
  | 0, _ => injection hx with hx; subst hx; rfl
  | 1, _ => injection hx with hx; subst hx; rfl
  | 2, _ => injection hx with hx; subst hx; rfl
  | 3, _ => injection hx with hx; subst hx; rfl
  | 4, _ => injection hx with hx; subst hx; rfl
  | 5, _ => injection hx with hx; subst hx; rfl
  | 6, _ => injection hx with hx; subst hx; rfl
  | 7, _ => injection hx with hx; subst hx; rfl
end Go.Proofs.YtcbkaiakdhiloabDoor
