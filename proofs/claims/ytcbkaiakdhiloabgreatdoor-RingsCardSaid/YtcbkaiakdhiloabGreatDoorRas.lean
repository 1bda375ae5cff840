/- Parts of the walk; written by programs, merged. -/
import Derived.Test.YtcbkaiakdhiloabGreatDoorRap
import Derived.RangeFuncGives
import Derived.Sort.MapsRangeIn
import Derived.OwnWalkIn
import Derived.TacticsInMore
import Derived.RegionIn
import Derived.LoopNIn
import Derived.LoopIn
import Derived.Shelf.Abstract
set_option linter.unusedSimpArgs false
set_option linter.unusedVariables false
set_option maxRecDepth 20000
set_option maxHeartbeats 8000000
set_option maxRecDepth 20000
namespace Go.Proofs.YtcbkaiakdhiloabGreatDoor
open Go.RowKit Go.Proofs
attribute [local go_sem] bs_size bs_append bs_extract bs_toList
abbrev enC (e : EntD) : Array Value := #[.int .u32 (e.ip : Int), .int .u8 (e.card.1.toNat : Int), .int .u8 (e.card.2.1.toNat : Int), .int .u8 (e.card.2.2.1.toNat : Int), .int .u8 (e.card.2.2.2.1.toNat : Int), .int .u8 (e.card.2.2.2.2.1.toNat : Int), .int .u8 (e.card.2.2.2.2.2.toNat : Int), .bool e.known, .int .i64 e.due, .int .i64 e.asked, .string (bs e.waits)]
theorem ent_at {w : World} {A : Option Addr} {c k : Nat} {l : List EntD} {e : EntD} (h : w.ownsRow 0 237 11 (.slice A l.length c) l.length (entsF l)) (hk : l[k]? = some e) :
    ∃ g, A = some ⟨g, 0, none⟩ ∧ l.length ≤ c ∧ (∀ j, w.frozen? ⟨g, j, none⟩ = false) ∧ ∀ j v, (enC e)[j]? = some v → w.cell? ⟨g, k * 11 + j, none⟩ = some v := by
  cases l with
  | nil => cases hk
  | cons x r =>
    obtain ⟨g, hA, hc, hat⟩ := own_some (n := r.length) h
    subst hA
    refine ⟨g, rfl, hc, fun j => own_free h, fun j v hj => ?_⟩
    refine hat _ v ?_
    have hj11 : j < 11 := by
      rcases Nat.lt_or_ge j 11 with y | y
      · exact y
      · rw [Array.getElem?_eq_none (by exact y)] at hj; cases hj
    rw [entsF_at _ k e j hk hj11]
    rw [← hj]; simp [entF]
theorem fnd_none {l : List EntD} {ip : Nat} (h : ∀ (j : Nat) (e : EntD), l[j]? = some e → e.ip ≠ ip) : find l ip = none := by
  unfold find
  rw [List.find?_eq_none]
  intro x hx
  obtain ⟨j, hj⟩ := List.getElem?_of_mem hx
  simpa using h j x hj
theorem fnd_first : ∀ {l : List EntD} {k ip : Nat} {e : EntD}, (∀ j : Nat, j < k → ∀ e : EntD, l[j]? = some e → e.ip ≠ ip) → l[k]? = some e → e.ip = ip → find l ip = some e
  | [], _, _, _, _, h, _ => by cases h
  | x :: r, 0, ip, e, _, h, he => by cases h; simp [find, he]
  | x :: r, k + 1, ip, e, hb, h, he => by
    have hx : x.ip ≠ ip := hb 0 (by omega) x rfl
    have := fnd_first (l := r) (k := k) (fun j hj e he => hb (j + 1) (by omega) e he) h he
    unfold find at this ⊢
    rw [List.find?_cons]
    simp only [beq_eq_false_iff_ne.2 hx]
    exact this
def Found (l : List EntD) (ip : Nat) (r : Int) : Prop := (r = -1 ∧ find l ip = none) ∨ ∃ (k : Nat) (e : EntD), r = k ∧ l[k]? = some e ∧ e.ip = ip ∧ find l ip = some e
def nfF (u : Nat → Value) : Act := ⟨#[u 0, u 1, u 2, u 3, u 4, u 5, u 6, u 7, u 8, u 9, u 10, u 11, u 12, u 13, u 14, u 15, u 16, u 17, u 18, u 19, u 20, u 21, u 22], []⟩
set_option maxRecDepth 100000 in
theorem nfF_eq (u : Nat → Value) : nfF u = frN 23 u := rfl
theorem nfF_of {a : Act} (h : Sz 23 a) : a = nfF (sl a) := h.eq.trans (nfF_eq _).symm
theorem nfR0  (a : Act) (w : World) (K : Exit → Act → World → Prop) (hs : Sz 23 a)
     
    (hK : ∀ a' w', Sz 23 a' → Kp [0, 1, 5, 6, 10, 11, 12] a a' → w' = w → K .normal a' w') :
    (regionOf Tryz.f219 0).wp Tryz.prog K a w := by
  unfold Kp at hK; rw [nfF_of hs]; clear hs; generalize sl a = u at *; clear a; have HK := Lib.hid hK; clear hK; conv => arg 2; whnf
  simp only [nfF]
  go_wp2_with fail
  exact HK.out _ _  ⟨rfl, rfl⟩ (KpU.cons (rfl) (KpU.cons (rfl) (KpU.cons (rfl) (KpU.cons (rfl) (KpU.cons (rfl) (KpU.cons (rfl) (KpU.cons (rfl) (KpU.nil _ _))))))))  rfl
theorem nfR1 (p T : Nat) (M : MLay) (s : St) (a : Act) (w : World) (K : Exit → Act → World → Prop) (hs : Sz 23 a)
    (h0 : sl a 0 = .pointer (some ⟨p, 0, none⟩)) (h : ModelAt w p T M s)
    (hK : ∀ a' w', Sz 23 a' → Kp [0, 1, 4, 5, 6] a a' → sl a' 10 = .slice M.ca s.cache.length M.cac → sl a' 11 = .int .i64 (s.cache.length : Int) → sl a' 12 = .int .i64 ((0 : Nat) : Int) → w' = w → K .normal a' w') :
    (regionOf Tryz.f219 1).wp Tryz.prog K a w := by
  unfold Kp at hK; rw [nfF_of hs]; clear hs; generalize sl a = u at *; clear a; have HK := Lib.hid hK; clear hK; conv => arg 2; whnf
  simp only [nfF, h0]
  have c21 := h.g21
  go_wp2_with fail
  exact HK.out _ _  ⟨rfl, rfl⟩ (KpU.cons (h0.symm) (KpU.cons (rfl) (KpU.cons (rfl) (KpU.cons (rfl) (KpU.cons (rfl) (KpU.nil _ _)))))) (rfl) (rfl) (rfl) rfl
theorem nfR2 (k n : Nat) (a : Act) (w : World) (K : Exit → Act → World → Prop) (hs : Sz 23 a)
    (h11 : sl a 11 = .int .i64 (n : Int)) (h12 : sl a 12 = .int .i64 (k : Int)) 
    (hK : ∀ a' w', Sz 23 a' → Kp [0, 1, 4, 5, 6, 10, 11, 12] a a' → sl a' 13 = .bool (decide (k < n)) → w' = w → K .normal a' w') :
    (regionOf Tryz.f219 2).wp Tryz.prog K a w := by
  unfold Kp at hK; rw [nfF_of hs]; clear hs; generalize sl a = u at *; clear a; have HK := Lib.hid hK; clear hK; conv => arg 2; whnf
  simp only [nfF, h11, h12]
  have e : decide ((k : Int) < (n : Int)) = decide (k < n) := by simp
  go_wp2_with fail
  exact HK.out _ _  ⟨rfl, rfl⟩ (KpU.cons (rfl) (KpU.cons (rfl) (KpU.cons (rfl) (KpU.cons (rfl) (KpU.cons (rfl) (KpU.cons (rfl) (KpU.cons (h11.symm) (KpU.cons (h12.symm) (KpU.nil _ _))))))))) (rfl) rfl
theorem nfR3 (g n c k : Nat) (e : EntD) (a : Act) (w : World) (K : Exit → Act → World → Prop) (hs : Sz 23 a)
    (h10 : sl a 10 = .slice (some ⟨g, 0, none⟩) n c) (h12 : sl a 12 = .int .i64 (k : Int)) (hk : k < n) (hat : ∀ j v, (enC e)[j]? = some v → w.cell? ⟨g, k * 11 + j, none⟩ = some v)
    (hK : ∀ a' w', Sz 23 a' → Kp [0, 1, 4, 10, 11, 12] a a' → sl a' 5 = .int .i64 (k : Int) → sl a' 6 = .pointer (some ⟨w.heap.size, 0, none⟩) → Fr noB w w' → Bk w' w.heap.size 237 (enC e) → K .normal a' w') :
    (regionOf Tryz.f219 3).wp Tryz.prog K a w := by
  unfold Kp at hK; rw [nfF_of hs]; clear hs; generalize sl a = u at *; clear a; have HK := Lib.hid hK; clear hK; conv => arg 2; whnf
  simp only [nfF, h10, h12]
  have q0 : w.cell? ⟨g, k * 11, none⟩ = some (.int .u32 (e.ip : Int)) := hat 0 _ rfl
  have q1 : w.cell? ⟨g, k * 11 + 1, none⟩ = some (.int .u8 (e.card.1.toNat : Int)) := hat 1 _ rfl
  have q2 : w.cell? ⟨g, k * 11 + 2, none⟩ = some (.int .u8 (e.card.2.1.toNat : Int)) := hat 2 _ rfl
  have q3 : w.cell? ⟨g, k * 11 + 3, none⟩ = some (.int .u8 (e.card.2.2.1.toNat : Int)) := hat 3 _ rfl
  have q4 : w.cell? ⟨g, k * 11 + 4, none⟩ = some (.int .u8 (e.card.2.2.2.1.toNat : Int)) := hat 4 _ rfl
  have q5 : w.cell? ⟨g, k * 11 + 5, none⟩ = some (.int .u8 (e.card.2.2.2.2.1.toNat : Int)) := hat 5 _ rfl
  have q6 : w.cell? ⟨g, k * 11 + 6, none⟩ = some (.int .u8 (e.card.2.2.2.2.2.toNat : Int)) := hat 6 _ rfl
  have q7 : w.cell? ⟨g, k * 11 + 7, none⟩ = some (.bool e.known) := hat 7 _ rfl
  have q8 : w.cell? ⟨g, k * 11 + 8, none⟩ = some (.int .i64 e.due) := hat 8 _ rfl
  have q9 : w.cell? ⟨g, k * 11 + 9, none⟩ = some (.int .i64 e.asked) := hat 9 _ rfl
  have q10 : w.cell? ⟨g, k * 11 + 10, none⟩ = some (.string (bs e.waits)) := hat 10 _ rfl
  clear hat
  go_wp2_with (first | ((refine wpList_store_bk rfl 237 (.tmp 6) (.tmp 16) rfl w.heap.size _ _ (enC e) rfl rfl (Bk.new w _ _) rfl (by kernel_rfl) (by kernel_rfl) ?_); intro w9 hx9 hf9))
  exact HK.out _ _  ⟨rfl, rfl⟩ (KpU.cons (rfl) (KpU.cons (rfl) (KpU.cons (rfl) (KpU.cons (h10.symm) (KpU.cons (rfl) (KpU.cons (h12.symm) (KpU.nil _ _))))))) (rfl) (rfl) (((Fr.refl _ _).alloc _).trans' hf9 (fun b hb e => by have e' : b = w.heap.size := e; omega)) hx9
theorem nfR4 (g ip : Nat) (e : EntD) (a : Act) (w : World) (K : Exit → Act → World → Prop) (hs : Sz 23 a)
    (h1 : sl a 1 = .int .u32 (ip : Int)) (h6 : sl a 6 = .pointer (some ⟨g, 0, none⟩)) (hG : Bk w g 237 (enC e))
    (hK : ∀ a' w', Sz 23 a' → Kp [0, 1, 4, 5, 6, 10, 11, 12] a a' → sl a' 20 = .bool (decide (e.ip = ip)) → w' = w → K .normal a' w') :
    (regionOf Tryz.f219 4).wp Tryz.prog K a w := by
  unfold Kp at hK; rw [nfF_of hs]; clear hs; generalize sl a = u at *; clear a; have HK := Lib.hid hK; clear hK; conv => arg 2; whnf
  simp only [nfF, h1, h6]
  have q0 := hG.cell 0
  have e2 : ((e.ip : Int) == (ip : Int)) = decide (e.ip = ip) := by rw [Bool.eq_iff_iff]; simp; omega
  go_wp2_with fail
  exact HK.out _ _  ⟨rfl, rfl⟩ (KpU.cons (rfl) (KpU.cons (h1.symm) (KpU.cons (rfl) (KpU.cons (rfl) (KpU.cons (h6.symm) (KpU.cons (rfl) (KpU.cons (rfl) (KpU.cons (rfl) (KpU.nil _ _))))))))) (rfl) rfl
theorem nfR5 (k : Nat) (a : Act) (w : World) (K : Exit → Act → World → Prop) (hs : Sz 23 a)
    (h5 : sl a 5 = .int .i64 (k : Int)) 
    (hK : ∀ a' w', Sz 23 a' → Kp [0, 1, 5, 6, 10, 11, 12] a a' → sl a' 4 = .int .i64 (k : Int) → w' = w → K .normal a' w') :
    (regionOf Tryz.f219 5).wp Tryz.prog K a w := by
  unfold Kp at hK; rw [nfF_of hs]; clear hs; generalize sl a = u at *; clear a; have HK := Lib.hid hK; clear hK; conv => arg 2; whnf
  simp only [nfF, h5]
  go_wp2_with fail
  exact HK.out _ _  ⟨rfl, rfl⟩ (KpU.cons (rfl) (KpU.cons (rfl) (KpU.cons (h5.symm) (KpU.cons (rfl) (KpU.cons (rfl) (KpU.cons (rfl) (KpU.cons (rfl) (KpU.nil _ _)))))))) (rfl) rfl
theorem nfR6 (k : Nat) (a : Act) (w : World) (K : Exit → Act → World → Prop) (hs : Sz 23 a)
    (h12 : sl a 12 = .int .i64 (k : Int)) (hk : k < 9223372036854775807)
    (hK : ∀ a' w', Sz 23 a' → Kp [0, 1, 4, 5, 6, 10, 11] a a' → sl a' 12 = .int .i64 ((k + 1 : Nat) : Int) → w' = w → K .normal a' w') :
    (regionOf Tryz.f219 6).wp Tryz.prog K a w := by
  unfold Kp at hK; rw [nfF_of hs]; clear hs; generalize sl a = u at *; clear a; have HK := Lib.hid hK; clear hK; conv => arg 2; whnf
  simp only [nfF, h12]
  clear h12
  have qw : IntKind.i64.wrap ((k : Int) + 1) = ((k + 1 : Nat) : Int) := by rw [i64w]; unfold wrap64; omega
  go_wp2_with fail
  exact HK.out _ _  ⟨rfl, rfl⟩ (KpU.cons (rfl) (KpU.cons (rfl) (KpU.cons (rfl) (KpU.cons (rfl) (KpU.cons (rfl) (KpU.cons (rfl) (KpU.cons (rfl) (KpU.nil _ _)))))))) (rfl) rfl
theorem nfR7  (a : Act) (w : World) (K : Exit → Act → World → Prop) (hs : Sz 23 a)
     
    (hK : ∀ a' w', Sz 23 a' → Kp [0, 1, 5, 6, 10, 11, 12] a a' → sl a' 4 = .int .i64 (-1) → w' = w → K .normal a' w') :
    (regionOf Tryz.f219 7).wp Tryz.prog K a w := by
  unfold Kp at hK; rw [nfF_of hs]; clear hs; generalize sl a = u at *; clear a; have HK := Lib.hid hK; clear hK; conv => arg 2; whnf
  simp only [nfF]
  go_wp2_with fail
  exact HK.out _ _  ⟨rfl, rfl⟩ (KpU.cons (rfl) (KpU.cons (rfl) (KpU.cons (rfl) (KpU.cons (rfl) (KpU.cons (rfl) (KpU.cons (rfl) (KpU.cons (rfl) (KpU.nil _ _)))))))) (rfl) rfl
theorem modFind (p T : Nat) (M : MLay) (s : St) (ip : Nat) (w : World) (h : ModelAt w p T M s) :
    Calls Tryz.prog 219 #[.pointer (some ⟨p, 0, none⟩), .int .u32 (ip : Int)] w fun e w' => ∃ r, e = .returned (.int .i64 r) ∧ Found s.cache ip r ∧ Fr noB w w' := by
  have hl4 := h.ok.cache
  go_enter Tryz.func219, Tryz.ntmps219
  refine wp_seq ?_
  refine nfR0 _ w _ ⟨rfl, rfl⟩ ?_
  intro a0 w0 hs0 k0 hw; subst w0
  refine wp_seq ?_
  refine wp_seq ?_
  refine nfR1 p T M s a0 w _ hs0 ((k0 0 (by decide)).trans rfl) h ?_
  intro a1 w1 hs1 k1 o10 o11 o12 hw; subst w1
  have e1 : sl a1 1 = .int .u32 (ip : Int) := (k1 1 (by decide)).trans ((k0 1 (by decide)).trans rfl)
  refine wp_block ?_
  refine wp_loop_sz 23 (fun a' w' => ∃ k : Nat, k ≤ s.cache.length ∧ sl a' 12 = .int .i64 (k : Int) ∧ Kp [0, 1, 10, 11] a1 a' ∧ (∀ j, j < k → ∀ e, s.cache[j]? = some e → e.ip ≠ ip) ∧ Fr noB w w') (fun a' _ => s.cache.length - (intOf (sl a' 12)).toNat)
    hs1 ⟨0, Nat.zero_le _, o12, Kp.refl _ _, fun j hj => absurd hj (Nat.not_lt_zero j), Fr.refl _ _⟩ ?_
  rintro b1 v1 hs1' ⟨k, hk, i12, j1, hnf, hfv⟩
  refine wp_seq ?_
  refine nfR2 k s.cache.length b1 v1 _ hs1' ((j1 11 (by decide)).trans o11) i12 ?_
  intro b2 v2 hs2 j2 i13 hw; subst v2
  have i12' := (j2 12 (by decide)).trans i12
  refine wp_seq ?_
  refine wp_if i13 (fun hb => ?_) (fun hb => ?_)
  rotate_left
  · have hke : k = s.cache.length := by have := of_decide_eq_false hb; omega
    refine wp_exit (then_exit (then_exit (inBlock_self ?_)))
    refine wp_seq ?_
    refine nfR7 b2 v1 _ hs2 ?_
    intro b3 v3 hs3 j3 i4 hw; subst v3
    refine wp_ret ?_
    refine bodyPost_ret (P := Tryz.prog) (fn := Tryz.f219) (R := fun e w' => ∃ r, e = .returned (.int .i64 r) ∧ Found s.cache ip r ∧ Fr noB w w') (results_tmp rfl _ _ _) hs3.defers ⟨-1, by rw [show b3.tmps.getD 4 undef = _ from i4], .inl ⟨rfl, fnd_none fun j e he => hnf j (by rw [hke]; exact (List.getElem?_eq_some_iff.1 he).1) e he⟩, hfv⟩
  have hlt : k < s.cache.length := of_decide_eq_true hb
  refine wp_skip ?_
  obtain ⟨e, he⟩ : ∃ e, s.cache[k]? = some e := ⟨_, List.getElem?_eq_getElem hlt⟩
  have hv := h.none hfv
  obtain ⟨g, hA, hc, hz, hat⟩ := ent_at hv.ca he
  refine wp_seq (wp_block (wp_seq ?_))
  refine nfR3 g s.cache.length M.cac k e b2 v1 _ hs2 (by rw [← hA]; exact (j2 10 (by decide)).trans ((j1 10 (by decide)).trans o10)) i12' hlt hat ?_
  intro b3 v3 hs3 j3 i5 i6 hf3 hG3
  refine wp_seq ?_
  refine nfR4 _ ip e b3 v3 _ hs3 ((j3 1 (by decide)).trans ((j2 1 (by decide)).trans ((j1 1 (by decide)).trans e1))) i6 hG3 ?_
  intro b4 v4 hs4 j4 i20 hw; subst v4
  refine wp_if i20 (fun hb => ?_) (fun hb => ?_)
  · have hip := of_decide_eq_true hb
    refine wp_seq ?_
    refine nfR5 k b4 v3 _ hs4 ((j4 5 (by decide)).trans i5) ?_
    intro b5 v5 hs5 j5 i4 hw; subst v5
    refine wp_ret ?_
    refine bodyPost_ret (P := Tryz.prog) (fn := Tryz.f219) (R := fun e w' => ∃ r, e = .returned (.int .i64 r) ∧ Found s.cache ip r ∧ Fr noB w w') (results_tmp rfl _ _ _) hs5.defers ⟨k, by rw [show b5.tmps.getD 4 undef = _ from i4], .inr ⟨k, e, rfl, he, hip, fnd_first hnf he hip⟩, hfv.none hf3⟩
  · have hip := of_decide_eq_false hb
    refine wp_skip ?_
    have i12b := (j4 12 (by decide)).trans ((j3 12 (by decide)).trans i12')
    refine nfR6 k b4 v3 _ hs4 i12b (by omega) ?_
    intro b5 v5 hs5 j5 i12c hw; subst v5
    refine ⟨hs5, ⟨k + 1, hlt, i12c, fun x hx => (j5 x (by revert hx; revert x; decide)).trans ((j4 x (by revert hx; revert x; decide)).trans ((j3 x (by revert hx; revert x; decide)).trans ((j2 x (by revert hx; revert x; decide)).trans (j1 x hx)))), fun j hj e' he' => ?_, hfv.none hf3⟩, ?_⟩
    · rcases Nat.lt_or_ge j k with y | y
      · exact hnf j y e' he'
      · rw [show j = k by omega, he] at he'; cases he'; exact hip
    · rw [i12c, i12]; simp only [intOf]; omega
end Go.Proofs.YtcbkaiakdhiloabGreatDoor
set_option maxRecDepth 20000
namespace Go.Proofs.YtcbkaiakdhiloabGreatDoor
open Go.RowKit Go.Proofs
attribute [local go_sem] bs_size bs_append bs_extract bs_toList
theorem wp_region_pl2 {P : Program} {Q : Exit → Act → World → Prop} {id : Nat} {a : Act} {w : World} {opl : List Oper} (hm : P.follows .mixedOrders = true) (S S1 : World → Prop) (brk : List Nat) (t : Pl) (hB : (Region.noSelect opl.toArray && plB opl.toArray brk t opl.toArray.size (Array.replicate opl.toArray.size false)) = true)
    (hS : S w.drew) (hS1 : S1 w.drew) (h : ∀ (ops' : Array Oper) (Q' : Exit → Act → World → Prop), Hid (ops' = opl.toArray) → (∀ a w, Q .normal a w → Q' .normal a w) → ∀ w1, S w1 → S1 w1 → wpPl P ops' Q' S brk true t a w1) : (Code.region id opl.toArray true).wp P Q a w :=
  wp_region_pl hm S brk t hB hS (h opl.toArray (NoPanic Q) (Lib.hid rfl) (fun _ _ h => h) _ hS hS1)
end Go.Proofs.YtcbkaiakdhiloabGreatDoor
set_option maxRecDepth 20000
namespace Go.Proofs.YtcbkaiakdhiloabGreatDoor
open Go.RowKit Go.Proofs
attribute [local go_sem] bs_size bs_append bs_extract bs_toList
theorem utR16 (b q p T : Nat) (o : OpD) (L : Lay) (M : MLay) (s' : St) (c : Bool) (a : Act) (w : World) (K : KT) (hs : Sz 188 a)
    (h3 : sl a 3 = .pointer (some ⟨q, 0, none⟩)) (h9 : sl a 9 = .pointer (some ⟨b, 0, none⟩)) (hx0 : w.cell? ⟨b, 0, none⟩ = some (.pointer (some ⟨L.p, 0, none⟩))) (hx1 : w.cell? ⟨b, 1, none⟩ = some (.pointer (some ⟨p, 0, none⟩))) (hOp : OpAt w q o) (hnq : ¬ own' L q) (hnb : ¬ own' L b) (hcB : ∀ w1, Fr noB w w1 → Calls Tryz.prog 100 #[.pointer (some ⟨L.p, 0, none⟩), .string (bs o.s)] w1 (LPost2 L s' (.bool c) w1)) (hcM : ∀ w1 w2, Fr noB w w1 → Now L w1 s' w2 → Calls Tryz.prog 101 #[.pointer (some ⟨p, 0, none⟩), .string (bs o.s)] w2 fun e w' => e = .returned (.bool c) ∧ MNow p T M w2 s' w')
    (hK : ∀ a' w' w1 w2, Sz 188 a' → Kp [0, 3, 5, 6, 7, 8, 9, 10, 11, 12, 13, 85] a a' → sl a' 4 = .bool true → Fr noB w w1 → Now L w1 s' w2 → MNow p T M w2 s' w' → K .normal a' w') :
    (regionOf Tryz.f54 16).wp Tryz.prog K a w := by
  refine rgE hK (utF_of hs) fun HK => ?_; clear hK hs
  simp only [utF, h3, h9]
  refine wp_region_pl2 (by kernel_rfl) (fun w' => OpAt w' q o ∧ (w'.cell? ⟨b, 0, none⟩ = some (.pointer (some ⟨L.p, 0, none⟩)) ∧ w'.cell? ⟨b, 1, none⟩ = some (.pointer (some ⟨p, 0, none⟩)))) (fun w' => Fr noB w w') [9] (.p 0 (.p 2 (.p 5 (.p 7 (.q 1 (.q 3 (.q 6 (.q 8 (.e 4 (.e 9 (.p 10 (.p 11 .nil)))))))))))) (by kernel_rfl) (⟨hOp.keep (Fr.refl noB _).drew (fun x => x), hx0, hx1⟩) ((Fr.refl _ _).drew) ?_
  intro ops Q' hO hQ' wr1 hR1 hI1
  iterate 4 refine pP hO ?_
  iterate 4 (refine pQ hO rfl rfl (fun w' hS => by obtain ⟨hO, hx0, hx1⟩ := hS; have c2 := hO.c2; have c16 := hO.c16; clear hO; exact qd) ?_)
  refine pl_e0 hO rfl rfl rfl (fun K hK => ?_)
  go_simp
  refine (hcB wr1 hI1).mono ?_
  rintro e w4 ⟨rfl, hN4⟩
  obtain ⟨L4, p4, o4, B4, hF4⟩ := id hN4
  refine hK _ _ (⟨hR1.1.keep hF4 hnq, (hF4.cell (a := ⟨b, 0, none⟩) (cell_ltU hR1.2.1) hnb).trans hR1.2.1, (hF4.cell (a := ⟨b, 1, none⟩) (cell_ltU hR1.2.2) hnb).trans hR1.2.2⟩) (fun hR_4 => ?_)
  clear hK K
  refine pl_b0 hO rfl rfl rfl (fun K hK => ?_)
  go_simp
  refine (hcM wr1 w4 hI1 hN4).mono ?_
  rintro e w6 ⟨rfl, hN⟩
  refine hK _ _ ?_
  clear hK K
  iterate 2 refine pP hO ?_
  refine pl_nil (hQ' _ _ ?_)
  exact HK.out _ _ _ _ ⟨rfl, rfl⟩ kk (rfl) hI1 hN4 hN
theorem utR25 (b q p T : Nat) (o : OpD) (L : Lay) (M : MLay) (s' : St) (c : Int) (a : Act) (w : World) (K : KT) (hs : Sz 188 a)
    (h3 : sl a 3 = .pointer (some ⟨q, 0, none⟩)) (h9 : sl a 9 = .pointer (some ⟨b, 0, none⟩)) (hx0 : w.cell? ⟨b, 0, none⟩ = some (.pointer (some ⟨L.p, 0, none⟩))) (hx1 : w.cell? ⟨b, 1, none⟩ = some (.pointer (some ⟨p, 0, none⟩))) (hOp : OpAt w q o) (hnq : ¬ own' L q) (hnb : ¬ own' L b) (hcB : ∀ w1, Fr noB w w1 → Calls Tryz.prog 104 #[.pointer (some ⟨L.p, 0, none⟩), .int .i64 o.n] w1 (LPost2 L s' (.int .i64 c) w1)) (hcM : ∀ w1 w2, Fr noB w w1 → Now L w1 s' w2 → Calls Tryz.prog 105 #[.pointer (some ⟨p, 0, none⟩), .int .i64 o.n] w2 fun e w' => e = .returned (.int .i64 c) ∧ MNow p T M w2 s' w')
    (hK : ∀ a' w' w1 w2, Sz 188 a' → Kp [0, 3, 5, 6, 7, 8, 9, 10, 11, 12, 13, 85] a a' → sl a' 4 = .bool true → Fr noB w w1 → Now L w1 s' w2 → MNow p T M w2 s' w' → K .normal a' w') :
    (regionOf Tryz.f54 25).wp Tryz.prog K a w := by
  refine rgE hK (utF_of hs) fun HK => ?_; clear hK hs
  simp only [utF, h3, h9]
  refine wp_region_pl2 (by kernel_rfl) (fun w' => OpAt w' q o ∧ (w'.cell? ⟨b, 0, none⟩ = some (.pointer (some ⟨L.p, 0, none⟩)) ∧ w'.cell? ⟨b, 1, none⟩ = some (.pointer (some ⟨p, 0, none⟩)))) (fun w' => Fr noB w w') [9] (.p 0 (.p 2 (.p 5 (.p 7 (.q 1 (.q 3 (.q 6 (.q 8 (.e 4 (.e 9 (.p 10 (.p 11 .nil)))))))))))) (by kernel_rfl) (⟨hOp.keep (Fr.refl noB _).drew (fun x => x), hx0, hx1⟩) ((Fr.refl _ _).drew) ?_
  intro ops Q' hO hQ' wr1 hR1 hI1
  iterate 4 refine pP hO ?_
  iterate 4 (refine pQ hO rfl rfl (fun w' hS => by obtain ⟨hO, hx0, hx1⟩ := hS; have c2 := hO.c2; have c16 := hO.c16; clear hO; exact qd) ?_)
  refine pl_e0 hO rfl rfl rfl (fun K hK => ?_)
  go_simp
  refine (hcB wr1 hI1).mono ?_
  rintro e w4 ⟨rfl, hN4⟩
  obtain ⟨L4, p4, o4, B4, hF4⟩ := id hN4
  refine hK _ _ (⟨hR1.1.keep hF4 hnq, (hF4.cell (a := ⟨b, 0, none⟩) (cell_ltU hR1.2.1) hnb).trans hR1.2.1, (hF4.cell (a := ⟨b, 1, none⟩) (cell_ltU hR1.2.2) hnb).trans hR1.2.2⟩) (fun hR_4 => ?_)
  clear hK K
  refine pl_b0 hO rfl rfl rfl (fun K hK => ?_)
  go_simp
  refine (hcM wr1 w4 hI1 hN4).mono ?_
  rintro e w6 ⟨rfl, hN⟩
  refine hK _ _ ?_
  clear hK K
  iterate 2 refine pP hO ?_
  refine pl_nil (hQ' _ _ ?_)
  exact HK.out _ _ _ _ ⟨rfl, rfl⟩ kk (rfl) hI1 hN4 hN
end Go.Proofs.YtcbkaiakdhiloabGreatDoor
set_option maxRecDepth 20000
namespace Go.Proofs.YtcbkaiakdhiloabGreatDoor
open Go.RowKit Go.Proofs
attribute [local go_sem] bs_size bs_append bs_extract bs_toList
theorem stepPut (base g T : Nat) (l : List Pr) (A : Option Addr) (cap : Nat) (o : OpD) (w : World) (h : WldAt base w g T l A cap) (hG : Glb2 base w) (q2 : o.kind = 2) (i : Nat) (x : Pr) (hi : i = pickI o.a l.length) (hx : l[i]? = some x) (hll : l.length ≤ 65536) (hA0 : -9223372036854775808 ≤ o.a) (hA1 : o.a ≤ 9223372036854775807)
    (s' : St) (c : Bool) (hcB : ∀ w, BootAt w x.L x.s → Calls Tryz.prog 100 #[.pointer (some ⟨x.L.p, 0, none⟩), .string (bs o.s)] w (LPost2 x.L s' (.bool c) w))
    (hcM : ∀ w, ModelAt w x.p T x.M x.s → Calls Tryz.prog 101 #[.pointer (some ⟨x.p, 0, none⟩), .string (bs o.s)] w fun e w' => e = .returned (.bool c) ∧ MNow x.p T x.M w s' w') :
    Calls Tryz.prog 54 #[.pointer (some ⟨g, 0, none⟩), .agg (opC o)] w (StepTo base g T ((l.map (·.s)).set i s') w) := by
  have hk1 : o.kind ≠ 1 := by omega
  have hil : i < l.length := by
    rcases Nat.lt_or_ge i l.length with h1 | h1
    · exact h1
    · rw [List.getElem?_eq_none h1] at hx; cases hx
  have hlow := hG.low
  have hble := hG.le
  go_enter Tryz.func54, Tryz.ntmps54
  have fin : ∀ (a' : Act) (w' : World), Sz 188 a' → sl a' 4 = .bool true → StepTo base g T ((l.map (·.s)).set i s') w (.returned (.bool true)) w' → bodyPost Tryz.prog Tryz.f54 (StepTo base g T ((l.map (·.s)).set i s') w) .ret a' w' := fun a' w' hs h4 hp => by
    refine bodyPost_ret (results_tmp rfl _ _ _) hs.defers ?_
    rw [show a'.tmps.getD 4 undef = .bool true from h4]; exact hp
  refine wp_seq ?_
  refine utR0 _ _ w _ ⟨rfl, rfl⟩ rfl ?_
  intro a0 w0 hs0 k0 o3 f0 hB0
  have e0 : sl a0 0 = .pointer (some ⟨g, 0, none⟩) := (k0 0 (by decide)).trans rfl
  clear k0
  have hO0 : OpAt w0 w.heap.size o := ⟨hB0⟩
  have hql : w.heap.size < w0.heap.size := hB0.lt
  have hW0 := h.nop hlow f0
  obtain ⟨q, hq⟩ : ∃ q, w.heap.size = q := ⟨_, rfl⟩
  rw [hq] at o3 hO0
  refine wp_seq (wp_seq ?_)
  refine utR1 q o a0 w0 _ hs0 o3 hO0 ?_
  intro a1 w1 hs1 k1 o18 hw; subst w1
  rw [show (o.kind == 1) = false from beq_eq_false_iff_ne.2 hk1] at o18
  refine wp_if o18 (fun hb => by cases hb) (fun _ => ?_)
  refine wp_skip ?_
  have e0 := (k1 0 (by decide)).trans e0
  have o3 := (k1 3 (by decide)).trans o3
  refine wp_seq (wp_seq ?_)
  refine utR11 g l.length cap A a1 w0 _ hs1 e0 (hW0.bk.cell 1) ?_
  intro a2 w2 hs2 k2 o69 hw; subst w2
  have e0 := (k2 0 (by decide)).trans e0
  have o3 := (k2 3 (by decide)).trans o3
  refine wp_if o69 (fun hb => absurd (of_decide_eq_true hb) (by omega)) (fun _ => ?_)
  refine wp_skip ?_
  refine wp_seq ?_
  obtain ⟨ga, cp, hAe⟩ : ∃ ga, A = some ⟨ga, 0, none⟩ ∧ ∀ (j : Nat) (u : Value), (pairF x)[j]? = some u → w0.cell? ⟨ga, i * 2 + j, none⟩ = some u := by
    rcases hW0.row.2 with ⟨hv, h0⟩ | ⟨ga, cp, cur, hv, _⟩
    · omega
    · cases hv
      exact ⟨ga, rfl, fun j u hu => own_at hW0.row (pairC_at l i x j u hx hu)⟩
  refine utR13 g q ga l.length cap i x.L.p x.p o a2 w0 _ hs2 e0 o3 hO0 (by rw [← cp]; exact hW0.bk.cell 1) (fun j u hu => by rw [addr_addN]; exact hAe j u (by simpa [pairF] using hu)) hi (by omega) hil (by omega) hA0 hA1 ?_
  intro a3 w3 b hs3 k3 o9 hB3 hb3 f3
  have hO3 := hO0.keep f3 (fun x => x)
  have hW3 := hW0.nop hlow f3
  have hP3 := hW3.ps.at_ i x hx
  have o3 := (k3 3 (by decide)).trans o3
  have hs0w := f0.size
  have f03 := f0.none f3
  have hPlt : ∀ k, pown x k → k < w.heap.size := (h.ps.at_ i x hx).lt
  have hxb : ∀ k, pown x k → k ≠ b := fun k hk e => by have := hPlt k hk; omega
  have hxq : ∀ k, pown x k → k ≠ q := fun k hk e => by have := hPlt k hk; omega
  have done : ∀ (w'' : World), (∃ x' : Pr, x'.s = s' ∧ x'.L.p = x.L.p ∧ x'.p = x.p ∧ PairAt base w'' T x' ∧ Fr (pown x) w3 w'' ∧ ∀ k, pown x' k → pown x k ∨ w3.heap.size ≤ k) → StepTo base g T ((l.map (·.s)).set i s') w (.returned (.bool true)) w'' := fun w'' hx' => by
    obtain ⟨x', rfl, p1, p2, hP, hF, ho⟩ := hx'
    refine ⟨rfl, l.set i x', A, cap, hW3.one hlow hx hF hP ho p1 p2, by rw [List.map_set], (f03.of_no _).trans (hF.mono fun k _ hk => (h.ps.at_ i x hx).lo k hk)⟩
  have hx0 : w3.cell? ⟨b, 0, none⟩ = some (.pointer (some ⟨x.L.p, 0, none⟩)) := hB3.cell 0
  have hx1 : w3.cell? ⟨b, 1, none⟩ = some (.pointer (some ⟨x.p, 0, none⟩)) := hB3.cell 1
  have fin2 : ∀ (a' : Act) (w1 w2 w' : World), Sz 188 a' → sl a' 4 = .bool true → Fr noB w3 w1 → Now x.L w1 s' w2 → MNow x.p T x.M w2 s' w' → bodyPost Tryz.prog Tryz.f54 (StepTo base g T ((l.map (·.s)).set i s') w) .ret a' w' := fun a' w1 w2 w' hs' h4 hf hN hM => by
    refine fin a' w' hs' h4 (done w' ?_)
    obtain ⟨L4, p4, o4, B4, F4⟩ := hN
    have hfs := hf.size
    exact hP3.both hlow ⟨L4, p4, fun k hk => (o4 k hk).elim .inl fun y => .inr (by omega), B4, (hf.of_no _).trans F4⟩ hM
  refine wp_seq (wp_seq ?_)
  refine utR14 q o a3 w3 _ hs3 o3 hO3 ?_
  intro a4 w4 hs4 k4 o85 hw; subst w4
  have o3 := (k4 3 (by decide)).trans o3
  have o9 := (k4 9 (by decide)).trans o9
  refine wp_block (wp_seq ?_)
  refine utR15 o.kind a4 w3 _ hs4 o85 ?_
  intro a5 w5 hs5 k5 o86 hw; subst w5
  have o3 := (k5 3 (by decide)).trans o3
  have o9 := (k5 9 (by decide)).trans o9
  have o85 := (k5 85 (by decide)).trans o85
  rw [show (o.kind == 2) = true by rw [beq_iff_eq]; omega] at o86
  refine wp_if o86 (fun _ => ?_) (fun hb => by cases hb)
  refine wp_seq ?_
  refine utR16 b q x.p T o x.L x.M s' c a5 w3 _ hs5 o3 o9 hx0 hx1 hO3 (fun hx => hxq q (.inl hx) rfl) (fun hx => hxb b (.inl hx) rfl) (fun w1 f1 => hcB w1 (hP3.b.none f1)) (fun w1 w2 f1 hN => hcM w2 (by
    obtain ⟨L4, p4, o4, B4, F4⟩ := hN
    exact (hP3.model hlow ((f1.of_no _).trans F4)))) ?_
  intro a9 w9 w1 w2 hs9 k9 o4 f1 hN hM
  exact wp_ret (fin2 a9 w1 w2 w9 hs9 o4 f1 hN hM)
theorem stepPoll (base g T : Nat) (l : List Pr) (A : Option Addr) (cap : Nat) (o : OpD) (w : World) (h : WldAt base w g T l A cap) (hG : Glb2 base w) (q2 : o.kind = 5) (i : Nat) (x : Pr) (hi : i = pickI o.a l.length) (hx : l[i]? = some x) (hll : l.length ≤ 65536) (hA0 : -9223372036854775808 ≤ o.a) (hA1 : o.a ≤ 9223372036854775807)
    (s' : St) (c : Int) (hcB : ∀ w, BootAt w x.L x.s → Calls Tryz.prog 104 #[.pointer (some ⟨x.L.p, 0, none⟩), .int .i64 o.n] w (LPost2 x.L s' (.int .i64 c) w))
    (hcM : ∀ w, ModelAt w x.p T x.M x.s → Calls Tryz.prog 105 #[.pointer (some ⟨x.p, 0, none⟩), .int .i64 o.n] w fun e w' => e = .returned (.int .i64 c) ∧ MNow x.p T x.M w s' w') :
    Calls Tryz.prog 54 #[.pointer (some ⟨g, 0, none⟩), .agg (opC o)] w (StepTo base g T ((l.map (·.s)).set i s') w) := by
  have hk1 : o.kind ≠ 1 := by omega
  have hil : i < l.length := by
    rcases Nat.lt_or_ge i l.length with h1 | h1
    · exact h1
    · rw [List.getElem?_eq_none h1] at hx; cases hx
  have hlow := hG.low
  have hble := hG.le
  go_enter Tryz.func54, Tryz.ntmps54
  have fin : ∀ (a' : Act) (w' : World), Sz 188 a' → sl a' 4 = .bool true → StepTo base g T ((l.map (·.s)).set i s') w (.returned (.bool true)) w' → bodyPost Tryz.prog Tryz.f54 (StepTo base g T ((l.map (·.s)).set i s') w) .ret a' w' := fun a' w' hs h4 hp => by
    refine bodyPost_ret (results_tmp rfl _ _ _) hs.defers ?_
    rw [show a'.tmps.getD 4 undef = .bool true from h4]; exact hp
  refine wp_seq ?_
  refine utR0 _ _ w _ ⟨rfl, rfl⟩ rfl ?_
  intro a0 w0 hs0 k0 o3 f0 hB0
  have e0 : sl a0 0 = .pointer (some ⟨g, 0, none⟩) := (k0 0 (by decide)).trans rfl
  clear k0
  have hO0 : OpAt w0 w.heap.size o := ⟨hB0⟩
  have hql : w.heap.size < w0.heap.size := hB0.lt
  have hW0 := h.nop hlow f0
  obtain ⟨q, hq⟩ : ∃ q, w.heap.size = q := ⟨_, rfl⟩
  rw [hq] at o3 hO0
  refine wp_seq (wp_seq ?_)
  refine utR1 q o a0 w0 _ hs0 o3 hO0 ?_
  intro a1 w1 hs1 k1 o18 hw; subst w1
  rw [show (o.kind == 1) = false from beq_eq_false_iff_ne.2 hk1] at o18
  refine wp_if o18 (fun hb => by cases hb) (fun _ => ?_)
  refine wp_skip ?_
  have e0 := (k1 0 (by decide)).trans e0
  have o3 := (k1 3 (by decide)).trans o3
  refine wp_seq (wp_seq ?_)
  refine utR11 g l.length cap A a1 w0 _ hs1 e0 (hW0.bk.cell 1) ?_
  intro a2 w2 hs2 k2 o69 hw; subst w2
  have e0 := (k2 0 (by decide)).trans e0
  have o3 := (k2 3 (by decide)).trans o3
  refine wp_if o69 (fun hb => absurd (of_decide_eq_true hb) (by omega)) (fun _ => ?_)
  refine wp_skip ?_
  refine wp_seq ?_
  obtain ⟨ga, cp, hAe⟩ : ∃ ga, A = some ⟨ga, 0, none⟩ ∧ ∀ (j : Nat) (u : Value), (pairF x)[j]? = some u → w0.cell? ⟨ga, i * 2 + j, none⟩ = some u := by
    rcases hW0.row.2 with ⟨hv, h0⟩ | ⟨ga, cp, cur, hv, _⟩
    · omega
    · cases hv
      exact ⟨ga, rfl, fun j u hu => own_at hW0.row (pairC_at l i x j u hx hu)⟩
  refine utR13 g q ga l.length cap i x.L.p x.p o a2 w0 _ hs2 e0 o3 hO0 (by rw [← cp]; exact hW0.bk.cell 1) (fun j u hu => by rw [addr_addN]; exact hAe j u (by simpa [pairF] using hu)) hi (by omega) hil (by omega) hA0 hA1 ?_
  intro a3 w3 b hs3 k3 o9 hB3 hb3 f3
  have hO3 := hO0.keep f3 (fun x => x)
  have hW3 := hW0.nop hlow f3
  have hP3 := hW3.ps.at_ i x hx
  have o3 := (k3 3 (by decide)).trans o3
  have hs0w := f0.size
  have f03 := f0.none f3
  have hPlt : ∀ k, pown x k → k < w.heap.size := (h.ps.at_ i x hx).lt
  have hxb : ∀ k, pown x k → k ≠ b := fun k hk e => by have := hPlt k hk; omega
  have hxq : ∀ k, pown x k → k ≠ q := fun k hk e => by have := hPlt k hk; omega
  have done : ∀ (w'' : World), (∃ x' : Pr, x'.s = s' ∧ x'.L.p = x.L.p ∧ x'.p = x.p ∧ PairAt base w'' T x' ∧ Fr (pown x) w3 w'' ∧ ∀ k, pown x' k → pown x k ∨ w3.heap.size ≤ k) → StepTo base g T ((l.map (·.s)).set i s') w (.returned (.bool true)) w'' := fun w'' hx' => by
    obtain ⟨x', rfl, p1, p2, hP, hF, ho⟩ := hx'
    refine ⟨rfl, l.set i x', A, cap, hW3.one hlow hx hF hP ho p1 p2, by rw [List.map_set], (f03.of_no _).trans (hF.mono fun k _ hk => (h.ps.at_ i x hx).lo k hk)⟩
  have hx0 : w3.cell? ⟨b, 0, none⟩ = some (.pointer (some ⟨x.L.p, 0, none⟩)) := hB3.cell 0
  have hx1 : w3.cell? ⟨b, 1, none⟩ = some (.pointer (some ⟨x.p, 0, none⟩)) := hB3.cell 1
  have fin2 : ∀ (a' : Act) (w1 w2 w' : World), Sz 188 a' → sl a' 4 = .bool true → Fr noB w3 w1 → Now x.L w1 s' w2 → MNow x.p T x.M w2 s' w' → bodyPost Tryz.prog Tryz.f54 (StepTo base g T ((l.map (·.s)).set i s') w) .ret a' w' := fun a' w1 w2 w' hs' h4 hf hN hM => by
    refine fin a' w' hs' h4 (done w' ?_)
    obtain ⟨L4, p4, o4, B4, F4⟩ := hN
    have hfs := hf.size
    exact hP3.both hlow ⟨L4, p4, fun k hk => (o4 k hk).elim .inl fun y => .inr (by omega), B4, (hf.of_no _).trans F4⟩ hM
  refine wp_seq (wp_seq ?_)
  refine utR14 q o a3 w3 _ hs3 o3 hO3 ?_
  intro a4 w4 hs4 k4 o85 hw; subst w4
  have o3 := (k4 3 (by decide)).trans o3
  have o9 := (k4 9 (by decide)).trans o9
  refine wp_block (wp_seq ?_)
  refine utR15 o.kind a4 w3 _ hs4 o85 ?_
  intro a5 w5 hs5 k5 o86 hw; subst w5
  have o3 := (k5 3 (by decide)).trans o3
  have o9 := (k5 9 (by decide)).trans o9
  have o85 := (k5 85 (by decide)).trans o85
  rw [show (o.kind == 2) = false by rw [beq_eq_false_iff_ne]; omega] at o86
  refine wp_if o86 (fun hb => by cases hb) (fun _ => ?_)
  refine wp_seq ?_
  refine utR17 o.kind a5 w3 _ hs5 o85 ?_
  intro a6 w6 hs6 k6 o99 hw; subst w6
  have o3 := (k6 3 (by decide)).trans o3
  have o9 := (k6 9 (by decide)).trans o9
  have o85 := (k6 85 (by decide)).trans o85
  rw [show (o.kind == 3) = false by rw [beq_eq_false_iff_ne]; omega] at o99
  refine wp_if o99 (fun hb => by cases hb) (fun _ => ?_)
  refine wp_seq ?_
  refine utR21 o.kind a6 w3 _ hs6 o85 ?_
  intro a7 w7 hs7 k7 o121 hw; subst w7
  have o3 := (k7 3 (by decide)).trans o3
  have o9 := (k7 9 (by decide)).trans o9
  have o85 := (k7 85 (by decide)).trans o85
  rw [show (o.kind == 4) = false by rw [beq_eq_false_iff_ne]; omega] at o121
  refine wp_if o121 (fun hb => by cases hb) (fun _ => ?_)
  refine wp_seq ?_
  refine utR24 o.kind a7 w3 _ hs7 o85 ?_
  intro a8 w8 hs8 k8 o135 hw; subst w8
  have o3 := (k8 3 (by decide)).trans o3
  have o9 := (k8 9 (by decide)).trans o9
  have o85 := (k8 85 (by decide)).trans o85
  rw [show (o.kind == 5) = true by rw [beq_iff_eq]; omega] at o135
  refine wp_if o135 (fun _ => ?_) (fun hb => by cases hb)
  refine wp_seq ?_
  refine utR25 b q x.p T o x.L x.M s' c a8 w3 _ hs8 o3 o9 hx0 hx1 hO3 (fun hx => hxq q (.inl hx) rfl) (fun hx => hxb b (.inl hx) rfl) (fun w1 f1 => hcB w1 (hP3.b.none f1)) (fun w1 w2 f1 hN => hcM w2 (by
    obtain ⟨L4, p4, o4, B4, F4⟩ := hN
    exact (hP3.model hlow ((f1.of_no _).trans F4)))) ?_
  intro a9 w9 w1 w2 hs9 k9 o4 f1 hN hM
  exact wp_ret (fin2 a9 w1 w2 w9 hs9 o4 f1 hN hM)
end Go.Proofs.YtcbkaiakdhiloabGreatDoor
set_option maxRecDepth 20000
namespace Go.Proofs.YtcbkaiakdhiloabGreatDoor
open Go.RowKit Go.Proofs
attribute [local go_sem] bs_size bs_append bs_extract bs_toList
def nbrF (u : Nat → Value) : Act := ⟨#[u 0, u 1, u 2, u 3, u 4, u 5, u 6, u 7, u 8, u 9, u 10, u 11, u 12, u 13, u 14, u 15, u 16, u 17, u 18, u 19, u 20, u 21, u 22, u 23], []⟩
set_option maxRecDepth 100000 in
theorem nbrF_eq (u : Nat → Value) : nbrF u = frN 24 u := rfl
theorem nbrF_of {a : Act} (h : Sz 24 a) : a = nbrF (sl a) := h.eq.trans (nbrF_eq _).symm
theorem nbrR0 (d : DhcD) (A : Option Addr) (cap n : Nat) (a : Act) (w : World) (K : Exit → Act → World → Prop) (hs : Sz 24 a)
    (h0 : sl a 0 = .agg #[.bool d.reply, .int .u32 (d.xid : Int), .int .u32 (d.client : Int), .int .u32 (d.yours : Int), .int .u32 (d.next : Int), .int .u8 (d.mac.1.toNat : Int), .int .u8 (d.mac.2.1.toNat : Int), .int .u8 (d.mac.2.2.1.toNat : Int), .int .u8 (d.mac.2.2.2.1.toNat : Int), .int .u8 (d.mac.2.2.2.2.1.toNat : Int), .int .u8 (d.mac.2.2.2.2.2.toNat : Int), .slice A n cap]) 
    (hK : ∀ a' w', Sz 24 a' → Kp [1, 6, 7] a a' → sl a' 2 = .pointer (some ⟨w.heap.size, 0, none⟩) → Fr noB w w' → Bk w' w.heap.size 75 #[.bool d.reply, .int .u32 (d.xid : Int), .int .u32 (d.client : Int), .int .u32 (d.yours : Int), .int .u32 (d.next : Int), .int .u8 (d.mac.1.toNat : Int), .int .u8 (d.mac.2.1.toNat : Int), .int .u8 (d.mac.2.2.1.toNat : Int), .int .u8 (d.mac.2.2.2.1.toNat : Int), .int .u8 (d.mac.2.2.2.2.1.toNat : Int), .int .u8 (d.mac.2.2.2.2.2.toNat : Int), .slice A n cap] → K .normal a' w') :
    (regionOf Tryz.f232 0).wp Tryz.prog K a w := by
  unfold Kp at hK; rw [nbrF_of hs]; clear hs; generalize sl a = u at *; clear a; have HK := Lib.hid hK; clear hK; conv => arg 2; whnf
  simp only [nbrF, h0]
  go_wp2_with fail
  exact HK.out _ _  ⟨rfl, rfl⟩ (KpU.cons (rfl) (KpU.cons (rfl) (KpU.cons (rfl) (KpU.nil _ _)))) (rfl) ((Fr.refl _ _).alloc _) (Bk.new _ _ _)
theorem nbrR1 (d : DhcD) (A : Option Addr) (cap n : Nat) (g : Nat) (code : UInt8) (a : Act) (w : World) (K : Exit → Act → World → Prop) (hs : Sz 24 a)
    (h1 : sl a 1 = .int .u8 (code.toNat : Int)) (h2 : sl a 2 = .pointer (some ⟨g, 0, none⟩)) (hG : Bk w g 75 #[.bool d.reply, .int .u32 (d.xid : Int), .int .u32 (d.client : Int), .int .u32 (d.yours : Int), .int .u32 (d.next : Int), .int .u8 (d.mac.1.toNat : Int), .int .u8 (d.mac.2.1.toNat : Int), .int .u8 (d.mac.2.2.1.toNat : Int), .int .u8 (d.mac.2.2.2.1.toNat : Int), .int .u8 (d.mac.2.2.2.2.1.toNat : Int), .int .u8 (d.mac.2.2.2.2.2.toNat : Int), .slice A n cap]) (hn : d.os.length = n) (hA : SlR w noB 2 A n (optC d.os)) (hwt : wtO d.os ≤ 1099511627776)
    (hK : ∀ a' w', Sz 24 a' → Kp [1, 2] a a' → sl a' 6 = .string (bs ((optOf d.os code).getD [])) → sl a' 7 = .bool (optOf d.os code).isSome → Fr noB w w' → K .normal a' w') :
    (regionOf Tryz.f232 1).wp Tryz.prog K a w := by
  unfold Kp at hK; rw [nbrF_of hs]; clear hs; generalize sl a = u at *; clear a; have HK := Lib.hid hK; clear hK; conv => arg 2; whnf
  simp only [nbrF, h1, h2]
  have x11 := hG.cell 11
  have hol := wtO_len d.os
  go_wp2_with fail
  refine (refOption noB A n cap d.os code _ hA (by omega)).mono ?_
  rintro e w1 ⟨rfl, f1⟩
  go_wp2_with fail
  exact HK.out _ _  ⟨rfl, rfl⟩ (KpU.cons (h1.symm) (KpU.cons (h2.symm) (KpU.nil _ _))) (rfl) (rfl) f1
theorem nbrR2a  (a : Act) (w : World) (K : Exit → Act → World → Prop) (hs : Sz 24 a)
    (h7 : sl a 7 = .bool false) 
    (hK : ∀ a' w', Sz 24 a' → Kp [1, 2, 6, 7] a a' → sl a' 21 = .bool true → w' = w → K .normal a' w') :
    (regionOf Tryz.f232 2).wp Tryz.prog K a w := by
  unfold Kp at hK; rw [nbrF_of hs]; clear hs; generalize sl a = u at *; clear a; have HK := Lib.hid hK; clear hK; conv => arg 2; whnf
  simp only [nbrF, h7]
  go_wp2_with fail
  exact HK.out _ _  ⟨rfl, rfl⟩ (KpU.cons (rfl) (KpU.cons (rfl) (KpU.cons (rfl) (KpU.cons (h7.symm) (KpU.nil _ _))))) (rfl) rfl
theorem nbrR2b (x : List UInt8) (a : Act) (w : World) (K : Exit → Act → World → Prop) (hs : Sz 24 a)
    (h6 : sl a 6 = .string (bs x)) (h7 : sl a 7 = .bool true) 
    (hK : ∀ a' w', Sz 24 a' → Kp [1, 2, 6, 7] a a' → sl a' 21 = .bool (!decide (x.length = 4)) → w' = w → K .normal a' w') :
    (regionOf Tryz.f232 2).wp Tryz.prog K a w := by
  unfold Kp at hK; rw [nbrF_of hs]; clear hs; generalize sl a = u at *; clear a; have HK := Lib.hid hK; clear hK; conv => arg 2; whnf
  simp only [nbrF, h6, h7]
  have e_ : ((x.length : Int) != 4) = !decide (x.length = 4) := by rw [Bool.eq_iff_iff]; simp; try omega
  go_wp2_with fail
  exact HK.out _ _  ⟨rfl, rfl⟩ (KpU.cons (rfl) (KpU.cons (rfl) (KpU.cons (h6.symm) (KpU.cons (h7.symm) (KpU.nil _ _))))) (rfl) rfl
theorem nbrR3  (a : Act) (w : World) (K : Exit → Act → World → Prop) (hs : Sz 24 a)
     
    (hK : ∀ a' w', Sz 24 a' → Kp [1, 2, 6, 7] a a' → sl a' 4 = .int .i64 0 → sl a' 5 = .bool false → w' = w → K .normal a' w') :
    (regionOf Tryz.f232 3).wp Tryz.prog K a w := by
  unfold Kp at hK; rw [nbrF_of hs]; clear hs; generalize sl a = u at *; clear a; have HK := Lib.hid hK; clear hK; conv => arg 2; whnf
  simp only [nbrF]
  go_wp2_with fail
  exact HK.out _ _  ⟨rfl, rfl⟩ (KpU.cons (rfl) (KpU.cons (rfl) (KpU.cons (rfl) (KpU.cons (rfl) (KpU.nil _ _))))) (rfl) (rfl) rfl
theorem nbrR4 (x : List UInt8) (a : Act) (w : World) (K : Exit → Act → World → Prop) (hs : Sz 24 a)
    (h6 : sl a 6 = .string (bs x)) (hx : x.length = 4)
    (hK : ∀ a' w', Sz 24 a' → Kp [1, 2, 6, 7] a a' → sl a' 4 = .int .i64 (num x : Int) → sl a' 5 = .bool true → w' = w → K .normal a' w') :
    (regionOf Tryz.f232 4).wp Tryz.prog K a w := by
  unfold Kp at hK; rw [nbrF_of hs]; clear hs; generalize sl a = u at *; clear a; have HK := Lib.hid hK; clear hK; conv => arg 2; whnf
  simp only [nbrF, h6]
  go_wp2_with fail
  refine (refOf x _ (by omega)).mono ?_
  rintro e w1 ⟨rfl, rfl⟩
  go_wp2_with fail
  exact HK.out _ _  ⟨rfl, rfl⟩ (KpU.cons (rfl) (KpU.cons (rfl) (KpU.cons (h6.symm) (KpU.cons (rfl) (KpU.nil _ _))))) (rfl) (rfl) rfl
theorem modNumber (d : DhcD) (A : Option Addr) (cap n : Nat) (code : UInt8) (w : World) (hn : d.os.length = n) (hA : SlR w noB 2 A n (optC d.os)) (hwt : wtO d.os ≤ 1099511627776) : Calls Tryz.prog 232 #[.agg #[.bool d.reply, .int .u32 (d.xid : Int), .int .u32 (d.client : Int), .int .u32 (d.yours : Int), .int .u32 (d.next : Int), .int .u8 (d.mac.1.toNat : Int), .int .u8 (d.mac.2.1.toNat : Int), .int .u8 (d.mac.2.2.1.toNat : Int), .int .u8 (d.mac.2.2.2.1.toNat : Int), .int .u8 (d.mac.2.2.2.2.1.toNat : Int), .int .u8 (d.mac.2.2.2.2.2.toNat : Int), .slice A n cap], .int .u8 (code.toNat : Int)] w fun e w' => e = .returned (.tuple #[.int .i64 (((St.number d.os code).getD 0 : Nat) : Int), .bool (St.number d.os code).isSome]) ∧ Fr noB w w' := by
  go_enter Tryz.func232, Tryz.ntmps232
  have hret : ∀ (a' : Act) (w' : World) (x : Int) (b : Bool), Sz 24 a' → sl a' 4 = .int .i64 x → sl a' 5 = .bool b → x = (((St.number d.os code).getD 0 : Nat) : Int) → b = (St.number d.os code).isSome → Fr noB w w' → bodyPost Tryz.prog Tryz.f232 (fun e w' => e = .returned (.tuple #[.int .i64 (((St.number d.os code).getD 0 : Nat) : Int), .bool (St.number d.os code).isSome]) ∧ Fr noB w w') .ret a' w' := fun a' w' x b hs h4 h5 hx hb hf => by
    refine bodyPost_ret (results_tmp2 rfl _ _ _) hs.defers ⟨?_, hf⟩
    rw [show a'.tmps.getD 4 undef = _ from h4, show a'.tmps.getD 5 undef = _ from h5, hx, hb]
  refine wp_seq ?_
  refine nbrR0 d A cap n _ w _ ⟨rfl, rfl⟩ rfl ?_
  intro a1 w1 hs1 k1 o2 f1 hG1
  refine wp_seq ?_
  refine nbrR1 d A cap n _ code a1 w1 _ hs1 ((k1 1 (by decide)).trans rfl) o2 hG1 hn (hA.keep f1) hwt ?_
  intro a2 w2 hs2 k2 o6 o7 f2
  have f02 := f1.none f2
  refine wp_seq (wp_seq ?_)
  have bad : ∀ (a3 : Act), Sz 24 a3 → St.number d.os code = none → (regionOf Tryz.f232 3).wp Tryz.prog (fun ex a4 w4 => ex = .normal ∧ bodyPost Tryz.prog Tryz.f232 (fun e w' => e = .returned (.tuple #[.int .i64 (((St.number d.os code).getD 0 : Nat) : Int), .bool (St.number d.os code).isSome]) ∧ Fr noB w w') .ret a4 w4) a3 w2 := by
    intro a3 hs3 hnn
    refine nbrR3 a3 w2 _ hs3 ?_
    intro a4 w4 hs4 k4 o4 o5 hw; subst w4
    exact ⟨rfl, hret a4 w2 0 false hs4 o4 o5 (by rw [hnn]; rfl) (by rw [hnn]; rfl) f02⟩
  cases hop : optOf d.os code with
  | none =>
    rw [hop] at o6 o7
    refine nbrR2a a2 w2 _ hs2 o7 ?_
    intro a3 w3 hs3 k3 o21 hw; subst w3
    refine wp_if o21 (fun hb => ?_) (fun hb => by cases hb)
    refine wp_seq ?_
    refine wp_mono (bad a3 hs3 (by unfold St.number; rw [hop])) ?_
    rintro _ a4 w4 ⟨rfl, hp⟩
    exact wp_ret hp
  | some x =>
    rw [hop] at o6 o7
    refine nbrR2b x a2 w2 _ hs2 o6 o7 ?_
    intro a3 w3 hs3 k3 o21 hw; subst w3
    refine wp_if o21 (fun hb => ?_) (fun hb => ?_)
    · have hx : ¬ x.length = 4 := by simpa using hb
      refine wp_seq ?_
      refine wp_mono (bad a3 hs3 (by unfold St.number; rw [hop]; exact if_neg hx)) ?_
      rintro _ a4 w4 ⟨rfl, hp⟩
      exact wp_ret hp
    · have hx : x.length = 4 := by simpa using hb
      have hnn : St.number d.os code = some (num x) := by unfold St.number; rw [hop]; exact if_pos hx
      refine wp_skip ?_
      refine wp_seq ?_
      refine nbrR4 x a3 w2 _ hs3 ((k3 6 (by decide)).trans o6) hx ?_
      intro a4 w4 hs4 k4 o4 o5 hw; subst w4
      refine wp_ret ?_
      exact hret a4 w2 _ _ hs4 o4 o5 (by rw [hnn]; rfl) (by rw [hnn]; rfl) f02
end Go.Proofs.YtcbkaiakdhiloabGreatDoor
set_option maxRecDepth 20000
namespace Go.Proofs.YtcbkaiakdhiloabGreatDoor
open Go.RowKit Go.Proofs
attribute [local go_sem] bs_size bs_append bs_extract bs_toList
structure DmAt (w : World) (p : Nat) (M : MLay) (d : DhcD) (A : Option Addr) (cap n g : Nat) : Prop where
  bk : Bk w g 75 #[.bool d.reply, .int .u32 (d.xid : Int), .int .u32 (d.client : Int), .int .u32 (d.yours : Int), .int .u32 (d.next : Int), .int .u8 (d.mac.1.toNat : Int), .int .u8 (d.mac.2.1.toNat : Int), .int .u8 (d.mac.2.2.1.toNat : Int), .int .u8 (d.mac.2.2.2.1.toNat : Int), .int .u8 (d.mac.2.2.2.2.1.toNat : Int), .int .u8 (d.mac.2.2.2.2.2.toNat : Int), .slice A n cap]
  sl : SlR w (mown p M) 2 A n (optC d.os)
  ng : ¬ mown p M g
  hn : d.os.length = n
  wt : wtO d.os ≤ 1099511627776
  yours : d.yours < 4294967296
  next : d.next < 4294967296
theorem DmAt.keep {w w' : World} {p : Nat} {M : MLay} {d : DhcD} {A : Option Addr} {cap n g : Nat} (h : DmAt w p M d A cap n g) (hf : Fr (mown p M) w w') : DmAt w' p M d A cap n g :=
  ⟨h.bk.keep hf h.ng, h.sl.keep hf, h.ng, h.hn, h.wt, h.yours, h.next⟩
theorem DmAt.none {w w' : World} {p : Nat} {M : MLay} {d : DhcD} {A : Option Addr} {cap n g : Nat} (h : DmAt w p M d A cap n g) (hf : Fr noB w w') : DmAt w' p M d A cap n g := h.keep (hf.of_no _)
def grF (u : Nat → Value) : Act := ⟨#[u 0, u 1, u 2, u 3, u 4, u 5, u 6, u 7, u 8, u 9, u 10, u 11, u 12, u 13, u 14, u 15, u 16, u 17, u 18, u 19, u 20, u 21, u 22, u 23, u 24, u 25, u 26, u 27, u 28, u 29, u 30, u 31, u 32, u 33, u 34, u 35, u 36, u 37, u 38, u 39, u 40, u 41, u 42, u 43, u 44, u 45, u 46, u 47, u 48, u 49, u 50, u 51, u 52, u 53, u 54, u 55, u 56, u 57, u 58, u 59, u 60, u 61, u 62, u 63, u 64, u 65, u 66, u 67, u 68, u 69, u 70, u 71, u 72, u 73, u 74, u 75, u 76, u 77, u 78, u 79, u 80, u 81, u 82, u 83, u 84, u 85, u 86, u 87, u 88, u 89, u 90, u 91, u 92, u 93, u 94, u 95, u 96, u 97, u 98, u 99, u 100, u 101, u 102, u 103, u 104, u 105, u 106, u 107, u 108, u 109, u 110, u 111, u 112, u 113, u 114, u 115, u 116, u 117, u 118, u 119, u 120, u 121, u 122, u 123, u 124, u 125, u 126, u 127, u 128, u 129, u 130, u 131, u 132, u 133, u 134, u 135, u 136, u 137, u 138, u 139, u 140, u 141, u 142, u 143, u 144, u 145, u 146, u 147, u 148, u 149, u 150, u 151, u 152, u 153, u 154, u 155, u 156, u 157, u 158, u 159, u 160, u 161, u 162, u 163, u 164, u 165, u 166, u 167, u 168, u 169, u 170, u 171, u 172, u 173, u 174, u 175, u 176, u 177, u 178, u 179, u 180, u 181, u 182, u 183, u 184, u 185, u 186, u 187, u 188, u 189, u 190, u 191, u 192, u 193, u 194, u 195, u 196, u 197, u 198, u 199, u 200, u 201, u 202, u 203, u 204, u 205, u 206, u 207, u 208, u 209, u 210, u 211, u 212, u 213, u 214, u 215, u 216, u 217, u 218], []⟩
set_option maxRecDepth 100000 in
theorem grF_eq (u : Nat → Value) : grF u = frN 219 u := rfl
theorem grF_of {a : Act} (h : Sz 219 a) : a = grF (sl a) := h.eq.trans (grF_eq _).symm
theorem grR0 (d : DhcD) (A : Option Addr) (cap n : Nat) (a : Act) (w : World) (K : Exit → Act → World → Prop) (hs : Sz 219 a)
    (h1 : sl a 1 = .agg #[.bool d.reply, .int .u32 (d.xid : Int), .int .u32 (d.client : Int), .int .u32 (d.yours : Int), .int .u32 (d.next : Int), .int .u8 (d.mac.1.toNat : Int), .int .u8 (d.mac.2.1.toNat : Int), .int .u8 (d.mac.2.2.1.toNat : Int), .int .u8 (d.mac.2.2.2.1.toNat : Int), .int .u8 (d.mac.2.2.2.2.1.toNat : Int), .int .u8 (d.mac.2.2.2.2.2.toNat : Int), .slice A n cap]) 
    (hK : ∀ a' w', Sz 219 a' → Kp [0, 2, 6, 7, 8, 9, 10, 11, 12, 13, 14, 15, 16] a a' → sl a' 4 = .pointer (some ⟨w.heap.size, 0, none⟩) → Fr noB w w' → Bk w' w.heap.size 75 #[.bool d.reply, .int .u32 (d.xid : Int), .int .u32 (d.client : Int), .int .u32 (d.yours : Int), .int .u32 (d.next : Int), .int .u8 (d.mac.1.toNat : Int), .int .u8 (d.mac.2.1.toNat : Int), .int .u8 (d.mac.2.2.1.toNat : Int), .int .u8 (d.mac.2.2.2.1.toNat : Int), .int .u8 (d.mac.2.2.2.2.1.toNat : Int), .int .u8 (d.mac.2.2.2.2.2.toNat : Int), .slice A n cap] → K .normal a' w') :
    (regionOf Tryz.f233 0).wp Tryz.prog K a w := by
  unfold Kp at hK; rw [grF_of hs]; clear hs; generalize sl a = u at *; clear a; have HK := Lib.hid hK; clear hK; conv => arg 2; whnf
  simp only [grF, h1]
  go_wp2_with fail
  exact HK.out _ _  ⟨rfl, rfl⟩ (KpU.cons (rfl) (KpU.cons (rfl) (KpU.cons (rfl) (KpU.cons (rfl) (KpU.cons (rfl) (KpU.cons (rfl) (KpU.cons (rfl) (KpU.cons (rfl) (KpU.cons (rfl) (KpU.cons (rfl) (KpU.cons (rfl) (KpU.cons (rfl) (KpU.cons (rfl) (KpU.nil _ _)))))))))))))) (rfl) ((Fr.refl _ _).alloc _) (Bk.new _ _ _)
theorem grR1 (p : Nat) (M : MLay) (d : DhcD) (A : Option Addr) (cap n g : Nat) (a : Act) (w : World) (K : Exit → Act → World → Prop) (hs : Sz 219 a)
    (h4 : sl a 4 = .pointer (some ⟨g, 0, none⟩))  (hD : DmAt w p M d A cap n g)
    (hK : ∀ a' w', Sz 219 a' → Kp [0, 2, 4, 8, 9, 10, 11, 12, 13, 14, 15, 16] a a' → sl a' 6 = .int .i64 (((St.number d.os 51).getD 0 : Nat) : Int) → sl a' 7 = .bool (St.number d.os 51).isSome → Fr noB w w' → K .normal a' w') :
    (regionOf Tryz.f233 1).wp Tryz.prog K a w := by
  unfold Kp at hK; rw [grF_of hs]; clear hs; generalize sl a = u at *; clear a; have HK := Lib.hid hK; clear hK; conv => arg 2; whnf
  simp only [grF, h4]
  have hGc := hD.bk.cells
  have hcall := modNumber d A cap n 51 w hD.hn (hD.sl.sub fun b _ x => x.elim) hD.wt
  have Hcall := Lib.hid hcall
  clear hcall
  go_wp2_with fail
  refine Hcall.out.mono ?_
  rintro e w1 ⟨rfl, hf1⟩
  go_wp2_with fail
  exact HK.out _ _  ⟨rfl, rfl⟩ (KpU.cons (rfl) (KpU.cons (rfl) (KpU.cons (h4.symm) (KpU.cons (rfl) (KpU.cons (rfl) (KpU.cons (rfl) (KpU.cons (rfl) (KpU.cons (rfl) (KpU.cons (rfl) (KpU.cons (rfl) (KpU.cons (rfl) (KpU.cons (rfl) (KpU.nil _ _))))))))))))) (rfl) (rfl) hf1
theorem grR2c (p T : Nat) (M : MLay) (s : St) (a : Act) (w : World) (K : Exit → Act → World → Prop) (hs : Sz 219 a)
    (h0 : sl a 0 = .pointer (some ⟨p, 0, none⟩)) (h : ModelAt w p T M s) (h1 : s.lease ≠ 2) (h2 : s.lease ≠ 5)
    (hK : ∀ a' w', Sz 219 a' → Kp [0, 2, 4, 6, 7, 9, 10, 11, 12, 13, 14, 15, 16] a a' → sl a' 8 = .bool (decide (s.lease = 6)) → w' = w → K .normal a' w') :
    (regionOf Tryz.f233 2).wp Tryz.prog K a w := by
  unfold Kp at hK; rw [grF_of hs]; clear hs; generalize sl a = u at *; clear a; have HK := Lib.hid hK; clear hK; conv => arg 2; whnf
  simp only [grF, h0]
  have c22 := h.g22
  have n1 : ((s.lease : Int) == 2) = false := by first | (rw [beq_iff_eq]; omega) | (rw [beq_eq_false_iff_ne]; omega)
  have n2 : ((s.lease : Int) == 5) = false := by first | (rw [beq_iff_eq]; omega) | (rw [beq_eq_false_iff_ne]; omega)
  have e_ : ((s.lease : Int) == 6) = decide (s.lease = 6) := by rw [Bool.eq_iff_iff]; simp; try omega
  clear h1 h2
  go_wp2_with fail
  exact HK.out _ _  ⟨rfl, rfl⟩ (KpU.cons (h0.symm) (KpU.cons (rfl) (KpU.cons (rfl) (KpU.cons (rfl) (KpU.cons (rfl) (KpU.cons (rfl) (KpU.cons (rfl) (KpU.cons (rfl) (KpU.cons (rfl) (KpU.cons (rfl) (KpU.cons (rfl) (KpU.cons (rfl) (KpU.cons (rfl) (KpU.nil _ _)))))))))))))) (rfl) rfl
theorem grR3a (p T : Nat) (M : MLay) (s : St) (d : DhcD) (A : Option Addr) (cap n g : Nat) (a : Act) (w : World) (K : Exit → Act → World → Prop) (hs : Sz 219 a)
    (h0 : sl a 0 = .pointer (some ⟨p, 0, none⟩)) (h4 : sl a 4 = .pointer (some ⟨g, 0, none⟩)) (h8 : sl a 8 = .bool false) (h : ModelAt w p T M s) (hD : DmAt w p M d A cap n g)
    (hK : ∀ a' w', Sz 219 a' → Kp [0, 2, 4, 6, 7, 8, 9, 10, 11, 12, 13, 14, 15, 16] a a' → sl a' 59 = .bool true → ModelAt w' p T M s → Fr noB w w' → K .normal a' w') :
    (regionOf Tryz.f233 3).wp Tryz.prog K a w := by
  unfold Kp at hK; rw [grF_of hs]; clear hs; generalize sl a = u at *; clear a; have HK := Lib.hid hK; clear hK; conv => arg 2; whnf
  simp only [grF, h0, h4, h8]
  refine wp_region_pls (by kernel_rfl) (fun w' => ModelAt w' p T M s ∧ (DmAt w' p M d A cap n g ∧ Fr noB w w')) [] (.p 0 (.p 1 (.p 2 (.p 3 (.p 4 (.p 5 (.p 6 (.p 7 (.p 8 (.p 9 (.p 10 (.p 11 (.p 13 (.p 14 (.p 15 (.q 12 (.q 16 (.p 17 (.p 18 .nil))))))))))))))))))) (by kernel_rfl) (⟨h.drew, hD.none (Fr.refl _ _).drew, (Fr.refl _ _).drew⟩) ?_
  intro ops Q' hO hQ' wr1 hR1
  iterate 3 (refine pl_p0 hO rfl rfl ?_ (fun w' => ?_) ?_; rotate_left 1; (focus (go_simp; ((try with_reducible rfl); done))); simp only [Act.put, List.setIfInBounds_toArray, List.set_cons_zero, List.set_cons_succ])
  iterate 2 (refine pl_pn hO rfl rfl rfl rfl ?_; simp only [Act.put, List.setIfInBounds_toArray, List.set_cons_zero, List.set_cons_succ])
  iterate 2 (refine pl_p0 hO rfl rfl ?_ (fun w' => ?_) ?_; rotate_left 1; (focus (go_simp; ((try with_reducible rfl); done))); simp only [Act.put, List.setIfInBounds_toArray, List.set_cons_zero, List.set_cons_succ])
  iterate 2 (refine pl_pn hO rfl rfl rfl rfl ?_; simp only [Act.put, List.setIfInBounds_toArray, List.set_cons_zero, List.set_cons_succ])
  iterate 2 (refine pl_p0 hO rfl rfl ?_ (fun w' => ?_) ?_; rotate_left 1; (focus (go_simp; ((try with_reducible rfl); done))); simp only [Act.put, List.setIfInBounds_toArray, List.set_cons_zero, List.set_cons_succ])
  iterate 4 (refine pl_pn hO rfl rfl rfl rfl ?_; simp only [Act.put, List.setIfInBounds_toArray, List.set_cons_zero, List.set_cons_succ])
  iterate 2 (refine pl_qn hO rfl rfl rfl rfl ?_; simp only [Act.put, List.setIfInBounds_toArray, List.set_cons_zero, List.set_cons_succ])
  refine pl_pn hO rfl rfl rfl rfl ?_; simp only [Act.put, List.setIfInBounds_toArray, List.set_cons_zero, List.set_cons_succ]
  refine pl_p0 hO rfl rfl ?_ (fun w' => ?_) ?_; rotate_left 1; (focus (go_simp; ((try with_reducible rfl); done))); simp only [Act.put, List.setIfInBounds_toArray, List.set_cons_zero, List.set_cons_succ]
  refine pl_nil (hQ' _ _ ?_)
  exact HK.out _ _  ⟨rfl, rfl⟩ (KpU.cons (h0.symm) (KpU.cons (rfl) (KpU.cons (h4.symm) (KpU.cons (rfl) (KpU.cons (rfl) (KpU.cons (h8.symm) (KpU.cons (rfl) (KpU.cons (rfl) (KpU.cons (rfl) (KpU.cons (rfl) (KpU.cons (rfl) (KpU.cons (rfl) (KpU.cons (rfl) (KpU.cons (rfl) (KpU.nil _ _))))))))))))))) (rfl) hR1.1 hR1.2.2
theorem number_lt {os : List OptD} {code : UInt8} {x : Nat} (h : St.number os code = some x) : x < 4294967296 := by
  unfold St.number at h
  split at h
  · next d _ =>
    split at h
    · next hl =>
      injection h with h
      have := num_lt d
      rw [hl] at this; omega
    · cases h
  · cases h
section
variable {p T : Nat} {M : MLay} {d : DhcD} {A : Option Addr} {cap n g : Nat} {tm : Nat} {w0 : World} {s : St} {a : Act} {w : World}
end
end Go.Proofs.YtcbkaiakdhiloabGreatDoor
