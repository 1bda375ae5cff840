/- Parts of the walk; written by programs, merged. -/
import Derived.Test.YtcbkaiakdhiloabGreatDoorMae
import Derived.Test.YtcbkaiakdhiloabGreatDoorMav
import Derived.Test.YtcbkaiakdhiloabGreatDoorProg
import Derived.Test.YtcbkaiakdhiloabGreatDoorShelf
import Derived.WalkKit
import Derived.WalkLawsBesides
import Derived.WalkSpells
import Derived.Deep.AppendLies
import Derived.Deep.DrawnRows
import Derived.Maps.AppendAt
import Derived.StillTailTactics
import Derived.Lib.Hide
import Derived.Lib.AppendStr
import Derived.Lib.Strings
import Derived.Laws.MakeOwn
import Derived.Laws.OwnMore
import Derived.Laws.BitsAllLaws
import Derived.Orders
import Derived.Deep.MidRow
import Derived.Deep.DeepMust
import Derived.Deep.RegionHeld3
import Derived.Deep.RegionLaw
import Derived.Deep.LoopGhost
import Derived.Deep.Cut
import Derived.Deep.CutRange
import Derived.Deep.QuietTactic
import Derived.BigQuiet
import Derived.Lib.ConvBytes
import Derived.Lib.LazyBuf
import Derived.Recover
import Derived.OrdersHeld
import Derived.Lib.MapLaws
import Derived.Lib.TrimAscii
import Derived.Lib.LaidTab
import Derived.Lib.ItoaNum
import Derived.Maps.Own
import Derived.Maps.OwnOps
import Derived.Maps.OwnSet
import Derived.Maps.Views
import Derived.Maps.RangeWalk
import Derived.RangeFuncGives
import Derived.Sort.MapsRangeIn
import Derived.OwnWalkIn
import Derived.TacticsInMore
import Derived.RegionIn
import Derived.LoopNIn
import Derived.LoopIn
import Derived.Shelf.Abstract
set_option linter.unusedSimpArgs false
set_option linter.unusedVariables false
set_option maxRecDepth 20000
set_option maxHeartbeats 8000000
namespace Go.Proofs.YtcbkaiakdhiloabGreatDoor
open Go.RowKit Go.Proofs Go.Maps
/-! plain lists -/
def at0 (c : List Nat) (p : Nat) : Nat := c.getD p 0
theorem at0_set (c : List Nat) (a v p : Nat) (h : a < c.length) : at0 (c.set a v) p = if p = a then v else at0 c p := by
  unfold at0
  rw [List.getD_eq_getElem?_getD, List.getD_eq_getElem?_getD, List.getElem?_set]
  by_cases hp : a = p
  · subst hp; simp [h]
  · rw [if_neg hp, if_neg (fun e => hp e.symm)]
def Srt (c : List Nat) (m : Nat) : Prop := ∀ p q, p < q → q < m → at0 c p ≤ at0 c q
def Good (c : List Nat) (i j : Nat) : Prop := (∀ p q, p < q → q ≤ i → p ≠ j → q ≠ j → at0 c p ≤ at0 c q) ∧ (∀ q, j < q → q ≤ i → at0 c j ≤ at0 c q)
theorem Good.start {c : List Nat} {i : Nat} (h : Srt c i) : Good c i i := ⟨fun p q h1 h2 h3 h4 => h p q h1 (by omega), fun q h1 h2 => by omega⟩
theorem Good.done {c : List Nat} {i j : Nat} (h : Good c i j) (hj : j ≤ i) (he : j = 0 ∨ at0 c (j - 1) ≤ at0 c j) : Srt c (i + 1) := by
  intro p q h1 h2
  by_cases hp : p = j
  · subst hp; exact h.2 q h1 (by omega)
  · by_cases hq : q = j
    · subst hq
      rcases he with he | he
      · omega
      · by_cases hp' : p = q - 1
        · subst hp'; exact he
        · exact Nat.le_trans (h.1 p (q - 1) (by omega) (by omega) hp (by omega)) he
    · exact h.1 p q h1 (by omega) hp hq
theorem Good.swap {c : List Nat} {i k : Nat} (h : Good c i (k + 1)) (hk : k + 1 ≤ i) (hi : i < c.length) (hlt : at0 c (k + 1) < at0 c k) : Good ((c.set (k + 1) (at0 c k)).set k (at0 c (k + 1))) i k := by
  have e : ∀ p, at0 ((c.set (k + 1) (at0 c k)).set k (at0 c (k + 1))) p = if p = k then at0 c (k + 1) else if p = k + 1 then at0 c k else at0 c p := fun p => by
    rw [at0_set _ _ _ _ (by rw [List.length_set]; omega), at0_set _ _ _ _ (by omega)]
  constructor
  · intro p q h1 h2 h3 h4
    rw [e, e, if_neg h3, if_neg h4]
    by_cases hp : p = k + 1
    · rw [if_pos hp]
      by_cases hq : q = k + 1
      · omega
      · rw [if_neg hq]; exact h.1 k q (by omega) h2 (by omega) hq
    · rw [if_neg hp]
      by_cases hq : q = k + 1
      · rw [if_pos hq]; exact h.1 p k (by omega) (by omega) hp (by omega)
      · rw [if_neg hq]; exact h.1 p q h1 h2 hp hq
  · intro q h1 h2
    rw [e, e, if_pos rfl, if_neg (by omega)]
    by_cases hq : q = k + 1
    · rw [if_pos hq]; omega
    · rw [if_neg hq]; exact h.2 q (by omega) h2
theorem swap_perm (c : List Nat) (a b : Nat) (ha : a < c.length) (hb : b < c.length) : ((c.set a (at0 c b)).set b (at0 c a)).Perm c := by
  have h1 : at0 c b = c[b] := by unfold at0; rw [List.getD_eq_getElem?_getD, List.getElem?_eq_getElem hb]; rfl
  have h2 : at0 c a = c[a] := by unfold at0; rw [List.getD_eq_getElem?_getD, List.getElem?_eq_getElem ha]; rfl
  rw [h1, h2]
  exact List.set_set_perm ha hb
theorem srt_pw {c : List Nat} (h : Srt c c.length) : c.Pairwise (· ≤ ·) := by
  rw [List.pairwise_iff_getElem]
  intro i j hi hj hij
  have := h i j hij hj
  unfold at0 at this
  rw [List.getD_eq_getElem?_getD, List.getD_eq_getElem?_getD, List.getElem?_eq_getElem hi, List.getElem?_eq_getElem hj] at this
  exact this
theorem pw_unique : ∀ (a b : List Nat), a.Pairwise (· ≤ ·) → b.Pairwise (· ≤ ·) → a.Perm b → a = b
  | [], b, _, _, h => (List.nil_perm.1 h).symm ▸ rfl
  | x :: a, [], _, _, h => by have := h.length_eq; cases this
  | x :: a, y :: b, ha, hb, h => by
    rw [List.pairwise_cons] at ha hb
    have hx : x ∈ y :: b := h.mem_iff.1 (by simp)
    have hy : y ∈ x :: a := h.mem_iff.2 (by simp)
    have : x = y := by
      simp only [List.mem_cons] at hx hy
      rcases hx with rfl | hx
      · rfl
      · rcases hy with rfl | hy
        · rfl
        · have := ha.1 y hy; have := hb.1 x hx; omega
    subst this
    rw [pw_unique a b ha.2 hb.2 h.cons_inv]
theorem insN_perm (x : Nat) : ∀ l : List Nat, (insN x l).Perm (x :: l)
  | [] => List.Perm.refl _
  | y :: r => by
    unfold insN
    split
    · exact List.Perm.refl _
    · exact ((insN_perm x r).cons y).trans (List.Perm.swap x y r)
theorem insN_pw (x : Nat) : ∀ l : List Nat, l.Pairwise (· ≤ ·) → (insN x l).Pairwise (· ≤ ·)
  | [], _ => by simp [insN]
  | y :: r, h => by
    unfold insN
    rw [List.pairwise_cons] at h
    split
    · next hxy => exact List.pairwise_cons.2 ⟨fun z hz => by rcases List.mem_cons.1 hz with rfl | hz; exact hxy; exact Nat.le_trans hxy (h.1 z hz), List.pairwise_cons.2 h⟩
    · next hxy =>
      refine List.pairwise_cons.2 ⟨fun z hz => ?_, insN_pw x r h.2⟩
      rcases List.mem_cons.1 ((insN_perm x r).mem_iff.1 hz) with rfl | hz
      · omega
      · exact h.1 z hz
theorem sortN_perm : ∀ l : List Nat, (sortN l).Perm l
  | [] => List.Perm.refl _
  | x :: r => (insN_perm x _).trans ((sortN_perm r).cons x)
theorem sortN_pw : ∀ l : List Nat, (sortN l).Pairwise (· ≤ ·)
  | [] => List.Pairwise.nil
  | x :: r => insN_pw x _ (sortN_pw r)
/-! in memory -/
def UA (w : World) (g : Nat) (c : List Nat) : Prop := ∃ cur, Bk w g 34 cur ∧ c.length ≤ cur.size ∧ ∀ (j x : Nat), c[j]? = some x → cur[j]? = some (encU x)
theorem UA.get {w : World} {g : Nat} {c : List Nat} (h : UA w g c) {j : Nat} (hj : j < c.length) : w.cell? ⟨g, j, none⟩ = some (.int .u32 (at0 c j : Int)) := by
  obtain ⟨cur, h1, h2, h3⟩ := h
  have := h3 j (at0 c j) (by unfold at0; rw [List.getD_eq_getElem?_getD, List.getElem?_eq_getElem hj]; rfl)
  exact (h1.cell j).trans this
theorem UA.fr {w : World} {g : Nat} {c : List Nat} (h : UA w g c) (j : Nat) : w.frozen? ⟨g, j, none⟩ = false := by obtain ⟨cur, h1, _⟩ := h; exact h1.free j
theorem UA.lt {w : World} {g : Nat} {c : List Nat} (h : UA w g c) : g < w.heap.size := by obtain ⟨cur, h1, _⟩ := h; exact h1.lt
theorem UA.set {w : World} {g : Nat} {c : List Nat} (h : UA w g c) {j : Nat} (y : Nat) (hj : j < c.length) : UA (w.setCell ⟨g, j, none⟩ (.int .u32 (y : Int))) g (c.set j y) := by
  obtain ⟨cur, h1, h2, h3⟩ := h
  refine ⟨_, h1.set j _, by simp; omega, fun i x hx => ?_⟩
  rw [List.getElem?_set] at hx
  by_cases hi : j = i
  · subst hi
    rw [if_pos rfl, if_pos hj] at hx
    cases hx
    rw [Array.getElem?_setIfInBounds_self_of_lt (by omega)]
  · rw [if_neg hi] at hx
    rw [Array.getElem?_setIfInBounds_ne hi]
    exact h3 i x hx
theorem UA.keep {w w' : World} {S : Nat → Prop} {g : Nat} {c : List Nat} (h : UA w g c) (hf : Fr S w w') (hg : ¬ S g) : UA w' g c := by
  obtain ⟨cur, h1, h2⟩ := h; exact ⟨cur, h1.keep hf hg, h2⟩
theorem isNaN0 (a : Nat) (w : World) : Calls Tryz.prog 254 #[.int .u32 (a : Int)] w fun e w' => e = .returned (.bool false) ∧ w = w' := by
  go_enter Tryz.func254, Tryz.ntmps254
  go_wp2_with fail
  go_ret
  exact ⟨by simp, rfl⟩
theorem lessIP (a b : Nat) (w : World) : Calls Tryz.prog 206 #[.int .u32 (a : Int), .int .u32 (b : Int)] w fun e w' => e = .returned (.bool (decide (a < b))) ∧ w = w' := by
  go_enter Tryz.func206, Tryz.ntmps206
  go_wp2_with fail
  refine (isNaN0 a _).mono ?_
  rintro e w2 ⟨rfl, rfl⟩
  go_wp2_with fail
  go_ret
  exact ⟨by simp, rfl⟩
def isF (u : Nat → Value) : Act := ⟨#[u 0, u 1, u 2, u 3, u 4, u 5, u 6, u 7, u 8, u 9, u 10, u 11, u 12, u 13, u 14, u 15, u 16, u 17, u 18, u 19, u 20, u 21, u 22, u 23, u 24, u 25, u 26, u 27, u 28, u 29, u 30, u 31, u 32, u 33, u 34, u 35, u 36, u 37, u 38, u 39, u 40, u 41, u 42, u 43, u 44, u 45, u 46, u 47, u 48], []⟩
set_option maxRecDepth 100000 in
theorem isF_eq (u : Nat → Value) : isF u = frN 49 u := rfl
theorem isF_of {a : Act} (h : Sz 49 a) : a = isF (sl a) := h.eq.trans (isF_eq _).symm
theorem isR0  (a : Act) (w : World) (K : Exit → Act → World → Prop) (hs : Sz 49 a)
    (h1 : sl a 1 = .int .i64 0) 
    (hK : ∀ a' w', Sz 49 a' → Kp [0, 1, 2, 7] a a' → sl a' 6 = .int .i64 1 → w' = w → K .normal a' w') :
    (regionOf Tryz.f200 0).wp Tryz.prog K a w := by
  unfold Kp at hK; rw [isF_of hs]; clear hs; generalize sl a = u at *; clear a; have HK := Lib.hid hK; clear hK; conv => arg 2; whnf
  simp only [isF, h1]
  go_wp2_with fail
  exact HK.out _ _  ⟨rfl, rfl⟩ (Kc rfl (Kc h1.symm (Kc rfl (Kc rfl (Kn _ _))))) (rfl) rfl
theorem isR1 (i n : Nat) (a : Act) (w : World) (K : Exit → Act → World → Prop) (hs : Sz 49 a)
    (h6 : sl a 6 = .int .i64 (i : Int)) (h2 : sl a 2 = .int .i64 (n : Int)) 
    (hK : ∀ a' w', Sz 49 a' → Kp [0, 1, 2, 6, 7] a a' → sl a' 12 = .bool (decide (i < n)) → w' = w → K .normal a' w') :
    (regionOf Tryz.f200 1).wp Tryz.prog K a w := by
  unfold Kp at hK; rw [isF_of hs]; clear hs; generalize sl a = u at *; clear a; have HK := Lib.hid hK; clear hK; conv => arg 2; whnf
  simp only [isF, h6, h2]
  go_wp2_with fail
  exact HK.out _ _  ⟨rfl, rfl⟩ (Kc rfl (Kc rfl (Kc h2.symm (Kc h6.symm (Kc rfl (Kn _ _)))))) (congrArg Value.bool (decide_eq_decide.2 (by omega))) rfl
theorem isR3 (i : Nat) (a : Act) (w : World) (K : Exit → Act → World → Prop) (hs : Sz 49 a)
    (h6 : sl a 6 = .int .i64 (i : Int)) 
    (hK : ∀ a' w', Sz 49 a' → Kp [0, 1, 2, 6] a a' → sl a' 7 = .int .i64 (i : Int) → w' = w → K .normal a' w') :
    (regionOf Tryz.f200 3).wp Tryz.prog K a w := by
  unfold Kp at hK; rw [isF_of hs]; clear hs; generalize sl a = u at *; clear a; have HK := Lib.hid hK; clear hK; conv => arg 2; whnf
  simp only [isF, h6]
  go_wp2_with fail
  exact HK.out _ _  ⟨rfl, rfl⟩ (Kc rfl (Kc rfl (Kc rfl (Kc h6.symm (Kn _ _))))) (rfl) rfl
theorem isR5 (j k : Nat) (a : Act) (w : World) (K : Exit → Act → World → Prop) (hs : Sz 49 a)
    (h7 : sl a 7 = .int .i64 (j : Int)) (q : IntKind.i64.wrap ((j : Int) - 1) = (k : Int))
    (hK : ∀ a' w', Sz 49 a' → Kp [0, 1, 2, 6] a a' → sl a' 7 = .int .i64 (k : Int) → w' = w → K .normal a' w') :
    (regionOf Tryz.f200 5).wp Tryz.prog K a w := by
  unfold Kp at hK; rw [isF_of hs]; clear hs; generalize sl a = u at *; clear a; have HK := Lib.hid hK; clear hK; conv => arg 2; whnf
  simp only [isF, h7]
  clear h7
  go_wp2_with fail
  exact HK.out _ _  ⟨rfl, rfl⟩ (Kc rfl (Kc rfl (Kc rfl (Kc rfl (Kn _ _))))) (rfl) rfl
theorem isR2 (i j : Nat) (a : Act) (w : World) (K : Exit → Act → World → Prop) (hs : Sz 49 a)
    (h6 : sl a 6 = .int .i64 (i : Int)) (q : IntKind.i64.wrap ((i : Int) + 1) = (j : Int))
    (hK : ∀ a' w', Sz 49 a' → Kp [0, 1, 2, 7] a a' → sl a' 6 = .int .i64 (j : Int) → w' = w → K .normal a' w') :
    (regionOf Tryz.f200 2).wp Tryz.prog K a w := by
  unfold Kp at hK; rw [isF_of hs]; clear hs; generalize sl a = u at *; clear a; have HK := Lib.hid hK; clear hK; conv => arg 2; whnf
  simp only [isF, h6]
  clear h6
  go_wp2_with fail
  exact HK.out _ _  ⟨rfl, rfl⟩ (Kc rfl (Kc rfl (Kc rfl (Kc rfl (Kn _ _))))) (rfl) rfl
theorem isR4a (g n cap : Nat) (a : Act) (w : World) (K : Exit → Act → World → Prop) (hs : Sz 49 a)
    (h0 : sl a 0 = .slice (some ⟨g, 0, none⟩) n cap) (h1 : sl a 1 = .int .i64 0) (h7 : sl a 7 = .int .i64 0) 
    (hK : ∀ a' w', Sz 49 a' → Kp [0, 1, 2, 6, 7] a a' → sl a' 30 = .bool false → Fr noB w w' → K .normal a' w') :
    (regionOf Tryz.f200 4).wp Tryz.prog K a w := by
  unfold Kp at hK; rw [isF_of hs]; clear hs; generalize sl a = u at *; clear a; have HK := Lib.hid hK; clear hK; conv => arg 2; whnf
  simp only [isF, h0, h1, h7]
  refine wp_region_pls (by kernel_rfl) (fun w' => Fr noB w w') [] (.p 0 (.p 1 (.p 2 (.p 3 (.p 4 (.p 5 (.p 6 (.p 8 (.p 9 (.p 10 (.p 11 (.q 7 (.q 12 (.e 13 (.p 14 .nil))))))))))))))) (by kernel_rfl) ((Fr.refl _ _).drew) ?_
  intro ops Q' hO hQ' wr1 hR1
  iterate 4 (refine pl_p0 hO rfl rfl ?_ (fun w' => ?_) ?_; rotate_left 1; (focus (go_simp; ((try with_reducible rfl); done))); simp only [Act.put, List.setIfInBounds_toArray, List.set_cons_zero, List.set_cons_succ])
  iterate 7 (refine pl_pn hO rfl rfl rfl rfl ?_; simp only [Act.put, List.setIfInBounds_toArray, List.set_cons_zero, List.set_cons_succ])
  iterate 2 (refine pl_qn hO rfl rfl rfl rfl ?_; simp only [Act.put, List.setIfInBounds_toArray, List.set_cons_zero, List.set_cons_succ])
  refine pl_en hO rfl rfl rfl rfl rfl (fun _ => hR1) ?_
  simp only [Act.put, List.setIfInBounds_toArray, List.set_cons_zero, List.set_cons_succ]
  refine pl_p0 hO rfl rfl ?_ (fun w' => ?_) ?_; rotate_left 1; (focus (go_simp; ((try with_reducible rfl); done))); simp only [Act.put, List.setIfInBounds_toArray, List.set_cons_zero, List.set_cons_succ]
  refine pl_nil (hQ' _ _ ?_)
  exact HK.out _ _  ⟨rfl, rfl⟩ (Kc h0.symm (Kc h1.symm (Kc rfl (Kc rfl (Kc h7.symm (Kn _ _)))))) (rfl) hR1
theorem isR4b (g n cap : Nat) (c : List Nat) (j k : Nat) (a : Act) (w : World) (K : Exit → Act → World → Prop) (hs : Sz 49 a)
    (h0 : sl a 0 = .slice (some ⟨g, 0, none⟩) n cap) (h1 : sl a 1 = .int .i64 0) (h7 : sl a 7 = .int .i64 (j : Int)) (h : UA w g c) (hn : c.length = n) (hk1 : j < c.length) (hk0 : k < c.length) (q : IntKind.i64.wrap ((j : Int) - 1) = (k : Int)) (qn : (j : Int) < (n : Int)) (qn0 : (k : Int) < (n : Int)) (qz : (0 : Int) < (j : Int)) (qz2 : 0 < j) (qc : n ≤ cap)
    (hK : ∀ a' w', Sz 49 a' → Kp [0, 1, 2, 6, 7] a a' → sl a' 30 = .bool (decide (at0 c j < at0 c k)) → UA w' g c → Fr noB w w' → K .normal a' w') :
    (regionOf Tryz.f200 4).wp Tryz.prog K a w := by
  unfold Kp at hK; rw [isF_of hs]; clear hs; generalize sl a = u at *; clear a; have HK := Lib.hid hK; clear hK; conv => arg 2; whnf
  simp only [isF, h0, h1, h7]
  refine wp_region_pls (by kernel_rfl) (fun w' => UA w' g c ∧ Fr noB w w') [] (.p 0 (.p 1 (.p 2 (.p 3 (.p 4 (.p 5 (.p 6 (.p 8 (.p 9 (.p 10 (.p 11 (.q 7 (.q 12 (.e 13 (.p 14 .nil))))))))))))))) (by kernel_rfl) (⟨h.keep ((Fr.refl noB w).drew) (fun x => x), (Fr.refl _ _).drew⟩) ?_
  intro ops Q' hO hQ' wr1 hR1
  iterate 4 (refine pl_p0 hO rfl rfl ?_ (fun w' => ?_) ?_; rotate_left 1; (focus (go_simp; ((try with_reducible rfl); done))); simp only [Act.put, List.setIfInBounds_toArray, List.set_cons_zero, List.set_cons_succ])
  iterate 7 (refine pl_p1 hO rfl rfl rfl rfl ?_ (fun w' => ?_) ?_; rotate_left 1; (focus (go_simp; ((try with_reducible rfl); done))); simp only [Act.put, List.setIfInBounds_toArray, List.set_cons_zero, List.set_cons_succ])
  iterate 2 (refine pl_q1 hO rfl rfl rfl rfl ?_ (fun w' hS => ?_) ?_; rotate_left 1; (focus (obtain ⟨hU, hF⟩ := hS; have g1 := hU.get hk1; have g0 := hU.get hk0; go_simp; ((try with_reducible rfl); done))); simp only [Act.put, List.setIfInBounds_toArray, List.set_cons_zero, List.set_cons_succ])
  refine pl_e1 hO rfl rfl rfl rfl rfl (fun K hK => ?_)
  go_simp
  refine (lessIP (at0 c j) (at0 c k) _).mono ?_
  rintro e w2 ⟨rfl, rfl⟩
  refine hK _ _ (hR1) (fun hR_13 => ?_)
  clear hK K
  refine pl_p0 hO rfl rfl ?_ (fun w' => ?_) ?_; rotate_left 1; (focus (go_simp; ((try with_reducible rfl); done))); simp only [Act.put, List.setIfInBounds_toArray, List.set_cons_zero, List.set_cons_succ]
  refine pl_nil (hQ' _ _ ?_)
  exact HK.out _ _  ⟨rfl, rfl⟩ (Kc h0.symm (Kc h1.symm (Kc rfl (Kc rfl (Kc h7.symm (Kn _ _)))))) (rfl) hR_13.1 hR_13.2
theorem isR6 (g n cap : Nat) (c : List Nat) (j k : Nat) (a : Act) (w : World) (K : Exit → Act → World → Prop) (hs : Sz 49 a)
    (h0 : sl a 0 = .slice (some ⟨g, 0, none⟩) n cap) (h7 : sl a 7 = .int .i64 (j : Int)) (h : UA w g c) (hn : c.length = n) (hk1 : j < c.length) (hk0 : k < c.length) (q : IntKind.i64.wrap ((j : Int) - 1) = (k : Int)) (qn : (j : Int) < (n : Int)) (qn0 : (k : Int) < (n : Int)) (qz : (0 : Int) < (j : Int)) (qz2 : 0 < j) (qc : n ≤ cap)
    (hK : ∀ a' w', Sz 49 a' → Kp [0, 1, 2, 6, 7] a a' → UA w' g ((c.set j (at0 c k)).set k (at0 c j)) → Fr (oneB g) w w' → K .normal a' w') :
    (regionOf Tryz.f200 6).wp Tryz.prog K a w := by
  unfold Kp at hK; rw [isF_of hs]; clear hs; generalize sl a = u at *; clear a; have HK := Lib.hid hK; clear hK; conv => arg 2; whnf
  simp only [isF, h0, h7]
  refine wp_region_pls (by kernel_rfl) (fun w' => UA w' g c ∧ Fr noB w w') [15, 17] (.p 0 (.p 1 (.p 2 (.p 3 (.p 4 (.p 5 (.p 6 (.p 7 (.p 8 (.p 10 (.p 11 (.p 12 (.q 9 (.q 13 (.p 14 (.e 15 (.p 16 (.e 17 (.nil))))))))))))))))))) (by kernel_rfl) (⟨h.keep ((Fr.refl noB w).drew) (fun x => x), (Fr.refl _ _).drew⟩) ?_
  intro ops Q' hO hQ' wr1 hR1
  iterate 12 (refine pl_p0 hO rfl rfl ?_ (fun w' => ?_) ?_; rotate_left 1; (focus (go_simp; ((try with_reducible rfl); done))); simp only [Act.put, List.setIfInBounds_toArray, List.set_cons_zero, List.set_cons_succ])
  iterate 2 (refine pl_q0 hO rfl rfl ?_ (fun w' hS => ?_) ?_; rotate_left 1; (focus (obtain ⟨hU, hF⟩ := hS; have g1 := hU.get hk1; have g0 := hU.get hk0; go_simp; ((try with_reducible rfl); done))); simp only [Act.put, List.setIfInBounds_toArray, List.set_cons_zero, List.set_cons_succ])
  refine pl_p0 hO rfl rfl ?_ (fun w' => ?_) ?_; rotate_left 1; (focus (go_simp; ((try with_reducible rfl); done))); simp only [Act.put, List.setIfInBounds_toArray, List.set_cons_zero, List.set_cons_succ]
  refine pl_b0 hO rfl rfl rfl (fun K hK => ?_)
  have hf1 := hR1.1.fr
  have g1 := hR1.1.get hk1
  have g0 := hR1.1.get hk0
  go_simp
  refine hK _ _ ?_
  clear hK K
  refine pl_p0 hO rfl rfl ?_ (fun w' => ?_) ?_; rotate_left 1; (focus (go_simp; ((try with_reducible rfl); done))); simp only [Act.put, List.setIfInBounds_toArray, List.set_cons_zero, List.set_cons_succ]
  refine pl_b0 hO rfl rfl rfl (fun K hK => ?_)
  have hU2 := hR1.1.set (at0 c k) hk1
  have hf2 := hU2.fr
  have g2 := hU2.get (j := k) (by rw [List.length_set]; exact hk0)
  go_simp
  refine hK _ _ ?_
  clear hK K
  refine pl_nil (hQ' _ _ ?_)
  exact HK.out _ _  ⟨rfl, rfl⟩ (Kc h0.symm (Kc rfl (Kc rfl (Kc rfl (Kc h7.symm (Kn _ _))))))  ((hR1.1.set (at0 c k) hk1).set (at0 c j) (by rw [List.length_set]; exact hk0)) (((hR1.2.of_no (oneB g)).setCell (p := ⟨g, j, none⟩) (fun _ => rfl) _).setCell (p := ⟨g, k, none⟩) (fun _ => rfl) _)
theorem isInner (g n cap i : Nat) (c0 : List Nat) (hn : c0.length = n) (hcap : n ≤ cap) (hnb : n ≤ 1000) (hi : i < n) (hs0 : Srt c0 i) (a : Act) (w : World) (K : Exit → Act → World → Prop) (hs : Sz 49 a) (h0 : sl a 0 = .slice (some ⟨g, 0, none⟩) n cap) (h1 : sl a 1 = .int .i64 0) (h7 : sl a 7 = .int .i64 (i : Int)) (hU : UA w g c0)
    (hK : ∀ a' w' c, Sz 49 a' → Kp [0, 1, 2, 6] a a' → UA w' g c → c.Perm c0 → Srt c (i + 1) → Fr (oneB g) w w' → K .normal a' w') :
    (blockOf Tryz.f200 2).wp Tryz.prog K a w := by
  have HK := Lib.hid hK
  clear hK
  conv => arg 2; whnf
  refine wp_block ?_
  refine wp_loop_sz 49 (fun a' w' => ∃ (j : Nat) (c : List Nat), j ≤ i ∧ sl a' 7 = .int .i64 (j : Int) ∧ Kp [0, 1, 2, 6] a a' ∧ UA w' g c ∧ c.Perm c0 ∧ Good c i j ∧ Fr (oneB g) w w') (fun a' _ => (intOf (sl a' 7)).toNat)
    hs ⟨i, c0, Nat.le_refl _, h7, Kp.refl _ _, hU, List.Perm.refl _, Good.start hs0, Fr.refl _ _⟩ ?_
  rintro a1 w1 hs1 ⟨j, c, hj, e7, k1, hU1, hp, hg, hf1⟩
  have hcl : c.length = n := hp.length_eq.trans hn
  refine wp_seq (wp_seq ?_)
  match j, hj, e7, hg with
  | 0, hj, e7, hg =>
    refine isR4a g n cap a1 w1 _ hs1 ((k1 0 (by decide)).trans h0) ((k1 1 (by decide)).trans h1) e7 ?_
    intro a2 w2 hs2 k2 o30 hf2
    refine wp_if o30 (fun hb => by cases hb) (fun _ => ?_)
    refine wp_exit (then_exit (then_exit (inBlock_self ?_)))
    exact HK.out a2 w2 c hs2 (fun x hx => (k2 x (by revert hx; revert x; decide)).trans (k1 x hx)) (hU1.keep hf2 (fun x => x)) hp (hg.done (Nat.zero_le _) (.inl rfl)) (hf1.none hf2)
  | k + 1, hj, e7, hg =>
    obtain ⟨j, hjk⟩ : ∃ j, k + 1 = j := ⟨_, rfl⟩
    rw [hjk] at hj e7 hg
    have q : IntKind.i64.wrap ((j : Int) - 1) = (k : Int) := (IntWalk.i64_in _ (by omega)).trans (by omega)
    have Hjk := Lib.hid hjk
    refine isR4b g n cap c j k a1 w1 _ hs1 ((k1 0 (by decide)).trans h0) ((k1 1 (by decide)).trans h1) e7 hU1 hcl (by omega) (by omega) q (by omega) (by omega) (by omega) (by omega) hcap ?_
    intro a2 w2 hs2 k2 o30 hU2 hf2
    have k12 : Kp [0, 1, 2, 6] a a2 := fun x hx => (k2 x (by revert hx; revert x; decide)).trans (k1 x hx)
    refine wp_if o30 (fun hb => ?_) (fun hb => ?_)
    · have hlt := of_decide_eq_true hb
      refine wp_skip ?_
      refine wp_seq (wp_block ?_)
      refine isR6 g n cap c j k a2 w2 _ hs2 ((k12 0 (by decide)).trans h0) ((k2 7 (by decide)).trans e7) hU2 hcl (by omega) (by omega) q (by omega) (by omega) (by omega) (by omega) hcap ?_
      intro a3 w3 hs3 k3 hU3 hf3
      refine isR5 j k a3 w3 _ hs3 ((k3 7 (by decide)).trans ((k2 7 (by decide)).trans e7)) q ?_
      intro a4 w4 hs4 k4 o7 hw; subst hw
      refine ⟨hs4, ⟨k, _, by omega, o7, fun x hx => (k4 x (by revert hx; revert x; decide)).trans ((k3 x (by revert hx; revert x; decide)).trans (k12 x hx)), hU3, ?_, ?_, (hf1.none hf2).trans hf3⟩, ?_⟩
      · exact (swap_perm c j k (by omega) (by omega)).trans hp
      · subst hjk
        exact hg.swap hj (by omega) hlt
      · rw [o7, e7]; simp only [intOf]; omega
    · have hge := of_decide_eq_false hb
      refine wp_exit (then_exit (then_exit (inBlock_self ?_)))
      refine HK.out a2 w2 c hs2 k12 hU2 hp (hg.done hj (.inr ?_)) (hf1.none hf2)
      rw [show j - 1 = k by omega]; omega
theorem insSort (g n cap : Nat) (c0 : List Nat) (w : World) (hn : c0.length = n) (hcap : n ≤ cap) (hnb : n ≤ 1000) (hU : UA w g c0) :
    Calls Tryz.prog 200 #[.slice (some ⟨g, 0, none⟩) n cap, .int .i64 0, .int .i64 (n : Int)] w fun e w' => e = .returned (.tuple #[]) ∧ UA w' g (sortN c0) ∧ Fr (oneB g) w w' := by
  go_enter Tryz.func200, Tryz.ntmps200
  refine wp_seq ?_
  refine isR0 _ w _ ⟨rfl, rfl⟩ rfl ?_
  intro a0 w0 hs0 k0 o6 hw; subst hw
  have e0 : sl a0 0 = .slice (some ⟨g, 0, none⟩) n cap := (k0 0 (by decide)).trans rfl
  have e1 : sl a0 1 = .int .i64 0 := (k0 1 (by decide)).trans rfl
  have e2 : sl a0 2 = .int .i64 (n : Int) := (k0 2 (by decide)).trans rfl
  clear k0
  refine wp_block ?_
  refine wp_loop_sz 49 (fun a' w' => ∃ (i : Nat) (c : List Nat), 1 ≤ i ∧ (i ≤ n ∨ (n = 0 ∧ i = 1)) ∧ sl a' 6 = .int .i64 (i : Int) ∧ Kp [0, 1, 2] a0 a' ∧ UA w' g c ∧ c.Perm c0 ∧ Srt c i ∧ Fr (oneB g) w0 w') (fun a' _ => n + 1 - (intOf (sl a' 6)).toNat)
    hs0 ⟨1, c0, Nat.le_refl _, by omega, o6, Kp.refl _ _, hU, List.Perm.refl _, fun p q h1 h2 => by omega, Fr.refl _ _⟩ ?_
  rintro a1 w1 hs1 ⟨i, c, hi1, hi2, e6, k1, hU1, hp, hsr, hf1⟩
  have hcl : c.length = n := hp.length_eq.trans hn
  refine wp_seq (wp_seq ?_)
  refine isR1 i n a1 w1 _ hs1 e6 ((k1 2 (by decide)).trans e2) ?_
  intro a2 w2 hs2 k2 o12 hw; subst hw
  have k12 : Kp [0, 1, 2] a0 a2 := fun x hx => (k2 x (by revert hx; revert x; decide)).trans (k1 x hx)
  refine wp_if o12 (fun hb => ?_) (fun hb => ?_)
  · have hlt := of_decide_eq_true hb
    refine wp_skip ?_
    refine wp_seq (wp_block (wp_seq ?_))
    refine isR3 i a2 w2 _ hs2 ((k2 6 (by decide)).trans e6) ?_
    intro a3 w3 hs3 k3 o7 hw; subst hw
    have k13 : Kp [0, 1, 2] a0 a3 := fun x hx => (k3 x (by revert hx; revert x; decide)).trans (k12 x hx)
    refine isInner g n cap i c hcl hcap hnb hlt hsr a3 w3 _ hs3 ((k13 0 (by decide)).trans e0) ((k13 1 (by decide)).trans e1) o7 hU1 ?_
    intro a4 w4 c4 hs4 k4 hU4 hp4 hsr4 hf4
    refine isR2 i (i + 1) a4 w4 _ hs4 ((k4 6 (by decide)).trans ((k3 6 (by decide)).trans ((k2 6 (by decide)).trans e6))) ((IntWalk.i64_in _ (by omega)).trans (by omega)) ?_
    intro a5 w5 hs5 k5 o6' hw; subst hw
    refine ⟨hs5, ⟨i + 1, c4, by omega, by omega, o6', fun x hx => (k5 x (by revert hx; revert x; decide)).trans ((k4 x (by revert hx; revert x; decide)).trans (k13 x hx)), hU4, hp4.trans hp, hsr4, hf1.trans hf4⟩, ?_⟩
    rw [o6', e6]; simp only [intOf]; omega
  · have hge := of_decide_eq_false hb
    refine wp_exit (then_exit (then_exit (inBlock_self ?_)))
    refine bodyPost_end (results_none rfl _ _ _) hs2.defers ⟨rfl, ?_, hf1⟩
    have he : sortN c0 = c := (pw_unique c (sortN c0) (srt_pw (fun p q h1 h2 => hsr p q h1 (by omega))) (sortN_pw c0) (hp.trans (sortN_perm c0).symm)).symm
    rw [he]; exact hU1
theorem insNil (w : World) : Calls Tryz.prog 200 #[.slice none 0 0, .int .i64 0, .int .i64 0] w fun e w' => e = .returned (.tuple #[]) ∧ w' = w := by
  go_enter Tryz.func200, Tryz.ntmps200
  refine wp_seq ?_
  refine isR0 _ w _ ⟨rfl, rfl⟩ rfl ?_
  intro a0 w0 hs0 k0 o6 hw; subst hw
  have e2 : sl a0 2 = .int .i64 ((0 : Nat) : Int) := (k0 2 (by decide)).trans rfl
  refine wp_block ?_
  refine wp_loop_sz 49 (fun a' w' => Kp [2, 6] a0 a' ∧ w' = w0) (fun _ _ => 0) hs0 ⟨Kp.refl _ _, rfl⟩ ?_
  rintro a1 w1 hs1 ⟨k1, hw⟩; subst hw
  refine wp_seq (wp_seq ?_)
  refine isR1 1 0 a1 w1 _ hs1 ((k1 6 (by decide)).trans o6) ((k1 2 (by decide)).trans e2) ?_
  intro a2 w2 hs2 k2 o12 hw; subst hw
  refine wp_if o12 (fun hb => by cases hb) (fun _ => ?_)
  refine wp_exit (then_exit (then_exit (inBlock_self ?_)))
  exact bodyPost_end (results_none rfl _ _ _) hs2.defers ⟨rfl, rfl⟩
def pqF (u : Nat → Value) : Act := ⟨#[u 0, u 1, u 2, u 3, u 4, u 5, u 6, u 7, u 8, u 9, u 10, u 11, u 12, u 13, u 14, u 15, u 16, u 17, u 18, u 19, u 20, u 21, u 22, u 23, u 24, u 25, u 26, u 27, u 28, u 29, u 30, u 31, u 32, u 33, u 34, u 35, u 36, u 37, u 38, u 39, u 40, u 41, u 42, u 43, u 44, u 45, u 46, u 47, u 48, u 49, u 50, u 51, u 52, u 53, u 54, u 55, u 56, u 57, u 58, u 59, u 60, u 61, u 62, u 63, u 64, u 65, u 66, u 67, u 68, u 69, u 70, u 71, u 72, u 73, u 74, u 75, u 76, u 77, u 78, u 79, u 80, u 81, u 82, u 83, u 84, u 85, u 86, u 87, u 88, u 89, u 90, u 91, u 92, u 93, u 94, u 95, u 96, u 97, u 98, u 99, u 100, u 101, u 102, u 103, u 104, u 105, u 106, u 107, u 108, u 109, u 110, u 111, u 112, u 113, u 114, u 115, u 116, u 117, u 118, u 119, u 120, u 121, u 122, u 123, u 124, u 125, u 126, u 127, u 128, u 129, u 130, u 131, u 132, u 133], []⟩
set_option maxRecDepth 100000 in
theorem pqF_eq (u : Nat → Value) : pqF u = frN 134 u := rfl
theorem pqF_of {a : Act} (h : Sz 134 a) : a = pqF (sl a) := h.eq.trans (pqF_eq _).symm
theorem pqR0  (a : Act) (w : World) (K : Exit → Act → World → Prop) (hs : Sz 134 a)
     
    (hK : ∀ a' w', Sz 134 a' → Kp [0, 1, 2, 3] a a' → w' = w → K .normal a' w') :
    (regionOf Tryz.f167 0).wp Tryz.prog K a w := by
  unfold Kp at hK; rw [pqF_of hs]; clear hs; generalize sl a = u at *; clear a; have HK := Lib.hid hK; clear hK; conv => arg 2; whnf
  simp only [pqF]
  go_wp2_with fail
  exact HK.out _ _  ⟨rfl, rfl⟩ (Kc rfl (Kc rfl (Kc rfl (Kc rfl (Kn _ _)))))  rfl
theorem pqR1  (a : Act) (w : World) (K : Exit → Act → World → Prop) (hs : Sz 134 a)
     
    (hK : ∀ a' w', Sz 134 a' → Kp [0, 1, 2, 3] a a' → w' = w → K .normal a' w') :
    (regionOf Tryz.f167 1).wp Tryz.prog K a w := by
  unfold Kp at hK; rw [pqF_of hs]; clear hs; generalize sl a = u at *; clear a; have HK := Lib.hid hK; clear hK; conv => arg 2; whnf
  simp only [pqF]
  go_wp2_with fail
  exact HK.out _ _  ⟨rfl, rfl⟩ (Kc rfl (Kc rfl (Kc rfl (Kc rfl (Kn _ _)))))  rfl
theorem pqR2 (n : Nat) (a : Act) (w : World) (K : Exit → Act → World → Prop) (hs : Sz 134 a)
    (h1 : sl a 1 = .int .i64 0) (h2 : sl a 2 = .int .i64 (n : Int)) (hn : n ≤ 12)
    (hK : ∀ a' w', Sz 134 a' → Kp [0, 1, 2, 3] a a' → sl a' 10 = .int .i64 (n : Int) → w' = w → K .normal a' w') :
    (regionOf Tryz.f167 2).wp Tryz.prog K a w := by
  unfold Kp at hK; rw [pqF_of hs]; clear hs; generalize sl a = u at *; clear a; have HK := Lib.hid hK; clear hK; conv => arg 2; whnf
  simp only [pqF, h1, h2]
  go_wp2_with fail
  exact HK.out _ _  ⟨rfl, rfl⟩ (Kc rfl (Kc h1.symm (Kc h2.symm (Kc rfl (Kn _ _))))) (rfl) rfl
theorem pqR3 (n : Nat) (a : Act) (w : World) (K : Exit → Act → World → Prop) (hs : Sz 134 a)
    (h10 : sl a 10 = .int .i64 (n : Int)) (hn : (n : Int) ≤ 12)
    (hK : ∀ a' w', Sz 134 a' → Kp [0, 1, 2, 3] a a' → sl a' 23 = .bool true → w' = w → K .normal a' w') :
    (regionOf Tryz.f167 3).wp Tryz.prog K a w := by
  unfold Kp at hK; rw [pqF_of hs]; clear hs; generalize sl a = u at *; clear a; have HK := Lib.hid hK; clear hK; conv => arg 2; whnf
  simp only [pqF, h10]
  go_wp2_with fail
  exact HK.out _ _  ⟨rfl, rfl⟩ (Kc rfl (Kc rfl (Kc rfl (Kc rfl (Kn _ _))))) (rfl) rfl
theorem pqR4 (g n cap : Nat) (c0 : List Nat) (a : Act) (w : World) (K : Exit → Act → World → Prop) (hs : Sz 134 a)
    (h0 : sl a 0 = .slice (some ⟨g, 0, none⟩) n cap) (h1 : sl a 1 = .int .i64 0) (h2 : sl a 2 = .int .i64 (n : Int)) (hn : c0.length = n) (hcap : n ≤ cap) (hnb : n ≤ 12) (hU : UA w g c0)
    (hK : ∀ a' w', Sz 134 a' → Kp [0, 1, 2, 3] a a' → UA w' g (sortN c0) → Fr (oneB g) w w' → K .normal a' w') :
    (regionOf Tryz.f167 4).wp Tryz.prog K a w := by
  unfold Kp at hK; rw [pqF_of hs]; clear hs; generalize sl a = u at *; clear a; have HK := Lib.hid hK; clear hK; conv => arg 2; whnf
  simp only [pqF, h0, h1, h2]
  go_wp2_with fail
  refine (insSort g n cap c0 _ hn hcap (by omega) hU).mono ?_
  rintro e w2 ⟨rfl, hU2, hf2⟩
  go_wp2_with fail
  exact HK.out _ _  ⟨rfl, rfl⟩ (Kc h0.symm (Kc h1.symm (Kc h2.symm (Kc rfl (Kn _ _)))))  hU2 hf2
theorem pqR4n  (a : Act) (w : World) (K : Exit → Act → World → Prop) (hs : Sz 134 a)
    (h0 : sl a 0 = .slice none 0 0) (h1 : sl a 1 = .int .i64 0) (h2 : sl a 2 = .int .i64 ((0 : Nat) : Int)) 
    (hK : ∀ a' w', Sz 134 a' → Kp [0, 1, 2, 3] a a' → w' = w → K .normal a' w') :
    (regionOf Tryz.f167 4).wp Tryz.prog K a w := by
  unfold Kp at hK; rw [pqF_of hs]; clear hs; generalize sl a = u at *; clear a; have HK := Lib.hid hK; clear hK; conv => arg 2; whnf
  simp only [pqF, h0, h1, h2]
  go_wp2_with fail
  refine (insNil _).mono ?_
  rintro e w2 ⟨rfl, rfl⟩
  go_wp2_with fail
  exact HK.out _ _  ⟨rfl, rfl⟩ (Kc h0.symm (Kc h1.symm (Kc h2.symm (Kc rfl (Kn _ _)))))  rfl
theorem pdqSort (g n cap : Nat) (lim : Int) (c0 : List Nat) (w : World) (hn : c0.length = n) (hcap : n ≤ cap) (hnb : n ≤ 12) (hU : UA w g c0) :
    Calls Tryz.prog 167 #[.slice (some ⟨g, 0, none⟩) n cap, .int .i64 0, .int .i64 (n : Int), .int .i64 lim] w fun e w' => e = .returned (.tuple #[]) ∧ UA w' g (sortN c0) ∧ Fr (oneB g) w w' := by
  go_enter Tryz.func167, Tryz.ntmps167
  refine wp_seq ?_
  refine pqR0 _ w _ ⟨rfl, rfl⟩ ?_
  intro a0 w0 hs0 k0 hw; subst hw
  have e0 : sl a0 0 = .slice (some ⟨g, 0, none⟩) n cap := (k0 0 (by decide)).trans rfl
  have e1 : sl a0 1 = .int .i64 0 := (k0 1 (by decide)).trans rfl
  have e2 : sl a0 2 = .int .i64 (n : Int) := (k0 2 (by decide)).trans rfl
  clear k0
  refine wp_seq ?_
  refine pqR1 a0 w0 _ hs0 ?_
  intro a1 w1 hs1 k1 hw; subst hw
  refine wp_block ?_
  refine wp_loop_sz 134 (fun a' w' => Kp [0, 1, 2] a1 a' ∧ w' = w1) (fun _ _ => 0) hs1 ⟨Kp.refl _ _, rfl⟩ ?_
  rintro a2 w2 hs2 ⟨k2, hw⟩; subst hw
  have z0 := (k2 0 (by decide)).trans ((k1 0 (by decide)).trans e0)
  have z1 := (k2 1 (by decide)).trans ((k1 1 (by decide)).trans e1)
  have z2 := (k2 2 (by decide)).trans ((k1 2 (by decide)).trans e2)
  refine wp_block (wp_seq ?_)
  refine pqR2 n a2 w2 _ hs2 z1 z2 hnb ?_
  intro a3 w3 hs3 k3 o10 hw; subst hw
  refine wp_seq (wp_seq ?_)
  refine pqR3 n a3 w3 _ hs3 o10 (by omega) ?_
  intro a4 w4 hs4 k4 o23 hw; subst hw
  refine wp_if o23 (fun _ => ?_) (fun hb => by cases hb)
  refine wp_seq ?_
  refine pqR4 g n cap c0 a4 w4 _ hs4 ((k4 0 (by decide)).trans ((k3 0 (by decide)).trans z0)) ((k4 1 (by decide)).trans ((k3 1 (by decide)).trans z1)) ((k4 2 (by decide)).trans ((k3 2 (by decide)).trans z2)) hn hcap hnb hU ?_
  intro a5 w5 hs5 k5 hU5 hf5
  refine wp_ret ?_
  exact bodyPost_ret (P := Tryz.prog) (fn := Tryz.f167) (R := fun e w' => e = .returned (.tuple #[]) ∧ UA w' g (sortN c0) ∧ Fr (oneB g) w4 w') (results_none rfl _ _ _) hs5.defers ⟨rfl, hU5, hf5⟩
theorem slicesSort (g n cap : Nat) (c0 : List Nat) (w : World) (hn : c0.length = n) (hcap : n ≤ cap) (hnb : n ≤ 12) (hU : UA w g c0) :
    Calls Tryz.prog 132 #[.slice (some ⟨g, 0, none⟩) n cap] w fun e w' => e = .returned (.tuple #[]) ∧ UA w' g (sortN c0) ∧ Fr (oneB g) w w' := by
  go_enter Tryz.func132, Tryz.ntmps132
  go_wp2_with fail
  refine (Tryz.bits_Len _ _ (by omega) (by omega)).mono ?_
  rintro e w2 ⟨rfl, rfl⟩
  go_wp2_with fail
  refine (pdqSort g n cap _ c0 _ hn hcap hnb hU).mono ?_
  rintro e w3 ⟨rfl, hU3, hf3⟩
  go_wp2_with fail
  refine bodyPost_end (results_none rfl _ _ _) rfl ?_
  exact ⟨rfl, hU3, hf3⟩
theorem pdqNil (lim : Int) (w : World) :
    Calls Tryz.prog 167 #[.slice none 0 0, .int .i64 0, .int .i64 0, .int .i64 lim] w fun e w' => e = .returned (.tuple #[]) ∧ w' = w := by
  go_enter Tryz.func167, Tryz.ntmps167
  refine wp_seq ?_
  refine pqR0 _ w _ ⟨rfl, rfl⟩ ?_
  intro a0 w0 hs0 k0 hw; subst hw
  have e0 : sl a0 0 = .slice none 0 0 := (k0 0 (by decide)).trans rfl
  have e1 : sl a0 1 = .int .i64 0 := (k0 1 (by decide)).trans rfl
  have e2 : sl a0 2 = .int .i64 ((0 : Nat) : Int) := (k0 2 (by decide)).trans rfl
  clear k0
  refine wp_seq ?_
  refine pqR1 a0 w0 _ hs0 ?_
  intro a1 w1 hs1 k1 hw; subst hw
  refine wp_block ?_
  refine wp_loop_sz 134 (fun a' w' => Kp [0, 1, 2] a1 a' ∧ w' = w1) (fun _ _ => 0) hs1 ⟨Kp.refl _ _, rfl⟩ ?_
  rintro a2 w2 hs2 ⟨k2, hw⟩; subst hw
  have z0 := (k2 0 (by decide)).trans ((k1 0 (by decide)).trans e0)
  have z1 := (k2 1 (by decide)).trans ((k1 1 (by decide)).trans e1)
  have z2 := (k2 2 (by decide)).trans ((k1 2 (by decide)).trans e2)
  refine wp_block (wp_seq ?_)
  refine pqR2 0 a2 w2 _ hs2 z1 z2 (by omega) ?_
  intro a3 w3 hs3 k3 o10 hw; subst hw
  refine wp_seq (wp_seq ?_)
  refine pqR3 0 a3 w3 _ hs3 o10 (by omega) ?_
  intro a4 w4 hs4 k4 o23 hw; subst hw
  refine wp_if o23 (fun _ => ?_) (fun hb => by cases hb)
  refine wp_seq ?_
  refine pqR4n a4 w4 _ hs4 ((k4 0 (by decide)).trans ((k3 0 (by decide)).trans z0)) ((k4 1 (by decide)).trans ((k3 1 (by decide)).trans z1)) ((k4 2 (by decide)).trans ((k3 2 (by decide)).trans z2)) ?_
  intro a5 w5 hs5 k5 hw; subst hw
  refine wp_ret ?_
  exact bodyPost_ret (P := Tryz.prog) (fn := Tryz.f167) (R := fun e w' => e = .returned (.tuple #[]) ∧ w' = w5) (results_none rfl _ _ _) hs5.defers ⟨rfl, rfl⟩
theorem sortNil (w : World) :
    Calls Tryz.prog 132 #[.slice none 0 0] w fun e w' => e = .returned (.tuple #[]) ∧ w' = w := by
  go_enter Tryz.func132, Tryz.ntmps132
  go_wp2_with fail
  refine (Tryz.bits_Len 0 _ (by omega) (by omega)).mono ?_
  rintro e w2 ⟨rfl, rfl⟩
  go_wp2_with fail
  refine (pdqNil _ _).mono ?_
  rintro e w3 ⟨rfl, rfl⟩
  go_wp2_with fail
  refine bodyPost_end (results_none rfl _ _ _) rfl ?_
  exact ⟨rfl, rfl⟩
theorem keysSorted (Bm b : Nat) (l : List EntD) (w : World) (hBm : w.cell? ⟨Bm, 0, none⟩ = some (.map (some b))) (hBl : Bm < w.heap.size) (hm : MapAt w b l) (hl : l.length ≤ 4) :
    Calls Tryz.prog 86 #[.func (.func 133) #[] #[.pointer (some ⟨Bm, 0, none⟩)]] w fun e w' =>
      ∃ A cap, e = .returned (.slice A l.length cap) ∧ SlR w' (fun k => k < w.heap.size) 1 A l.length ((sortN (l.map (·.ip))).map encU) ∧ Fr noB w w' := by
  obtain ⟨D, hown, hrep⟩ := hm
  have hsz : Maps.size D ≤ 4 := by rw [hrep.size]; exact hl
  have hseq : SeqGives Fence.wide 1 Tryz.prog 133 #[.pointer (some ⟨Bm, 0, none⟩)] encU (fun ss => ss.Perm (l.map (·.ip))) (Maps.size D) w :=
    kskeys_gives Fence.wide 1 trivial rfl (by omega) Bm b _ D l hrep w hBl hBm hown
  have hcol := callsIn_wide.1 (kscollect_in Fence.wide 3 trivial trivial rfl (by omega) 133 #[.pointer (some ⟨Bm, 0, none⟩)] trivial (enters_of Tryz.func133 (by kernel_rfl) rfl) _ (Maps.size D) (by unfold maxLen; omega) (by omega) w hseq)
  have Hcol := Lib.hid hcol
  clear hcol hseq
  go_enter Tryz.func86, Tryz.ntmps86
  go_wp2_with fail
  refine Hcol.out.mono ?_
  rintro e w2 ⟨v, ss, rfl, hp, hrow, hnil, hbel⟩
  have hlen : ss.length = l.length := hp.length_eq.trans (List.length_map ..)
  have hF2 : Fr noB w w2 := ⟨hbel.os, hbel.tape, hbel.output, hbel.size, fun k hk _ => hbel.block k hk⟩
  have hso : sortN ss = sortN (l.map (·.ip)) := pw_unique _ _ (sortN_pw _) (sortN_pw _) ((sortN_perm _).trans (hp.trans (sortN_perm _).symm))
  rcases hrow.2 with ⟨hv, h0⟩ | ⟨g, cap, cur, hv, hbg, hgb, hr1, hr2, hr3, hr4⟩
  · subst hv
    go_wp2_with fail
    refine (sortNil _).mono ?_
    rintro e w3 ⟨rfl, rfl⟩
    go_wp2_with fail
    go_ret
    have hl0 : l = [] := List.eq_nil_of_length_eq_zero (by omega)
    subst hl0
    exact ⟨none, 0, rfl, SlR.nil, hF2⟩
  · subst hv
    have hUA : UA w2 g ss := ⟨cur, hgb, by omega, fun j x hx => by
      have hj : j < ss.length := by rcases Nat.lt_or_ge j ss.length with h | h; exact h; rw [List.getElem?_eq_none h] at hx; cases hx
      have h1 := congrArg (fun z => z[j]?) hr4
      simp only [Nat.mul_one, List.getElem?_take, List.getElem?_map, hx, Option.map_some] at h1
      rw [if_pos hj] at h1
      rw [← h1, Array.getElem?_toList]⟩
    have hn := hlen
    rw [hn] at hr1
    have hcall := slicesSort g l.length cap ss w2 hn hr1 (by omega) hUA
    have Hcall := Lib.hid hcall
    clear hcall hr2 hr3 hr4 hgb hrow hnil hbel
    go_wp2_with fail
    refine Hcall.out.mono ?_
    rintro e w3 ⟨rfl, hU3, hf3⟩
    go_wp2_with fail
    go_ret
    have hsl : (sortN ss).length = ss.length := (sortN_perm ss).length_eq
    refine ⟨some ⟨g, 0, none⟩, cap, rfl, ⟨?_, fun _ => ⟨_, rfl, hU3.lt, fun hx => by have : g < w.heap.size := hx; omega, fun j u hu => ?_⟩⟩, hF2.trans' hf3 (fun b hb e => by have e' : b = g := e; omega)⟩
    · rw [List.length_map, ← hso, hsl, hn, Nat.mul_one]
    · rw [List.getElem?_map, ← hso] at hu
      rw [addr_add, Nat.zero_add]
      cases hz : (sortN ss)[j]? with
      | none => rw [hz] at hu; cases hu
      | some z =>
        rw [hz] at hu
        cases hu
        obtain ⟨c3, q1, q2, q3⟩ := hU3
        exact (q1.cell j).trans (q3 j z hz)
end Go.Proofs.YtcbkaiakdhiloabGreatDoor
