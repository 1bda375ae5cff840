/- Parts of the walk; written by programs, merged. -/
import Derived.Test.YtcbkaiakdhiloabGreatDoorMaa
import Derived.Test.YtcbkaiakdhiloabGreatDoorMad
import Derived.Test.YtcbkaiakdhiloabGreatDoorProg
import Derived.Test.YtcbkaiakdhiloabGreatDoorShelf
import Derived.WalkKit
import Derived.WalkLawsBesides
import Derived.WalkSpells
import Derived.Deep.AppendLies
import Derived.Deep.DrawnRows
import Derived.Maps.AppendAt
import Derived.StillTailTactics
import Derived.Lib.Hide
import Derived.Lib.AppendStr
import Derived.Lib.Strings
import Derived.Laws.MakeOwn
import Derived.Laws.OwnMore
import Derived.Laws.BitsAllLaws
import Derived.OrdersHeld
import Derived.Deep.RegionHeld3
import Derived.Orders
import Derived.Deep.MidRow
import Derived.Deep.QuietTactic
import Derived.BigQuiet
import Derived.Deep.Cut
import Derived.Deep.CutRange
import Derived.Lib.MapLaws
import Derived.Lib.TrimAscii
set_option linter.unusedSimpArgs false
set_option linter.unusedVariables false
namespace Go.Proofs.YtcbkaiakdhiloabGreatDoor
open Go.RowKit Go.Proofs
inductive Pl
  | nil
  | p (k : Nat) (t : Pl)
  | q (k : Nat) (t : Pl)
  | e (k : Nat) (t : Pl)
  | e2 (k : Nat) (t : Pl) (k' : Nat) (t' : Pl)
  | e3 (k : Nat) (t : Pl) (k' : Nat) (t' : Pl) (k'' : Nat) (t'' : Pl)
section
variable {P : Program} {ops : Array Oper} {Q : Exit → Act → World → Prop} {S : World → Prop} {brk : List Nat}
def ancB (ops : Array Oper) : Nat → Nat → Nat → Bool
  | 0, _, _ => false
  | n + 1, i, j => match ops[j]? with
    | some o => o.after.any fun e => Region.binds .any e && (e.on == i || ancB ops n i e.on)
    | none => false
def ClosedL (ops : Array Oper) (L : Array Bool) : Prop := ∀ j o, ops[j]? = some o → L.getD j false = true → ∀ e ∈ o.after, Region.binds .any e = true → L.getD e.on false = true
theorem ClosedL.set {L : Array Bool} {i : Nat} (h : ClosedL ops L) (hi : i ∈ Region.ready .any ops L) : ClosedL ops (L.setIfInBounds i true) := by
  obtain ⟨_, oi, hoi, hall⟩ := mem_ready.1 hi
  intro j oj hj hl e he hb
  by_cases hij : i = j
  · subst hij
    have : oj = oi := Option.some.inj (hj.symm.trans hoi)
    subst this
    exact getD_set_true (hall e he hb)
  · rw [getD_set_ne false hij] at hl
    exact getD_set_true (h j oj hj hl e he hb)
theorem anc_done {L : Array Bool} (h : ClosedL ops L) : ∀ (n i j : Nat), ancB ops n i j = true → (∀ o, ops[j]? = some o → ∀ e ∈ o.after, Region.binds .any e = true → L.getD e.on false = true) → L.getD i false = true := by
  intro n
  induction n with
  | zero => intro i j h0; cases h0
  | succ n ih =>
    intro i j hn hd
    unfold ancB at hn
    cases ho : ops[j]? with
    | none => rw [ho] at hn; cases hn
    | some o =>
      rw [ho] at hn
      obtain ⟨e, he, hb⟩ := Array.any_eq_true'.1 hn
      simp only [Bool.and_eq_true, Bool.or_eq_true, beq_iff_eq] at hb
      have h1 := hd o ho e he hb.1
      rcases hb.2 with h2 | h2
      · rw [← h2]; exact h1
      · exact ih i e.on h2 (fun o' ho' e' he' hb' => h e.on o' ho' h1 e' he' hb')
def calm (brk : List Nat) (L : Array Bool) : Bool := brk.all fun b => !(L.getD b false)
theorem calm_of {L : Array Bool} {i n : Nat} (h : ClosedL ops L) (ha : brk.all (fun b => ancB ops n i b) = true) (hi : L.getD i false = false) : calm brk L = true := by
  unfold calm
  rw [List.all_eq_true]
  intro b hb
  cases hl : L.getD b false with
  | false => rfl
  | true =>
    have h1 := anc_done h n i b (List.all_eq_true.1 ha b hb) (fun o ho e he hbe => h b o ho hl e he hbe)
    rw [hi] at h1; cases h1
def wpAnyC (P : Program) (ops : Array Oper) (Q : Exit → Act → World → Prop) (S : World → Prop) (brk : List Nat) : Nat → Array Bool → Act → World → Prop
  | 0, listed, a, w => Region.ready .any ops listed = [] ∧ Q .normal a w
  | fuel + 1, listed, a, w =>
    (Region.ready .any ops listed = [] → Q .normal a w) ∧
    ∀ i ∈ Region.ready .any ops listed, wpOp P ops Q i (fun a' w' => (calm brk (listed.setIfInBounds i true) = true → S w') ∧ wpAnyC P ops Q S brk fuel (listed.setIfInBounds i true) a' w') a w
theorem wpAny_of_C : ∀ (fuel : Nat) (listed : Array Bool) (a : Act) (w : World), wpAnyC P ops Q S brk fuel listed a w → wpAny P .any ops Q fuel listed a w
  | 0, _, _, _, h => h
  | fuel + 1, _, _, _, h => ⟨h.1, fun i hi => wpOp_mono (fun a' w' h' => wpAny_of_C fuel _ a' w' h'.2) (h.2 i hi)⟩
theorem getD_undone {L : Array Bool} {i : Nat} (h : L.getD i true = false) : L.getD i false = false := by
  rcases Nat.lt_or_ge i L.size with h' | h'
  · simp [h'] at h ⊢; exact h
  · simp [Array.getElem?_eq_none h'] at h
theorem wpAnyC_first {T : World → Prop} {i : Nat} {oi : Oper} {v : Value} (hi : ops[i]? = some oi) (hsel : ∀ (j : Nat) (o : Oper) cs b, ops[j]? = some o → o.op ≠ .select cs b)
    (hQ : ∀ c a w, Q (.panic c) (a.put oi.dst v) w → Q (.panic c) a w) (hib : brk.contains i = false)
    (hT : ∀ L, ClosedL ops L → L.getD i false = false → ∀ w', (calm brk L = true → S w') → T w') :
    ∀ (fuel : Nat) (listed : Array Bool) (a : Act) (w : World), ClosedL ops listed →
      (∀ j oj, ops[j]? = some oj → j ≠ i → listed.getD j true = false → (∀ e ∈ oj.after, Region.binds .any e = true → e.on ≠ i) → oi.apart ops oj = true) →
      i ∈ Region.ready .any ops listed → YieldsIf P ops T oi v a → (calm brk listed = true → S w) →
      wpAnyC P ops Q S brk fuel (listed.setIfInBounds i true) (a.put oi.dst v) w → wpAnyC P ops Q S brk (fuel + 1) listed a w := by
  have hcalm : ∀ L : Array Bool, calm brk (L.setIfInBounds i true) = calm brk L := by
    intro L
    unfold calm
    rw [Bool.eq_iff_iff, List.all_eq_true, List.all_eq_true]
    constructor
    · intro h b hb
      have hne : i ≠ b := by rintro rfl; simp at hib; exact hib hb
      have := h b hb
      rwa [getD_set_ne false hne] at this
    · intro h b hb
      have hne : i ≠ b := by rintro rfl; simp at hib; exact hib hb
      rw [getD_set_ne false hne]
      exact h b hb
  intro fuel
  induction fuel with
  | zero =>
    intro listed a w hcl _ hr hy hS H
    have hTw := hT listed hcl (getD_undone (mem_ready.1 hr).1) w hS
    refine ⟨fun h => (by rw [h] at hr; cases hr), fun j hj => ?_⟩
    by_cases hji : j = i
    · subst hji; exact hy.wpOp hi hTw ⟨fun h => hS (by rwa [hcalm] at h), H⟩
    · have := ready_mono hj hji
      rw [H.1] at this
      cases this
  | succ fuel ih =>
    intro listed a w hcl hfree hr hy hS H
    have hTw := hT listed hcl (getD_undone (mem_ready.1 hr).1) w hS
    refine ⟨fun h => (by rw [h] at hr; cases hr), fun j hj => ?_⟩
    by_cases hji : j = i
    · subst hji; exact hy.wpOp hi hTw ⟨fun h => hS (by rwa [hcalm] at h), H⟩
    · have h1 := H.2 j (ready_mono hj hji)
      obtain ⟨hjun, oj, hoj, hall⟩ := mem_ready.1 hj
      have hnot : ∀ e ∈ oj.after, Region.binds .any e = true → e.on ≠ i := fun e he hb heq => by
        have h1 := hall e he hb
        have h0 := (mem_ready.1 hr).1
        rw [heq, getD_undone h0] at h1
        cases h1
      have h2 := wpOp_putIf hoj (hfree j oj hoj hji hjun hnot) (fun cs b => hsel i oi cs b hi) (fun cs b => hsel j oj cs b hoj) hQ hy h1
      have hfree' : ∀ k ok, ops[k]? = some ok → k ≠ i → (listed.setIfInBounds j true).getD k true = false →
          (∀ e ∈ ok.after, Region.binds .any e = true → e.on ≠ i) → oi.apart ops ok = true := fun k ok hk hki hun hno => by
        refine hfree k ok hk hki ?_ hno
        by_cases hjk : j = k
        · subst hjk; exact hjun
        · rw [getD_set_ne true hjk] at hun; exact hun
      refine wpOp_mono (fun a' w' h3 => ?_) h2
      have hS' : calm brk (listed.setIfInBounds j true) = true → S w' := fun hc => h3.2.1 (by
        rw [Array.setIfInBounds_comm _ _ (fun x => hji x.symm), hcalm]; exact hc)
      refine ⟨hS', ih (listed.setIfInBounds j true) a' w' (hcl.set hj) hfree' (ready_mono hr (Ne.symm hji)) h3.1 hS' ?_⟩
      rw [Array.setIfInBounds_comm _ _ hji]
      exact h3.2.2
def plB (ops : Array Oper) (brk : List Nat) : Pl → Nat → Array Bool → Bool
  | .nil, f, L => (Region.ready .any ops L).isEmpty && f == 0
  | .p k t, f, L => match f with
    | 0 => false
    | f + 1 => (ops[k]?).isSome && !(brk.contains k) && Region.free .any ops L k && (Region.ready .any ops L).contains k && plB ops brk t f (L.setIfInBounds k true)
  | .q k t, f, L => match f with
    | 0 => false
    | f + 1 => (ops[k]?).isSome && !(brk.contains k) && brk.all (fun b => ancB ops ops.size k b) && Region.free .any ops L k && (Region.ready .any ops L).contains k && plB ops brk t f (L.setIfInBounds k true)
  | .e k t, f, L => match f with
    | 0 => false
    | f + 1 => decide (Region.ready .any ops L = [k]) && plB ops brk t f (L.setIfInBounds k true)
  | .e2 k t k' t', f, L => match f with
    | 0 => false
    | f + 1 => decide (Region.ready .any ops L = [k, k']) && plB ops brk t f (L.setIfInBounds k true) && plB ops brk t' f (L.setIfInBounds k' true)
  | .e3 k t k' t' k'' t'', f, L => match f with
    | 0 => false
    | f + 1 => decide (Region.ready .any ops L = [k, k', k'']) && plB ops brk t f (L.setIfInBounds k true) && plB ops brk t' f (L.setIfInBounds k' true) && plB ops brk t'' f (L.setIfInBounds k'' true)
def wpPl (P : Program) (ops : Array Oper) (Q : Exit → Act → World → Prop) (S : World → Prop) (brk : List Nat) : Bool → Pl → Act → World → Prop
  | _, .nil, a, w => Q .normal a w
  | c, .p k t, a, w => ∃ o v, ops[k]? = some o ∧ YieldsIf P ops (fun _ => True) o v a ∧ wpPl P ops Q S brk c t (a.put o.dst v) w
  | c, .q k t, a, w => ∃ o v, ops[k]? = some o ∧ YieldsIf P ops S o v a ∧ wpPl P ops Q S brk c t (a.put o.dst v) w
  | c, .e k t, a, w => wpOp P ops Q k (fun a' w' => ((c && !(brk.contains k)) = true → S w') ∧ wpPl P ops Q S brk (c && !(brk.contains k)) t a' w') a w
  | c, .e2 k t k' t', a, w => wpOp P ops Q k (fun a' w' => ((c && !(brk.contains k)) = true → S w') ∧ wpPl P ops Q S brk (c && !(brk.contains k)) t a' w') a w ∧
      wpOp P ops Q k' (fun a' w' => ((c && !(brk.contains k')) = true → S w') ∧ wpPl P ops Q S brk (c && !(brk.contains k')) t' a' w') a w
  | c, .e3 k t k' t' k'' t'', a, w => wpOp P ops Q k (fun a' w' => ((c && !(brk.contains k)) = true → S w') ∧ wpPl P ops Q S brk (c && !(brk.contains k)) t a' w') a w ∧
      wpOp P ops Q k' (fun a' w' => ((c && !(brk.contains k')) = true → S w') ∧ wpPl P ops Q S brk (c && !(brk.contains k')) t' a' w') a w ∧
      wpOp P ops Q k'' (fun a' w' => ((c && !(brk.contains k'')) = true → S w') ∧ wpPl P ops Q S brk (c && !(brk.contains k'')) t'' a' w') a w
theorem calm_set {L : Array Bool} {k : Nat} {c : Bool} (hk : k < L.size) (h : calm brk L = c) : calm brk (L.setIfInBounds k true) = (c && !(brk.contains k)) := by
  unfold calm at h ⊢
  subst h
  rw [Bool.eq_iff_iff, List.all_eq_true, Bool.and_eq_true, List.all_eq_true]
  constructor
  · intro h
    refine ⟨fun b hb => ?_, ?_⟩
    · have h1 := h b hb
      by_cases hkb : k = b
      · subst hkb; simp [hk] at h1
      · rwa [getD_set_ne false hkb] at h1
    · rw [Bool.not_eq_true']
      cases hc : brk.contains k with
      | false => rfl
      | true =>
        have h1 := h k (by simpa using hc)
        simp [hk] at h1
  · rintro ⟨h1, h2⟩ b hb
    have hne : k ≠ b := by
      rintro rfl
      rw [Bool.not_eq_true'] at h2
      simp at h2; exact h2 hb
    rw [getD_set_ne false hne]
    exact h1 b hb
theorem ready_lt {L : Array Bool} {k : Nat} (h : k ∈ Region.ready .any ops L) : k < L.size := by
  have h0 := (mem_ready.1 h).1
  rcases Nat.lt_or_ge k L.size with h' | h'
  · exact h'
  · simp [Array.getElem?_eq_none h'] at h0
theorem wpPl_sound (hs : Region.noSelect ops = true) (hQ : ∀ c a w (d : Option Tmp) v, Q (.panic c) (a.put d v) w → Q (.panic c) a w) : ∀ (t : Pl) (f : Nat) (L : Array Bool) (c : Bool) (a : Act) (w : World), plB ops brk t f L = true → ClosedL ops L → calm brk L = c → (c = true → S w) →
    wpPl P ops Q S brk c t a w → wpAnyC P ops Q S brk f L a w := by
  intro t
  induction t with
  | nil =>
    intro f L c a w hB hcl hcm hS h
    simp only [plB, Bool.and_eq_true, List.isEmpty_iff, beq_iff_eq] at hB
    obtain ⟨h1, rfl⟩ := hB
    exact ⟨h1, h⟩
  | p k t ih =>
    intro f L c a w hB hcl hcm hS h
    rcases f with _ | f
    · cases hB
    simp only [plB, Bool.and_eq_true, Bool.not_eq_true'] at hB
    obtain ⟨⟨⟨⟨h1, h2⟩, h3⟩, h4⟩, h5⟩ := hB
    obtain ⟨o, v, ho, hy, hr⟩ := h
    have hk : k ∈ Region.ready .any ops L := by simpa using h4
    have hcs : calm brk (L.setIfInBounds k true) = c := by rw [calm_set (ready_lt hk) hcm, h2]; simp
    exact wpAnyC_first (T := fun _ => True) ho (Region.noSelect_spec hs) (fun c a w => hQ c a w _ _) h2 (fun _ _ _ _ _ => trivial) f L a w hcl (Region.free_spec ho h3) hk hy (fun hc => hS (by rw [← hcm, hc]))
      (ih f _ c _ w h5 (hcl.set hk) hcs hS hr)
  | q k t ih =>
    intro f L c a w hB hcl hcm hS h
    rcases f with _ | f
    · cases hB
    simp only [plB, Bool.and_eq_true, Bool.not_eq_true'] at hB
    obtain ⟨⟨⟨⟨⟨h1, h2⟩, h6⟩, h3⟩, h4⟩, h5⟩ := hB
    obtain ⟨o, v, ho, hy, hr⟩ := h
    have hk : k ∈ Region.ready .any ops L := by simpa using h4
    have hcs : calm brk (L.setIfInBounds k true) = c := by rw [calm_set (ready_lt hk) hcm, h2]; simp
    exact wpAnyC_first (T := S) ho (Region.noSelect_spec hs) (fun c a w => hQ c a w _ _) h2 (fun L' hL' hun w' hS' => hS' (calm_of hL' h6 hun)) f L a w hcl (Region.free_spec ho h3) hk hy (fun hc => hS (by rw [← hcm, hc]))
      (ih f _ c _ w h5 (hcl.set hk) hcs hS hr)
  | e k t ih =>
    intro f L c a w hB hcl hcm hS h
    rcases f with _ | f
    · cases hB
    simp only [plB, Bool.and_eq_true, decide_eq_true_eq] at hB
    refine ⟨fun h0 => (by rw [hB.1] at h0; cases h0), fun i hi => ?_⟩
    have hi0 := hi
    rw [hB.1] at hi
    obtain rfl : i = k := by simpa using hi
    have hcs := calm_set (brk := brk) (ready_lt hi0) hcm
    exact wpOp_mono (fun a' w' h' => ⟨fun hc => h'.1 (by rw [← hcs]; exact hc), ih f _ _ a' w' hB.2 (hcl.set hi0) hcs h'.1 h'.2⟩) h
  | e2 k t k' t' ih ih' =>
    intro f L c a w hB hcl hcm hS h
    rcases f with _ | f
    · cases hB
    simp only [plB, Bool.and_eq_true, decide_eq_true_eq] at hB
    refine ⟨fun h0 => (by rw [hB.1.1] at h0; cases h0), fun i hi => ?_⟩
    have hi0 := hi
    rw [hB.1.1] at hi
    have hcs := calm_set (brk := brk) (ready_lt hi0) hcm
    simp only [List.mem_cons, List.not_mem_nil, or_false] at hi
    rcases hi with rfl | rfl
    · exact wpOp_mono (fun a' w' h' => ⟨fun hc => h'.1 (by rw [← hcs]; exact hc), ih f _ _ a' w' hB.1.2 (hcl.set hi0) hcs h'.1 h'.2⟩) h.1
    · exact wpOp_mono (fun a' w' h' => ⟨fun hc => h'.1 (by rw [← hcs]; exact hc), ih' f _ _ a' w' hB.2 (hcl.set hi0) hcs h'.1 h'.2⟩) h.2
  | e3 k t k' t' k'' t'' ih ih' ih'' =>
    intro f L c a w hB hcl hcm hS h
    rcases f with _ | f
    · cases hB
    simp only [plB, Bool.and_eq_true, decide_eq_true_eq] at hB
    refine ⟨fun h0 => (by rw [hB.1.1.1] at h0; cases h0), fun i hi => ?_⟩
    have hi0 := hi
    rw [hB.1.1.1] at hi
    have hcs := calm_set (brk := brk) (ready_lt hi0) hcm
    simp only [List.mem_cons, List.not_mem_nil, or_false] at hi
    rcases hi with rfl | rfl | rfl
    · exact wpOp_mono (fun a' w' h' => ⟨fun hc => h'.1 (by rw [← hcs]; exact hc), ih f _ _ a' w' hB.1.1.2 (hcl.set hi0) hcs h'.1 h'.2⟩) h.1
    · exact wpOp_mono (fun a' w' h' => ⟨fun hc => h'.1 (by rw [← hcs]; exact hc), ih' f _ _ a' w' hB.1.2 (hcl.set hi0) hcs h'.1 h'.2⟩) h.2.1
    · exact wpOp_mono (fun a' w' h' => ⟨fun hc => h'.1 (by rw [← hcs]; exact hc), ih'' f _ _ a' w' hB.2 (hcl.set hi0) hcs h'.1 h'.2⟩) h.2.2
theorem closed_start (n : Nat) : ClosedL ops (Array.replicate n false) := fun j o _ h => by
  rcases Nat.lt_or_ge j n with h1 | h1 <;> simp [Array.getD, h1, Nat.not_lt.2] at h
theorem calm_start (n : Nat) : calm brk (Array.replicate n false) = true := by
  unfold calm
  rw [List.all_eq_true]
  intro b _
  rcases Nat.lt_or_ge b n with h1 | h1 <;> simp [Array.getD, h1, Nat.not_lt.2]
theorem wp_region_pl {id : Nat} {a : Act} {w : World} (hm : P.follows .mixedOrders = true) (S : World → Prop) (brk : List Nat) (t : Pl) (hB : (Region.noSelect ops && plB ops brk t ops.size (Array.replicate ops.size false)) = true)
    (hS : S w.drew) (h : wpPl P ops (NoPanic Q) S brk true t a w.drew) : (Code.region id ops true).wp P Q a w := by
  rw [Bool.and_eq_true] at hB
  refine wp_region_noPanic (wp_region_any hm (wpAny_of_C _ _ _ _ (wpPl_sound hB.1 (fun c a w d v h => h) t _ _ true a _ hB.2 (closed_start _) (calm_start _) (fun _ => hS) h)))
theorem wp_region_pls {id : Nat} {a : Act} {w : World} {opl : List Oper} (hm : P.follows .mixedOrders = true) (S : World → Prop) (brk : List Nat) (t : Pl) (hB : (Region.noSelect opl.toArray && plB opl.toArray brk t opl.toArray.size (Array.replicate opl.toArray.size false)) = true)
    (hS : S w.drew) (h : ∀ (ops' : Array Oper) (Q' : Exit → Act → World → Prop), Hid (ops' = opl.toArray) → (∀ a w, Q .normal a w → Q' .normal a w) → ∀ w1, S w1 → wpPl P ops' Q' S brk true t a w1) : (Code.region id opl.toArray true).wp P Q a w :=
  wp_region_pl hm S brk t hB hS (h opl.toArray (NoPanic Q) (Lib.hid rfl) (fun _ _ h => h) _ hS)
theorem ops_at {opl : List Oper} {k : Nat} {o : Oper} (hO : Hid (ops = opl.toArray)) (ho : opl[k]? = some o) : ops[k]? = some o := by rw [hO.out]; simpa using ho
theorem ops_dst {opl : List Oper} {j d : Nat} (hO : Hid (ops = opl.toArray)) (hd : (opl[j]?).bind (·.dst) = some d) : (ops[j]?).bind (·.dst) = some d := by rw [hO.out]; simpa using hd
theorem i64w (n : Int) : IntKind.i64.wrap n = wrap64 n := IntWalk.i64_left n
/-! steps -/
variable {k : Nat} {o : Oper} {t : Pl} {a : Act} {w : World} {c : Bool}
theorem pl_nil (h : Q .normal a w) : wpPl P ops Q S brk c .nil a w := h
theorem pl_p (ho : ops[k]? = some o) (hw : Region.wanted o (yielded ops a.tmps) = true) (v : Value) (hv : ∀ w, (execOp a.eval o).run P w = .ok (.value v) w) (h : wpPl P ops Q S brk c t (a.put o.dst v) w) : wpPl P ops Q S brk c (.p k t) a w :=
  ⟨o, v, ho, .inl ⟨hw, fun w _ => hv w⟩, h⟩
theorem pl_q (ho : ops[k]? = some o) (hw : Region.wanted o (yielded ops a.tmps) = true) (v : Value) (hv : ∀ w, S w → (execOp a.eval o).run P w = .ok (.value v) w) (h : wpPl P ops Q S brk c t (a.put o.dst v) w) : wpPl P ops Q S brk c (.q k t) a w :=
  ⟨o, v, ho, .inl ⟨hw, hv⟩, h⟩
theorem pl_p_no (ho : ops[k]? = some o) (hw : Region.wanted o (yielded ops a.tmps) = false) (h : wpPl P ops Q S brk c t (a.put o.dst undef) w) : wpPl P ops Q S brk c (.p k t) a w :=
  ⟨o, undef, ho, .inr ⟨hw, rfl⟩, h⟩
theorem pl_q_no (ho : ops[k]? = some o) (hw : Region.wanted o (yielded ops a.tmps) = false) (h : wpPl P ops Q S brk c t (a.put o.dst undef) w) : wpPl P ops Q S brk c (.q k t) a w :=
  ⟨o, undef, ho, .inr ⟨hw, rfl⟩, h⟩
theorem pl_e (ho : ops[k]? = some o) (hw : Region.wanted o (yielded ops a.tmps) = true) (hb : (c && !(brk.contains k)) = true)
    (h : ∀ K : Act → World → Prop, (∀ a' w', S w' → (S w' → wpPl P ops Q S brk true t a' w') → K a' w') → o.wp P a w K Q) : wpPl P ops Q S brk c (.e k t) a w := by
  unfold wpPl wpOp
  simp only [ho, hw, if_true, hb]
  exact .inl (h _ fun a' w' h1 h2 => ⟨fun _ => h1, h2 h1⟩)
theorem pl_b (ho : ops[k]? = some o) (hw : Region.wanted o (yielded ops a.tmps) = true) (hb : (c && !(brk.contains k)) = false)
    (h : ∀ K : Act → World → Prop, (∀ a' w', wpPl P ops Q S brk false t a' w' → K a' w') → o.wp P a w K Q) : wpPl P ops Q S brk c (.e k t) a w := by
  unfold wpPl wpOp
  simp only [ho, hw, if_true, hb]
  exact .inl (h _ fun a' w' h2 => ⟨fun h1 => by simp at h1, h2⟩)
theorem pl_e_no (ho : ops[k]? = some o) (hw : Region.wanted o (yielded ops a.tmps) = false) (hb : (c && !(brk.contains k)) = c) (hS : c = true → S w) (h : wpPl P ops Q S brk c t (a.put o.dst undef) w) : wpPl P ops Q S brk c (.e k t) a w := by
  unfold wpPl wpOp
  simp only [ho, hw, hb]
  exact ⟨hS, h⟩
theorem yielded_of {j d : Nat} {b : Bool} {a : Act} (hd : (ops[j]?).bind (·.dst) = some d) (hv : a.eval (.tmp d) = .bool b) : yielded ops a.tmps j = some b := by
  unfold yielded
  rw [hd]
  have h1 : a.tmps.getD d undef = .bool b := hv
  simp only [Option.bind_some]
  by_cases hlt : d < a.tmps.size
  · simp [Array.getD, hlt] at h1
    simp [hlt, h1]
  · simp [Array.getD, hlt] at h1
    cases h1
theorem wanted0 {o : Oper} {y : Nat → Option Bool} (hg : o.guard = none) : Region.wanted o y = true := by unfold Region.wanted; rw [hg]
theorem wanted1 {o : Oper} {j d : Nat} {b : Bool} {a : Act} (hg : o.guard = some (j, b)) (hd : (ops[j]?).bind (·.dst) = some d) (hv : a.eval (.tmp d) = .bool b) : Region.wanted o (yielded ops a.tmps) = true := by
  unfold Region.wanted; rw [hg]; simp only [yielded_of hd hv, beq_self_eq_true]
theorem wantedN {o : Oper} {j d : Nat} {b : Bool} {a : Act} (hg : o.guard = some (j, b)) (hd : (ops[j]?).bind (·.dst) = some d) (hv : a.eval (.tmp d) = .bool (!b)) : Region.wanted o (yielded ops a.tmps) = false := by
  unfold Region.wanted; rw [hg]; simp only [yielded_of hd hv]; cases b <;> rfl
variable {opl : List Oper}
theorem pl_p0 (hO : Hid (ops = opl.toArray)) (ho : opl[k]? = some o) (hg : o.guard = none) (v : Value) (hv : ∀ w, (execOp a.eval o).run P w = .ok (.value v) w) (h : wpPl P ops Q S brk c t (a.put o.dst v) w) : wpPl P ops Q S brk c (.p k t) a w := pl_p (ops_at hO ho) (wanted0 hg) v hv h
theorem pl_q0 (hO : Hid (ops = opl.toArray)) (ho : opl[k]? = some o) (hg : o.guard = none) (v : Value) (hv : ∀ w, S w → (execOp a.eval o).run P w = .ok (.value v) w) (h : wpPl P ops Q S brk c t (a.put o.dst v) w) : wpPl P ops Q S brk c (.q k t) a w := pl_q (ops_at hO ho) (wanted0 hg) v hv h
theorem pl_p1 {j d : Nat} {b : Bool} (hO : Hid (ops = opl.toArray)) (ho : opl[k]? = some o) (hg : o.guard = some (j, b)) (hd : (opl[j]?).bind (·.dst) = some d) (hb : a.eval (.tmp d) = .bool b) (v : Value) (hv : ∀ w, (execOp a.eval o).run P w = .ok (.value v) w) (h : wpPl P ops Q S brk c t (a.put o.dst v) w) : wpPl P ops Q S brk c (.p k t) a w := pl_p (ops_at hO ho) (wanted1 hg (ops_dst hO hd) hb) v hv h
theorem pl_q1 {j d : Nat} {b : Bool} (hO : Hid (ops = opl.toArray)) (ho : opl[k]? = some o) (hg : o.guard = some (j, b)) (hd : (opl[j]?).bind (·.dst) = some d) (hb : a.eval (.tmp d) = .bool b) (v : Value) (hv : ∀ w, S w → (execOp a.eval o).run P w = .ok (.value v) w) (h : wpPl P ops Q S brk c t (a.put o.dst v) w) : wpPl P ops Q S brk c (.q k t) a w := pl_q (ops_at hO ho) (wanted1 hg (ops_dst hO hd) hb) v hv h
theorem pl_pn {j d : Nat} {b : Bool} (hO : Hid (ops = opl.toArray)) (ho : opl[k]? = some o) (hg : o.guard = some (j, b)) (hd : (opl[j]?).bind (·.dst) = some d) (hb : a.eval (.tmp d) = .bool (!b)) (h : wpPl P ops Q S brk c t (a.put o.dst undef) w) : wpPl P ops Q S brk c (.p k t) a w := pl_p_no (ops_at hO ho) (wantedN hg (ops_dst hO hd) hb) h
theorem pl_qn {j d : Nat} {b : Bool} (hO : Hid (ops = opl.toArray)) (ho : opl[k]? = some o) (hg : o.guard = some (j, b)) (hd : (opl[j]?).bind (·.dst) = some d) (hb : a.eval (.tmp d) = .bool (!b)) (h : wpPl P ops Q S brk c t (a.put o.dst undef) w) : wpPl P ops Q S brk c (.q k t) a w := pl_q_no (ops_at hO ho) (wantedN hg (ops_dst hO hd) hb) h
theorem pl_en {j d : Nat} {b : Bool} (hO : Hid (ops = opl.toArray)) (ho : opl[k]? = some o) (hg : o.guard = some (j, b)) (hd : (opl[j]?).bind (·.dst) = some d) (hv : a.eval (.tmp d) = .bool (!b)) (hb : (c && !(brk.contains k)) = c) (hS : c = true → S w) (h : wpPl P ops Q S brk c t (a.put o.dst undef) w) : wpPl P ops Q S brk c (.e k t) a w := pl_e_no (ops_at hO ho) (wantedN hg (ops_dst hO hd) hv) hb hS h
theorem pl_e0 (hO : Hid (ops = opl.toArray)) (ho : opl[k]? = some o) (hg : o.guard = none) (hb : (c && !(brk.contains k)) = true)
    (h : ∀ K : Act → World → Prop, (∀ a' w', S w' → (S w' → wpPl P ops Q S brk true t a' w') → K a' w') → o.wp P a w K Q) : wpPl P ops Q S brk c (.e k t) a w := pl_e (ops_at hO ho) (wanted0 hg) hb h
theorem pl_e1 {j d : Nat} {b : Bool} (hO : Hid (ops = opl.toArray)) (ho : opl[k]? = some o) (hg : o.guard = some (j, b)) (hd : (opl[j]?).bind (·.dst) = some d) (hv : a.eval (.tmp d) = .bool b) (hb : (c && !(brk.contains k)) = true)
    (h : ∀ K : Act → World → Prop, (∀ a' w', S w' → (S w' → wpPl P ops Q S brk true t a' w') → K a' w') → o.wp P a w K Q) : wpPl P ops Q S brk c (.e k t) a w := pl_e (ops_at hO ho) (wanted1 hg (ops_dst hO hd) hv) hb h
theorem pl_b0 (hO : Hid (ops = opl.toArray)) (ho : opl[k]? = some o) (hg : o.guard = none) (hb : (c && !(brk.contains k)) = false)
    (h : ∀ K : Act → World → Prop, (∀ a' w', wpPl P ops Q S brk false t a' w' → K a' w') → o.wp P a w K Q) : wpPl P ops Q S brk c (.e k t) a w := pl_b (ops_at hO ho) (wanted0 hg) hb h
theorem pl_e2 {k' : Nat} {t' : Pl} (h1 : wpPl P ops Q S brk c (.e k t) a w) (h2 : wpPl P ops Q S brk c (.e k' t') a w) : wpPl P ops Q S brk c (.e2 k t k' t') a w := ⟨h1, h2⟩
end
end Go.Proofs.YtcbkaiakdhiloabGreatDoor
namespace Go.Proofs.YtcbkaiakdhiloabGreatDoor
open Go.RowKit Go.Proofs
attribute [local go_sem] bs_size bs_append bs_extract bs_toList
def SlotsOk (cs : Array Value) (n i : Nat) (q : List (List UInt8)) : Prop :=
  (∀ k f, q[k]? = some f → cs[(i + k) % n * 2]? = some (.bool true) ∧ cs[(i + k) % n * 2 + 1]? = some (.string (bs f))) ∧
  (∀ k, q.length ≤ k → k < n → cs[(i + k) % n * 2]? = some (.bool false) ∧ ∃ s, cs[(i + k) % n * 2 + 1]? = some (.string s))
def ringC (g n j i : Nat) : Array Value := #[.slice (some ⟨g, 0, none⟩) n n, .int .i64 (j : Int), .int .i64 (i : Int)]
def RingAt (w : World) (r g n : Nat) (q : List (List UInt8)) : Prop :=
  ∃ (i : Nat) (cs : Array Value), Bk w r 152 (ringC g n ((i + q.length) % n) i) ∧ Bk w g 218 cs ∧ cs.size = n * 2 ∧ i < n ∧ q.length ≤ n ∧ r ≠ g ∧ SlotsOk cs n i q
theorem RingAt.keep {w w' : World} {S : Nat → Prop} {r g n : Nat} {q : List (List UInt8)} (h : RingAt w r g n q) (hf : Fr S w w') (h1 : ¬ S r) (h2 : ¬ S g) : RingAt w' r g n q := by
  obtain ⟨i, cs, a, b, c⟩ := h
  exact ⟨i, cs, a.keep hf h1, b.keep hf h2, c⟩
theorem mod_ne {n i k j : Nat} (hn : 0 < n) (hk : k < n) (hj : j < n) (h : k ≠ j) : (i + k) % n ≠ (i + j) % n := by
  intro e
  have h1 : (i + k) % n = (i % n + k) % n := by simp [Nat.add_mod]
  have h2 : (i + j) % n = (i % n + j) % n := by simp [Nat.add_mod]
  have hi := Nat.mod_lt i hn
  rw [h1, h2] at e
  have f : ∀ x, x < n → (i % n + x) % n = if i % n + x < n then i % n + x else i % n + x - n := by
    intro x hx
    split
    · next h => exact Nat.mod_eq_of_lt h
    · next h => rw [Nat.mod_eq_sub_mod (by omega), Nat.mod_eq_of_lt (by omega)]
  rw [f k hk, f j hj] at e
  split at e <;> split at e <;> omega
theorem slots_put {cs : Array Value} {n i : Nat} {q : List (List UInt8)} {f : List UInt8} (hn : 0 < n) (hs : cs.size = n * 2) (hl : q.length < n) (h : SlotsOk cs n i q) :
    SlotsOk ((cs.setIfInBounds ((i + q.length) % n * 2) (.bool true)).setIfInBounds ((i + q.length) % n * 2 + 1) (.string (bs f))) n i (q ++ [f]) := by
  have hm := Nat.mod_lt (i + q.length) hn
  have other : ∀ k, k < n → k ≠ q.length → ∀ d, d < 2 → ((cs.setIfInBounds ((i + q.length) % n * 2) (.bool true)).setIfInBounds ((i + q.length) % n * 2 + 1) (.string (bs f)))[(i + k) % n * 2 + d]? = cs[(i + k) % n * 2 + d]? := by
    intro k hk hne d hd
    have := mod_ne (i := i) hn hk hl hne
    rw [Array.getElem?_setIfInBounds_ne (by omega), Array.getElem?_setIfInBounds_ne (by omega)]
  have same0 : ((cs.setIfInBounds ((i + q.length) % n * 2) (.bool true)).setIfInBounds ((i + q.length) % n * 2 + 1) (.string (bs f)))[(i + q.length) % n * 2]? = some (.bool true) := by
    rw [Array.getElem?_setIfInBounds_ne (by omega), Array.getElem?_setIfInBounds_self_of_lt (by omega)]
  have same1 : ((cs.setIfInBounds ((i + q.length) % n * 2) (.bool true)).setIfInBounds ((i + q.length) % n * 2 + 1) (.string (bs f)))[(i + q.length) % n * 2 + 1]? = some (.string (bs f)) := by
    rw [Array.getElem?_setIfInBounds_self_of_lt (by simp; omega)]
  refine ⟨fun k x hx => ?_, fun k h1 h2 => ?_⟩
  · by_cases hk : k = q.length
    · subst hk
      rw [List.getElem?_append_right (Nat.le_refl _)] at hx
      simp at hx; subst hx
      exact ⟨same0, same1⟩
    · have hlt : k < q.length := by
        rcases Nat.lt_or_ge k (q ++ [f]).length with h1 | h1
        · simp at h1; omega
        · rw [List.getElem?_eq_none h1] at hx; cases hx
      rw [List.getElem?_append_left hlt] at hx
      have := h.1 k x hx
      have o0 := other k (by omega) hk 0 (by omega)
      have o1 := other k (by omega) hk 1 (by omega)
      simp only [Nat.add_zero] at o0
      rw [o0, o1]; exact this
  · simp only [List.length_append, List.length_cons, List.length_nil] at h1
    have := h.2 k (by omega) h2
    have o0 := other k h2 (by omega) 0 (by omega)
    have o1 := other k h2 (by omega) 1 (by omega)
    simp only [Nat.add_zero] at o0
    rw [o0, o1]; exact this
theorem slots_take {cs : Array Value} {n i : Nat} {q : List (List UInt8)} {f : List UInt8} (hn : 0 < n) (hi : i < n) (hs : cs.size = n * 2) (hl : (f :: q).length ≤ n) (h : SlotsOk cs n i (f :: q)) :
    SlotsOk ((cs.setIfInBounds (i * 2) (.bool false)).setIfInBounds (i * 2 + 1) (.string ⟨#[]⟩)) n ((i + 1) % n) q := by
  simp only [List.length_cons] at hl
  have e : ∀ k, ((i + 1) % n + k) % n = (i + (k + 1)) % n := fun k => by rw [Nat.mod_add_mod]; congr 1; omega
  have e0 : (i + 0) % n = i := by rw [Nat.add_zero, Nat.mod_eq_of_lt hi]
  have other : ∀ k, k + 1 < n → ∀ d, d < 2 → ((cs.setIfInBounds (i * 2) (.bool false)).setIfInBounds (i * 2 + 1) (.string ⟨#[]⟩))[(i + (k + 1)) % n * 2 + d]? = cs[(i + (k + 1)) % n * 2 + d]? := by
    intro k hk d hd
    have := mod_ne (i := i) hn hk hn (Nat.succ_ne_zero k)
    rw [e0] at this
    rw [Array.getElem?_setIfInBounds_ne (by omega), Array.getElem?_setIfInBounds_ne (by omega)]
  refine ⟨fun k x hx => ?_, fun k h1 h2 => ?_⟩
  · have hlt : k < q.length := by
      rcases Nat.lt_or_ge k q.length with h1 | h1
      · exact h1
      · rw [List.getElem?_eq_none h1] at hx; cases hx
    have := h.1 (k + 1) x (by simpa using hx)
    have o0 := other k (by omega) 0 (by omega)
    have o1 := other k (by omega) 1 (by omega)
    simp only [Nat.add_zero] at o0
    rw [e, o0, o1]; exact this
  · rw [e]
    by_cases hk : k + 1 = n
    · have e3 : (i + (k + 1)) % n = i := by rw [hk]; simp [Nat.mod_eq_of_lt hi]
      rw [e3, Array.getElem?_setIfInBounds_ne (by omega), Array.getElem?_setIfInBounds_self_of_lt (by omega), Array.getElem?_setIfInBounds_self_of_lt (by simp; omega)]
      exact ⟨rfl, _, rfl⟩
    · have := h.2 (k + 1) (by simp; omega) (by omega)
      have o0 := other k (by omega) 0 (by omega)
      have o1 := other k (by omega) 1 (by omega)
      simp only [Nat.add_zero] at o0
      rw [o0, o1]; exact this
def putPost (r g n : Nat) (q : List (List UInt8)) (f : List UInt8) (w : World) (e : Ending) (w' : World) : Prop :=
  e = .returned (.bool (decide (q.length < n))) ∧ RingAt w' r g n (if q.length < n then q ++ [f] else q) ∧ Fr (fun b => b = r ∨ b = g) w w'
def takePost (r g n : Nat) (q : List (List UInt8)) (w : World) (e : Ending) (w' : World) : Prop :=
  e = .returned (.tuple #[.string (bs (q.headD [])), .bool (!q.isEmpty)]) ∧ RingAt w' r g n q.tail ∧ Fr (fun b => b = r ∨ b = g) w w'
set_option maxRecDepth 20000 in
set_option maxHeartbeats 1000000 in
theorem ringPut (r g n : Nat) (q : List (List UInt8)) (f : List UInt8) (w : World) (hn : 0 < n) (hn2 : n ≤ 1000) (h : RingAt w r g n q) :
    Calls Tryz.prog 145 #[.pointer (some ⟨r, 0, none⟩), .string (bs f)] w (putPost r g n q f w) := by
  obtain ⟨i, cs, hr, hg, hs, hi, hq, hrg, hso⟩ := h
  have hm := Nat.mod_lt (i + q.length) hn
  obtain ⟨j, hj⟩ : ∃ j, (i + q.length) % n = j := ⟨_, rfl⟩
  rw [hj] at hr hm
  have hrc := hr.cells
  have hgf := hg.frees
  by_cases hlt : q.length < n
  · obtain ⟨c0, s0, c1⟩ := hso.2 q.length (Nat.le_refl _) hlt
    rw [hj] at c0 c1
    have hg0 : w.cell? ⟨g, j * 2, none⟩ = some (.bool false) := (hg.cell _).trans c0
    have hg1 : w.cell? ⟨g, j * 2 + 1, none⟩ = some (.string s0) := (hg.cell _).trans c1
    have hne1 : ¬ g = r := fun x => hrg x.symm
    unfold ringC at hrc
    have hfr := hr.frees
    go_enter Tryz.func145, Tryz.ntmps145
    go_wp2_with fail
    go_quiet (fail)
    have hr1 := hr.drewN nq
    have hg1' := hg.drewN nq
    have hf1 : Fr (fun b => b = r ∨ b = g) w (w.drewN nq) := (Fr.refl _ _).drewN nq
    obtain ⟨w1, hw1⟩ : ∃ w1, w.drewN nq = w1 := ⟨_, rfl⟩
    rw [hw1] at hr1 hg1' hf1 ⊢
    clear hw1 hrc hgf hg0 hg1
    have hg0 : w1.cell? ⟨g, j * 2, none⟩ = some (.bool false) := (hg1'.cell _).trans c0
    have hg1 : w1.cell? ⟨g, j * 2 + 1, none⟩ = some (.string s0) := (hg1'.cell _).trans c1
    have hgf := hg1'.frees
    go_upto_region 5 with fail
    have hg5 := (hg1'.set (j * 2) (.bool true)).set (j * 2 + 1) (.string (bs f))
    have hr5 := (hr1.far (p := ⟨g, j * 2, none⟩) hrg (.bool true)).far (p := ⟨g, j * 2 + 1, none⟩) hrg (.string (bs f))
    have hf5 : Fr (fun b => b = r ∨ b = g) w ((w1.setCell ⟨g, j * 2, none⟩ (.bool true)).setCell ⟨g, j * 2 + 1, none⟩ (.string (bs f))) := (hf1.setCell (p := ⟨g, j * 2, none⟩) (fun _ => .inr rfl) _).setCell (p := ⟨g, j * 2 + 1, none⟩) (fun _ => .inr rfl) _
    generalize (w1.setCell ⟨g, j * 2, none⟩ (.bool true)).setCell ⟨g, j * 2 + 1, none⟩ (.string (bs f)) = w5 at *
    clear hg0 hg1 hgf hr1 hg1' hf1 hfr
    have q1 : IntKind.i64.wrap ((j : Int) + 1) = (j : Int) + 1 := IntWalk.i64_in _ (by omega)
    have q3 : ¬ n = 0 := by omega
    refine wp_region_pls (by kernel_rfl) (fun w' => Bk w' r 152 (ringC g n j i) ∧ Bk w' g 218 ((cs.setIfInBounds (j * 2) (.bool true)).setIfInBounds (j * 2 + 1) (.string (bs f))) ∧ Fr (fun b => b = r ∨ b = g) w w') [14] (.p 0 (.p 1 (.p 2 (.p 3 (.p 6 (.p 7 (.p 8 (.q 4 (.p 5 (.q 9 (.p 10 (.p 11 (.p 12 (.p 13 (.e 14 (.nil)))))))))))))))) (by kernel_rfl) (⟨hr5, hg5, hf5.drew⟩) ?_
    intro ops Q' hO hQ' wr1 hR1
    iterate 7 (refine pl_p0 hO rfl rfl ?_ (fun w' => ?_) ?_; rotate_left 1; (focus (go_simp; ((try with_reducible rfl); done))); simp only [Act.put, List.setIfInBounds_toArray, List.set_cons_zero, List.set_cons_succ])
    refine pl_q0 hO rfl rfl ?_ (fun w' hS => ?_) ?_; rotate_left 1; (focus (have hSc := hS.1.cells; unfold ringC at hSc; go_simp; ((try with_reducible rfl); done))); simp only [Act.put, List.setIfInBounds_toArray, List.set_cons_zero, List.set_cons_succ]
    refine pl_p0 hO rfl rfl ?_ (fun w' => ?_) ?_; rotate_left 1; (focus (go_simp; ((try with_reducible rfl); done))); simp only [Act.put, List.setIfInBounds_toArray, List.set_cons_zero, List.set_cons_succ]
    refine pl_q0 hO rfl rfl ?_ (fun w' hS => ?_) ?_; rotate_left 1; (focus (have hSc := hS.1.cells; unfold ringC at hSc; go_simp; ((try with_reducible rfl); done))); simp only [Act.put, List.setIfInBounds_toArray, List.set_cons_zero, List.set_cons_succ]
    iterate 4 (refine pl_p0 hO rfl rfl ?_ (fun w' => ?_) ?_; rotate_left 1; (focus (go_simp; ((try with_reducible rfl); done))); simp only [Act.put, List.setIfInBounds_toArray, List.set_cons_zero, List.set_cons_succ])
    refine pl_b0 hO rfl rfl rfl (fun K hK => ?_)
    have hcz := hR1.1.cells
    have hfz := hR1.1.frees
    unfold ringC at hcz
    go_simp
    refine hK _ _ ?_
    clear hK K
    refine pl_nil (hQ' _ _ ?_)
    obtain ⟨hr6, hg6, hf6⟩ := hR1
    have hr7 := hr6.set 1 (.int .i64 (((j : Int) + 1).tmod (n : Int)))
    have hg7 := hg6.far (p := ⟨r, 1, none⟩) (fun x => hrg x.symm) (.int .i64 (((j : Int) + 1).tmod (n : Int)))
    have hf7 := hf6.setCell (p := ⟨r, 1, none⟩) (fun _ => .inl rfl) (.int .i64 (((j : Int) + 1).tmod (n : Int)))
    have hjm : ((j : Int) + 1).tmod (n : Int) = (((i + (q ++ [f]).length) % n : Nat) : Int) := by
      rw [List.length_append, List.length_cons, List.length_nil, ← Nat.add_assoc, ← Nat.mod_add_mod, hj]; rfl
    have Hjm := Lib.hid hjm
    have hso2 := slots_put (f := f) hn hs hlt hso
    rw [hj] at hso2
    have Hso2 := Lib.hid hso2
    clear hjm hj hso2
    go_wp2_with fail
    go_ret
    unfold putPost
    rw [decide_eq_true hlt, if_pos hlt]
    refine ⟨rfl, ?_, hf7⟩
    refine ⟨i, _, ?_, hg7, by simp [hs], hi, by simp; omega, hrg, ?_⟩
    · rw [show ringC g n ((i + (q ++ [f]).length) % n) i = (ringC g n j i).setIfInBounds 1 (.int .i64 (((i + (q ++ [f]).length) % n : Nat) : Int)) from rfl, ← Hjm.out]; exact hr7
    · exact Hso2.out
  · have hqn : q.length = n := by omega
    obtain ⟨f0, q0⟩ : ∃ f0, q[0]? = some f0 := ⟨_, List.getElem?_eq_getElem (by omega)⟩
    obtain ⟨c0, c1⟩ := hso.1 0 f0 q0
    have hji : j = i := by rw [← hj, hqn]; simp [Nat.mod_eq_of_lt hi]
    rw [Nat.add_zero, Nat.mod_eq_of_lt hi, ← hji] at c0
    have hg0 : w.cell? ⟨g, j * 2, none⟩ = some (.bool true) := (hg.cell _).trans c0
    have hpre := hj
    unfold ringC at hrc
    have Hj := Lib.hid hj
    have Hlt := Lib.hid hlt
    clear hj hpre hji c0 c1 hqn q0 hlt
    go_enter Tryz.func145, Tryz.ntmps145
    go_wp2_with fail
    go_quiet (fail)
    go_wp2_with fail
    go_ret
    unfold putPost
    rw [decide_eq_false Hlt.out, if_neg Hlt.out]
    exact ⟨rfl, ⟨i, cs, by rw [Hj.out]; exact hr.drewN nq, hg.drewN nq, hs, hi, hq, hrg, hso⟩, (Fr.refl _ _).drewN nq⟩
set_option maxRecDepth 20000 in
set_option maxHeartbeats 1000000 in
theorem ringTake (r g n : Nat) (q : List (List UInt8)) (w : World) (hn : 0 < n) (hn2 : n ≤ 1000) (h : RingAt w r g n q) :
    Calls Tryz.prog 95 #[.pointer (some ⟨r, 0, none⟩)] w (takePost r g n q w) := by
  obtain ⟨i, cs, hr, hg, hs, hi, hq, hrg, hso⟩ := h
  have hm := Nat.mod_lt (i + q.length) hn
  have hrc := hr.cells
  unfold ringC at hrc
  cases q with
  | nil =>
    obtain ⟨c0, s0, c1⟩ := hso.2 0 (Nat.zero_le _) hn
    rw [Nat.add_zero, Nat.mod_eq_of_lt hi] at c0
    have hg0 : w.cell? ⟨g, i * 2, none⟩ = some (.bool false) := (hg.cell _).trans c0
    clear c0 c1
    go_enter Tryz.func95, Tryz.ntmps95
    go_wp2_with fail
    go_quiet (fail)
    go_wp2_with fail
    go_ret2
    exact ⟨rfl, ⟨i, cs, hr.drewN nq, hg.drewN nq, hs, hi, hq, hrg, hso⟩, (Fr.refl _ _).drewN nq⟩
  | cons f q =>
    obtain ⟨c0, c1⟩ := hso.1 0 f rfl
    simp only [Nat.add_zero, Nat.mod_eq_of_lt hi] at c0 c1
    obtain ⟨j, hj⟩ : ∃ j, (i + (f :: q).length) % n = j := ⟨_, rfl⟩
    rw [hj] at hr hm hrc
    have hg0 : w.cell? ⟨g, i * 2, none⟩ = some (.bool true) := (hg.cell _).trans c0
    have hg1 : w.cell? ⟨g, i * 2 + 1, none⟩ = some (.string (bs f)) := (hg.cell _).trans c1
    have hne1 : ¬ g = r := fun x => hrg x.symm
    have hso2 := slots_take hn hi hs hq hso
    have Hso2 := Lib.hid hso2
    have hjj : j = ((i + 1) % n + q.length) % n := by rw [Nat.mod_add_mod, ← hj]; congr 1; simp only [List.length_cons]; omega
    have Hjj := Lib.hid hjj
    have hq2 : q.length ≤ n := by simp only [List.length_cons] at hq; omega
    clear hso hso2 hjj hj hq
    go_enter Tryz.func95, Tryz.ntmps95
    go_wp2_with fail
    go_quiet (fail)
    have hr1 := hr.drewN nq
    have hg1' := hg.drewN nq
    have hf1 : Fr (fun b => b = r ∨ b = g) w (w.drewN nq) := (Fr.refl _ _).drewN nq
    obtain ⟨w1, hw1⟩ : ∃ w1, w.drewN nq = w1 := ⟨_, rfl⟩
    rw [hw1] at hr1 hg1' hf1 ⊢
    clear hw1 hrc hg0 hg1
    have hg0 : w1.cell? ⟨g, i * 2, none⟩ = some (.bool true) := (hg1'.cell _).trans c0
    have hg1 : w1.cell? ⟨g, i * 2 + 1, none⟩ = some (.string (bs f)) := (hg1'.cell _).trans c1
    have hgf := hg1'.frees
    go_upto_region 6 with fail
    have hg5 := (hg1'.set (i * 2) (.bool false)).set (i * 2 + 1) (.string ⟨#[]⟩)
    have hr5 := (hr1.far (p := ⟨g, i * 2, none⟩) hrg (.bool false)).far (p := ⟨g, i * 2 + 1, none⟩) hrg (.string ⟨#[]⟩)
    have hf5 : Fr (fun b => b = r ∨ b = g) w ((w1.setCell ⟨g, i * 2, none⟩ (.bool false)).setCell ⟨g, i * 2 + 1, none⟩ (.string ⟨#[]⟩)) := (hf1.setCell (p := ⟨g, i * 2, none⟩) (fun _ => .inr rfl) _).setCell (p := ⟨g, i * 2 + 1, none⟩) (fun _ => .inr rfl) _
    generalize (w1.setCell ⟨g, i * 2, none⟩ (.bool false)).setCell ⟨g, i * 2 + 1, none⟩ (.string ⟨#[]⟩) = w5 at *
    clear hg0 hg1 hgf hr1 hg1' hf1
    have q1 : IntKind.i64.wrap ((i : Int) + 1) = (i : Int) + 1 := IntWalk.i64_in _ (by omega)
    have q3 : ¬ n = 0 := by omega
    refine wp_region_pls (by kernel_rfl) (fun w' => Bk w' r 152 (ringC g n j i) ∧ Bk w' g 218 ((cs.setIfInBounds (i * 2) (.bool false)).setIfInBounds (i * 2 + 1) (.string ⟨#[]⟩)) ∧ Fr (fun b => b = r ∨ b = g) w w') [14] (.p 0 (.p 1 (.p 2 (.p 3 (.p 6 (.p 7 (.p 8 (.q 4 (.p 5 (.q 9 (.p 10 (.p 11 (.p 12 (.p 13 (.e 14 (.nil)))))))))))))))) (by kernel_rfl) (⟨hr5, hg5, hf5.drew⟩) ?_
    intro ops Q' hO hQ' wr1 hR1
    iterate 7 (refine pl_p0 hO rfl rfl ?_ (fun w' => ?_) ?_; rotate_left 1; (focus (go_simp; ((try with_reducible rfl); done))); simp only [Act.put, List.setIfInBounds_toArray, List.set_cons_zero, List.set_cons_succ])
    refine pl_q0 hO rfl rfl ?_ (fun w' hS => ?_) ?_; rotate_left 1; (focus (have hSc := hS.1.cells; unfold ringC at hSc; go_simp; ((try with_reducible rfl); done))); simp only [Act.put, List.setIfInBounds_toArray, List.set_cons_zero, List.set_cons_succ]
    refine pl_p0 hO rfl rfl ?_ (fun w' => ?_) ?_; rotate_left 1; (focus (go_simp; ((try with_reducible rfl); done))); simp only [Act.put, List.setIfInBounds_toArray, List.set_cons_zero, List.set_cons_succ]
    refine pl_q0 hO rfl rfl ?_ (fun w' hS => ?_) ?_; rotate_left 1; (focus (have hSc := hS.1.cells; unfold ringC at hSc; go_simp; ((try with_reducible rfl); done))); simp only [Act.put, List.setIfInBounds_toArray, List.set_cons_zero, List.set_cons_succ]
    iterate 4 (refine pl_p0 hO rfl rfl ?_ (fun w' => ?_) ?_; rotate_left 1; (focus (go_simp; ((try with_reducible rfl); done))); simp only [Act.put, List.setIfInBounds_toArray, List.set_cons_zero, List.set_cons_succ])
    refine pl_b0 hO rfl rfl rfl (fun K hK => ?_)
    have hcz := hR1.1.cells
    have hfz := hR1.1.frees
    unfold ringC at hcz
    go_simp
    refine hK _ _ ?_
    clear hK K
    refine pl_nil (hQ' _ _ ?_)
    obtain ⟨hr6, hg6, hf6⟩ := hR1
    have hr7 := hr6.set 2 (.int .i64 (((i : Int) + 1).tmod (n : Int)))
    have hg7 := hg6.far (p := ⟨r, 2, none⟩) (fun x => hrg x.symm) (.int .i64 (((i : Int) + 1).tmod (n : Int)))
    have hf7 := hf6.setCell (p := ⟨r, 2, none⟩) (fun _ => .inl rfl) (.int .i64 (((i : Int) + 1).tmod (n : Int)))
    have hjm : ((i : Int) + 1).tmod (n : Int) = (((i + 1) % n : Nat) : Int) := rfl
    have Hjm := Lib.hid hjm
    clear hjm
    go_wp2_with fail
    go_ret2
    refine ⟨rfl, ⟨(i + 1) % n, _, ?_, hg7, by simp [hs], Nat.mod_lt _ hn, hq2, hrg, Hso2.out⟩, hf7⟩
    rw [List.tail_cons, ← Hjj.out, show ringC g n j ((i + 1) % n) = (ringC g n j i).setIfInBounds 2 (.int .i64 ((((i + 1) % n : Nat)) : Int)) from rfl, ← Hjm.out]
    exact hr7
end Go.Proofs.YtcbkaiakdhiloabGreatDoor
namespace Go.Proofs.YtcbkaiakdhiloabGreatDoor
open Go.RowKit Go.Proofs
attribute [local go_sem] bs_size bs_append bs_extract
def Tabs (w : World) : Prop := Lib.Utf8Tabs 7 8 w
theorem cell_lt' {w : World} {a : Addr} {v : Value} (h : w.cell? a = some v) : a.block < w.heap.size := by
  rcases Nat.lt_or_ge a.block w.heap.size with h1 | h1
  · exact h1
  · unfold World.cell? at h; rw [Array.getElem?_eq_none h1] at h; cases h
theorem Tabs.keep {w w' : World} {S : Nat → Prop} (h : Tabs w) (hf : Fr S w w') (h1 : ¬ S 7) (h2 : ¬ S 8) : Tabs w' := by
  refine ⟨fun c hc => ?_, fun i hi => ⟨?_, ?_⟩⟩
  · have := h.1 c hc; exact (hf.cell (cell_lt' this) h1).trans this
  · have := (h.2 i hi).1; exact (hf.cell (cell_lt' this) h2).trans this
  · have := (h.2 i hi).2; exact (hf.cell (cell_lt' this) h2).trans this
theorem Tabs.lt {w : World} (h : Tabs w) : 7 < w.heap.size ∧ 8 < w.heap.size := ⟨cell_lt' (h.1 0 (by omega)), cell_lt' (h.2 0 (by omega)).1⟩
end Go.Proofs.YtcbkaiakdhiloabGreatDoor
namespace Go.Proofs.YtcbkaiakdhiloabGreatDoor
open Go.RowKit Go.Proofs
theorem rot_val (x : UInt32) (n a b : Nat) (ha : a = x.toNat * 2 ^ (32 - n) % 4294967296) (hb : b = x.toNat / 2 ^ n) : bits .or .u32 (a : Int) (b : Int) = ((rotr x n).toNat : Int) := by
  have hx := x.toNat_lt
  have hal : a < 4294967296 := by rw [ha]; exact Nat.mod_lt _ (by omega)
  have hbl : b < 4294967296 := by rw [hb]; exact Nat.lt_of_le_of_lt (Nat.div_le_self _ _) hx
  rw [u32_or_nat a b hal hbl, Nat.or_comm, rotr_toNat, ha, hb]
set_option maxRecDepth 20000 in
theorem rot2 (x : UInt32) (w : World) :
    Calls Tryz.prog 199 #[.int .u32 (x.toNat : Int), .int .i64 (-2)] w fun e w' => e = .returned (.int .u32 ((rotr x 2).toNat : Int)) ∧ w' = w := by
  have hx := x.toNat_lt
  have hx1 : (x.toNat : Int) ≤ 4294967295 := by omega
  have hb : bits .and .u64 (IntKind.u64.wrap (-2)) 31 = 30 := by decide
  have hv := rot_val x 2 (x.toNat * 1073741824 % 4294967296) (x.toNat / 4) rfl rfl
  have hv2 : Hid (bits .or .u32 ((x.toNat : Int) * 1073741824 % 4294967296) ((x.toNat : Int) / 4) = ((rotr x 2).toNat : Int)) := by
    unfold Hid; rw [← hv]; congr 1
  clear hv
  go_enter Tryz.func199, Tryz.ntmps199
  go_wp2_with fail
  go_ret
  exact ⟨congrArg (fun v => Ending.returned (.int .u32 v)) hv2.out, rfl⟩
set_option maxRecDepth 20000 in
theorem rot6 (x : UInt32) (w : World) :
    Calls Tryz.prog 199 #[.int .u32 (x.toNat : Int), .int .i64 (-6)] w fun e w' => e = .returned (.int .u32 ((rotr x 6).toNat : Int)) ∧ w' = w := by
  have hx := x.toNat_lt
  have hx1 : (x.toNat : Int) ≤ 4294967295 := by omega
  have hb : bits .and .u64 (IntKind.u64.wrap (-6)) 31 = 26 := by decide
  have hv := rot_val x 6 (x.toNat * 67108864 % 4294967296) (x.toNat / 64) rfl rfl
  have hv2 : Hid (bits .or .u32 ((x.toNat : Int) * 67108864 % 4294967296) ((x.toNat : Int) / 64) = ((rotr x 6).toNat : Int)) := by
    unfold Hid; rw [← hv]; congr 1
  clear hv
  go_enter Tryz.func199, Tryz.ntmps199
  go_wp2_with fail
  go_ret
  exact ⟨congrArg (fun v => Ending.returned (.int .u32 v)) hv2.out, rfl⟩
set_option maxRecDepth 20000 in
theorem rot7 (x : UInt32) (w : World) :
    Calls Tryz.prog 199 #[.int .u32 (x.toNat : Int), .int .i64 (-7)] w fun e w' => e = .returned (.int .u32 ((rotr x 7).toNat : Int)) ∧ w' = w := by
  have hx := x.toNat_lt
  have hx1 : (x.toNat : Int) ≤ 4294967295 := by omega
  have hb : bits .and .u64 (IntKind.u64.wrap (-7)) 31 = 25 := by decide
  have hv := rot_val x 7 (x.toNat * 33554432 % 4294967296) (x.toNat / 128) rfl rfl
  have hv2 : Hid (bits .or .u32 ((x.toNat : Int) * 33554432 % 4294967296) ((x.toNat : Int) / 128) = ((rotr x 7).toNat : Int)) := by
    unfold Hid; rw [← hv]; congr 1
  clear hv
  go_enter Tryz.func199, Tryz.ntmps199
  go_wp2_with fail
  go_ret
  exact ⟨congrArg (fun v => Ending.returned (.int .u32 v)) hv2.out, rfl⟩
set_option maxRecDepth 20000 in
theorem rot11 (x : UInt32) (w : World) :
    Calls Tryz.prog 199 #[.int .u32 (x.toNat : Int), .int .i64 (-11)] w fun e w' => e = .returned (.int .u32 ((rotr x 11).toNat : Int)) ∧ w' = w := by
  have hx := x.toNat_lt
  have hx1 : (x.toNat : Int) ≤ 4294967295 := by omega
  have hb : bits .and .u64 (IntKind.u64.wrap (-11)) 31 = 21 := by decide
  have hv := rot_val x 11 (x.toNat * 2097152 % 4294967296) (x.toNat / 2048) rfl rfl
  have hv2 : Hid (bits .or .u32 ((x.toNat : Int) * 2097152 % 4294967296) ((x.toNat : Int) / 2048) = ((rotr x 11).toNat : Int)) := by
    unfold Hid; rw [← hv]; congr 1
  clear hv
  go_enter Tryz.func199, Tryz.ntmps199
  go_wp2_with fail
  go_ret
  exact ⟨congrArg (fun v => Ending.returned (.int .u32 v)) hv2.out, rfl⟩
set_option maxRecDepth 20000 in
theorem rot13 (x : UInt32) (w : World) :
    Calls Tryz.prog 199 #[.int .u32 (x.toNat : Int), .int .i64 (-13)] w fun e w' => e = .returned (.int .u32 ((rotr x 13).toNat : Int)) ∧ w' = w := by
  have hx := x.toNat_lt
  have hx1 : (x.toNat : Int) ≤ 4294967295 := by omega
  have hb : bits .and .u64 (IntKind.u64.wrap (-13)) 31 = 19 := by decide
  have hv := rot_val x 13 (x.toNat * 524288 % 4294967296) (x.toNat / 8192) rfl rfl
  have hv2 : Hid (bits .or .u32 ((x.toNat : Int) * 524288 % 4294967296) ((x.toNat : Int) / 8192) = ((rotr x 13).toNat : Int)) := by
    unfold Hid; rw [← hv]; congr 1
  clear hv
  go_enter Tryz.func199, Tryz.ntmps199
  go_wp2_with fail
  go_ret
  exact ⟨congrArg (fun v => Ending.returned (.int .u32 v)) hv2.out, rfl⟩
set_option maxRecDepth 20000 in
theorem rot17 (x : UInt32) (w : World) :
    Calls Tryz.prog 199 #[.int .u32 (x.toNat : Int), .int .i64 (-17)] w fun e w' => e = .returned (.int .u32 ((rotr x 17).toNat : Int)) ∧ w' = w := by
  have hx := x.toNat_lt
  have hx1 : (x.toNat : Int) ≤ 4294967295 := by omega
  have hb : bits .and .u64 (IntKind.u64.wrap (-17)) 31 = 15 := by decide
  have hv := rot_val x 17 (x.toNat * 32768 % 4294967296) (x.toNat / 131072) rfl rfl
  have hv2 : Hid (bits .or .u32 ((x.toNat : Int) * 32768 % 4294967296) ((x.toNat : Int) / 131072) = ((rotr x 17).toNat : Int)) := by
    unfold Hid; rw [← hv]; congr 1
  clear hv
  go_enter Tryz.func199, Tryz.ntmps199
  go_wp2_with fail
  go_ret
  exact ⟨congrArg (fun v => Ending.returned (.int .u32 v)) hv2.out, rfl⟩
set_option maxRecDepth 20000 in
theorem rot18 (x : UInt32) (w : World) :
    Calls Tryz.prog 199 #[.int .u32 (x.toNat : Int), .int .i64 (-18)] w fun e w' => e = .returned (.int .u32 ((rotr x 18).toNat : Int)) ∧ w' = w := by
  have hx := x.toNat_lt
  have hx1 : (x.toNat : Int) ≤ 4294967295 := by omega
  have hb : bits .and .u64 (IntKind.u64.wrap (-18)) 31 = 14 := by decide
  have hv := rot_val x 18 (x.toNat * 16384 % 4294967296) (x.toNat / 262144) rfl rfl
  have hv2 : Hid (bits .or .u32 ((x.toNat : Int) * 16384 % 4294967296) ((x.toNat : Int) / 262144) = ((rotr x 18).toNat : Int)) := by
    unfold Hid; rw [← hv]; congr 1
  clear hv
  go_enter Tryz.func199, Tryz.ntmps199
  go_wp2_with fail
  go_ret
  exact ⟨congrArg (fun v => Ending.returned (.int .u32 v)) hv2.out, rfl⟩
set_option maxRecDepth 20000 in
theorem rot19 (x : UInt32) (w : World) :
    Calls Tryz.prog 199 #[.int .u32 (x.toNat : Int), .int .i64 (-19)] w fun e w' => e = .returned (.int .u32 ((rotr x 19).toNat : Int)) ∧ w' = w := by
  have hx := x.toNat_lt
  have hx1 : (x.toNat : Int) ≤ 4294967295 := by omega
  have hb : bits .and .u64 (IntKind.u64.wrap (-19)) 31 = 13 := by decide
  have hv := rot_val x 19 (x.toNat * 8192 % 4294967296) (x.toNat / 524288) rfl rfl
  have hv2 : Hid (bits .or .u32 ((x.toNat : Int) * 8192 % 4294967296) ((x.toNat : Int) / 524288) = ((rotr x 19).toNat : Int)) := by
    unfold Hid; rw [← hv]; congr 1
  clear hv
  go_enter Tryz.func199, Tryz.ntmps199
  go_wp2_with fail
  go_ret
  exact ⟨congrArg (fun v => Ending.returned (.int .u32 v)) hv2.out, rfl⟩
set_option maxRecDepth 20000 in
theorem rot22 (x : UInt32) (w : World) :
    Calls Tryz.prog 199 #[.int .u32 (x.toNat : Int), .int .i64 (-22)] w fun e w' => e = .returned (.int .u32 ((rotr x 22).toNat : Int)) ∧ w' = w := by
  have hx := x.toNat_lt
  have hx1 : (x.toNat : Int) ≤ 4294967295 := by omega
  have hb : bits .and .u64 (IntKind.u64.wrap (-22)) 31 = 10 := by decide
  have hv := rot_val x 22 (x.toNat * 1024 % 4294967296) (x.toNat / 4194304) rfl rfl
  have hv2 : Hid (bits .or .u32 ((x.toNat : Int) * 1024 % 4294967296) ((x.toNat : Int) / 4194304) = ((rotr x 22).toNat : Int)) := by
    unfold Hid; rw [← hv]; congr 1
  clear hv
  go_enter Tryz.func199, Tryz.ntmps199
  go_wp2_with fail
  go_ret
  exact ⟨congrArg (fun v => Ending.returned (.int .u32 v)) hv2.out, rfl⟩
set_option maxRecDepth 20000 in
theorem rot25 (x : UInt32) (w : World) :
    Calls Tryz.prog 199 #[.int .u32 (x.toNat : Int), .int .i64 (-25)] w fun e w' => e = .returned (.int .u32 ((rotr x 25).toNat : Int)) ∧ w' = w := by
  have hx := x.toNat_lt
  have hx1 : (x.toNat : Int) ≤ 4294967295 := by omega
  have hb : bits .and .u64 (IntKind.u64.wrap (-25)) 31 = 7 := by decide
  have hv := rot_val x 25 (x.toNat * 128 % 4294967296) (x.toNat / 33554432) rfl rfl
  have hv2 : Hid (bits .or .u32 ((x.toNat : Int) * 128 % 4294967296) ((x.toNat : Int) / 33554432) = ((rotr x 25).toNat : Int)) := by
    unfold Hid; rw [← hv]; congr 1
  clear hv
  go_enter Tryz.func199, Tryz.ntmps199
  go_wp2_with fail
  go_ret
  exact ⟨congrArg (fun v => Ending.returned (.int .u32 v)) hv2.out, rfl⟩
theorem rotC (w : World) (x : UInt32) (m : Int) (hm : m = -2 ∨ m = -6 ∨ m = -7 ∨ m = -11 ∨ m = -13 ∨ m = -17 ∨ m = -18 ∨ m = -19 ∨ m = -22 ∨ m = -25) :
    Calls Tryz.prog 199 #[.int .u32 (x.toNat : Int), .int .i64 m] w fun e w' => e = .returned (.int .u32 ((rotr x (-m).toNat).toNat : Int)) ∧ w' = w := by
  rcases hm with rfl | rfl | rfl | rfl | rfl | rfl | rfl | rfl | rfl | rfl
  · exact rot2 x _
  · exact rot6 x _
  · exact rot7 x _
  · exact rot11 x _
  · exact rot13 x _
  · exact rot17 x _
  · exact rot18 x _
  · exact rot19 x _
  · exact rot22 x _
  · exact rot25 x _
theorem rotQ (w : World) (n : Nat) (x : UInt32) (m : Int) (hm : m = -2 ∨ m = -6 ∨ m = -7 ∨ m = -11 ∨ m = -13 ∨ m = -17 ∨ m = -18 ∨ m = -19 ∨ m = -22 ∨ m = -25) :
    Calls Tryz.prog 199 #[.int .u32 (x.toNat : Int), .int .i64 m] (w.drewN n) fun e w'' => e = .returned (.int .u32 ((rotr x (-m).toNat).toNat : Int)) ∧ ∃ k, w'' = w.drewN k := Calls.quiet_of_same (rotC _ x m hm)
theorem xorW (a b : UInt32) : bits .xor .u32 (a.toNat : Int) (b.toNat : Int) = ((a ^^^ b).toNat : Int) := by
  rw [u32_xor_nat _ _ a.toNat_lt b.toNat_lt, UInt32.toNat_xor]
theorem andW (a b : UInt32) : bits .and .u32 (a.toNat : Int) (b.toNat : Int) = ((a &&& b).toNat : Int) := by
  rw [u32_and_nat _ _ a.toNat_lt b.toNat_lt, UInt32.toNat_and]
theorem sg0W (x : UInt32) : bits .xor .u32 (bits .xor .u32 ((rotr x 7).toNat : Int) ((rotr x 18).toNat : Int)) ((x.toNat : Int) / 8) = ((sg0 x).toNat : Int) := by
  rw [shrw3, xorW, xorW]; rfl
theorem sg1W (x : UInt32) : bits .xor .u32 (bits .xor .u32 ((rotr x 17).toNat : Int) ((rotr x 19).toNat : Int)) ((x.toNat : Int) / 1024) = ((sg1 x).toNat : Int) := by
  rw [shrw10, xorW, xorW]; rfl
theorem bg1W (x : UInt32) : bits .xor .u32 (bits .xor .u32 ((rotr x 6).toNat : Int) ((rotr x 11).toNat : Int)) ((rotr x 25).toNat : Int) = ((bg1 x).toNat : Int) := by
  rw [xorW, xorW]; rfl
theorem bg0W (x : UInt32) : bits .xor .u32 (bits .xor .u32 ((rotr x 2).toNat : Int) ((rotr x 13).toNat : Int)) ((rotr x 22).toNat : Int) = ((bg0 x).toNat : Int) := by
  rw [xorW, xorW]; rfl
theorem majW (a b c : UInt32) : bits .xor .u32 (bits .xor .u32 (bits .and .u32 (a.toNat : Int) (b.toNat : Int)) (bits .and .u32 (a.toNat : Int) (c.toNat : Int))) (bits .and .u32 (b.toNat : Int) (c.toNat : Int)) = ((maj a b c).toNat : Int) := by
  rw [andW, andW, andW, xorW, xorW]; rfl
theorem wdW (a b c d : UInt8) : bits .or .u32 (bits .or .u32 (bits .or .u32 ((a.toNat : Int) * 16777216) ((b.toNat : Int) * 65536)) ((c.toNat : Int) * 256)) (d.toNat : Int) = ((wd a b c d).toNat : Int) := by
  have ha := a.toNat_lt; have hb := b.toNat_lt; have hc := c.toNat_lt; have hd := d.toNat_lt
  have e1 : ∀ x y n : Nat, y < 2 ^ n → (x * 2 ^ n) ||| y = x * 2 ^ n + y := by
    intro x y n h; rw [Nat.mul_comm]; exact (Nat.two_pow_add_eq_or_of_lt h x).symm
  rw [show (a.toNat : Int) * 16777216 = ((a.toNat * 16777216 : Nat) : Int) by omega, show (b.toNat : Int) * 65536 = ((b.toNat * 65536 : Nat) : Int) by omega, show (c.toNat : Int) * 256 = ((c.toNat * 256 : Nat) : Int) by omega,
    u32_or_nat _ _ (by omega) (by omega)]
  have h1 : a.toNat * 16777216 ||| b.toNat * 65536 = a.toNat * 16777216 + b.toNat * 65536 := by
    rw [show (16777216 : Nat) = 2 ^ 24 from rfl]; exact e1 _ _ 24 (by omega)
  rw [h1, u32_or_nat _ _ (by omega) (by omega)]
  have h2 : (a.toNat * 16777216 + b.toNat * 65536) ||| c.toNat * 256 = a.toNat * 16777216 + b.toNat * 65536 + c.toNat * 256 := by
    rw [show a.toNat * 16777216 + b.toNat * 65536 = (a.toNat * 256 + b.toNat) * 2 ^ 16 by omega]; exact e1 _ _ 16 (by omega)
  rw [h2, u32_or_nat _ _ (by omega) (by omega)]
  have h3 : (a.toNat * 16777216 + b.toNat * 65536 + c.toNat * 256) ||| d.toNat = a.toNat * 16777216 + b.toNat * 65536 + c.toNat * 256 + d.toNat := by
    rw [show a.toNat * 16777216 + b.toNat * 65536 + c.toNat * 256 = (a.toNat * 65536 + b.toNat * 256 + c.toNat) * 2 ^ 8 by omega]; exact e1 _ _ 8 (by omega)
  rw [h3, wd_toNat]
end Go.Proofs.YtcbkaiakdhiloabGreatDoor
