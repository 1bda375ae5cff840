/- A region that draws its order, walked by a plan: what only computes is taken first, so are loads of cells that stay; calls, stores and allocations come as the edges have them. -/
import Derived.Test.YtcbkaiakdhiloabGreatDoorMaa
import Derived.OrdersHeld
import Derived.Deep.RegionHeld3
import Derived.Lib.Hide
import Derived.Laws.StructEq
import Derived.DeepKeys
set_option linter.unusedSimpArgs false
set_option linter.unusedVariables false
namespace Go.Proofs.YtcbkaiakdhiloabGreatDoor
open Go.RowKit Go.Proofs

/-- p: yields in whatever world; q: in every world of S; e: comes alone; e2, e3: one of two, of three comes first -/
inductive Pl
  | nil
  | p (k : Nat) (t : Pl)
  | q (k : Nat) (t : Pl)
  | e (k : Nat) (t : Pl)
  | e2 (k : Nat) (t : Pl) (k' : Nat) (t' : Pl)
  | e3 (k : Nat) (t : Pl) (k' : Nat) (t' : Pl) (k'' : Nat) (t'' : Pl)

section
variable {P : Program} {ops : Array Oper} {Q : Exit → Act → World → Prop} {S : World → Prop} {brk : List Nat}

def ancB (ops : Array Oper) : Nat → Nat → Nat → Bool
  | 0, _, _ => false
  | n + 1, i, j => match ops[j]? with
    | some o => o.after.any fun e => Region.binds .any e && (e.on == i || ancB ops n i e.on)
    | none => false
def ClosedL (ops : Array Oper) (L : Array Bool) : Prop := ∀ j o, ops[j]? = some o → L.getD j false = true → ∀ e ∈ o.after, Region.binds .any e = true → L.getD e.on false = true
theorem ClosedL.set {L : Array Bool} {i : Nat} (h : ClosedL ops L) (hi : i ∈ Region.ready .any ops L) : ClosedL ops (L.setIfInBounds i true) := by
  obtain ⟨_, oi, hoi, hall⟩ := mem_ready.1 hi
  intro j oj hj hl e he hb
  by_cases hij : i = j
  · subst hij
    have : oj = oi := Option.some.inj (hj.symm.trans hoi)
    subst this
    exact getD_set_true (hall e he hb)
  · rw [getD_set_ne false hij] at hl
    exact getD_set_true (h j oj hj hl e he hb)
theorem anc_done {L : Array Bool} (h : ClosedL ops L) : ∀ (n i j : Nat), ancB ops n i j = true → (∀ o, ops[j]? = some o → ∀ e ∈ o.after, Region.binds .any e = true → L.getD e.on false = true) → L.getD i false = true := by
  intro n
  induction n with
  | zero => intro i j h0; cases h0
  | succ n ih =>
    intro i j hn hd
    unfold ancB at hn
    cases ho : ops[j]? with
    | none => rw [ho] at hn; cases hn
    | some o =>
      rw [ho] at hn
      obtain ⟨e, he, hb⟩ := Array.any_eq_true'.1 hn
      simp only [Bool.and_eq_true, Bool.or_eq_true, beq_iff_eq] at hb
      have h1 := hd o ho e he hb.1
      rcases hb.2 with h2 | h2
      · rw [← h2]; exact h1
      · exact ih i e.on h2 (fun o' ho' e' he' hb' => h e.on o' ho' h1 e' he' hb')
def calm (brk : List Nat) (L : Array Bool) : Bool := brk.all fun b => !(L.getD b false)
theorem calm_of {L : Array Bool} {i n : Nat} (h : ClosedL ops L) (ha : brk.all (fun b => ancB ops n i b) = true) (hi : L.getD i false = false) : calm brk L = true := by
  unfold calm
  rw [List.all_eq_true]
  intro b hb
  cases hl : L.getD b false with
  | false => rfl
  | true =>
    have h1 := anc_done h n i b (List.all_eq_true.1 ha b hb) (fun o ho e he hbe => h b o ho hl e he hbe)
    rw [hi] at h1; cases h1

def wpAnyC (P : Program) (ops : Array Oper) (Q : Exit → Act → World → Prop) (S : World → Prop) (brk : List Nat) : Nat → Array Bool → Act → World → Prop
  | 0, listed, a, w => Region.ready .any ops listed = [] ∧ Q .normal a w
  | fuel + 1, listed, a, w =>
    (Region.ready .any ops listed = [] → Q .normal a w) ∧
    ∀ i ∈ Region.ready .any ops listed, wpOp P ops Q i (fun a' w' => (calm brk (listed.setIfInBounds i true) = true → S w') ∧ wpAnyC P ops Q S brk fuel (listed.setIfInBounds i true) a' w') a w
theorem wpAny_of_C : ∀ (fuel : Nat) (listed : Array Bool) (a : Act) (w : World), wpAnyC P ops Q S brk fuel listed a w → wpAny P .any ops Q fuel listed a w
  | 0, _, _, _, h => h
  | fuel + 1, _, _, _, h => ⟨h.1, fun i hi => wpOp_mono (fun a' w' h' => wpAny_of_C fuel _ a' w' h'.2) (h.2 i hi)⟩

theorem getD_undone {L : Array Bool} {i : Nat} (h : L.getD i true = false) : L.getD i false = false := by
  rcases Nat.lt_or_ge i L.size with h' | h'
  · simp [h'] at h ⊢; exact h
  · simp [Array.getElem?_eq_none h'] at h

theorem wpAnyC_first {T : World → Prop} {i : Nat} {oi : Oper} {v : Value} (hi : ops[i]? = some oi) (hsel : ∀ (j : Nat) (o : Oper) cs b, ops[j]? = some o → o.op ≠ .select cs b)
    (hQ : ∀ c a w, Q (.panic c) (a.put oi.dst v) w → Q (.panic c) a w) (hib : brk.contains i = false)
    (hT : ∀ L, ClosedL ops L → L.getD i false = false → ∀ w', (calm brk L = true → S w') → T w') :
    ∀ (fuel : Nat) (listed : Array Bool) (a : Act) (w : World), ClosedL ops listed →
      (∀ j oj, ops[j]? = some oj → j ≠ i → listed.getD j true = false → (∀ e ∈ oj.after, Region.binds .any e = true → e.on ≠ i) → oi.apart ops oj = true) →
      i ∈ Region.ready .any ops listed → YieldsIf P ops T oi v a → (calm brk listed = true → S w) →
      wpAnyC P ops Q S brk fuel (listed.setIfInBounds i true) (a.put oi.dst v) w → wpAnyC P ops Q S brk (fuel + 1) listed a w := by
  have hcalm : ∀ L : Array Bool, calm brk (L.setIfInBounds i true) = calm brk L := by
    intro L
    unfold calm
    rw [Bool.eq_iff_iff, List.all_eq_true, List.all_eq_true]
    constructor
    · intro h b hb
      have hne : i ≠ b := by rintro rfl; simp at hib; exact hib hb
      have := h b hb
      rwa [getD_set_ne false hne] at this
    · intro h b hb
      have hne : i ≠ b := by rintro rfl; simp at hib; exact hib hb
      rw [getD_set_ne false hne]
      exact h b hb
  intro fuel
  induction fuel with
  | zero =>
    intro listed a w hcl _ hr hy hS H
    have hTw := hT listed hcl (getD_undone (mem_ready.1 hr).1) w hS
    refine ⟨fun h => (by rw [h] at hr; cases hr), fun j hj => ?_⟩
    by_cases hji : j = i
    · subst hji; exact hy.wpOp hi hTw ⟨fun h => hS (by rwa [hcalm] at h), H⟩
    · have := ready_mono hj hji
      rw [H.1] at this
      cases this
  | succ fuel ih =>
    intro listed a w hcl hfree hr hy hS H
    have hTw := hT listed hcl (getD_undone (mem_ready.1 hr).1) w hS
    refine ⟨fun h => (by rw [h] at hr; cases hr), fun j hj => ?_⟩
    by_cases hji : j = i
    · subst hji; exact hy.wpOp hi hTw ⟨fun h => hS (by rwa [hcalm] at h), H⟩
    · have h1 := H.2 j (ready_mono hj hji)
      obtain ⟨hjun, oj, hoj, hall⟩ := mem_ready.1 hj
      have hnot : ∀ e ∈ oj.after, Region.binds .any e = true → e.on ≠ i := fun e he hb heq => by
        have h1 := hall e he hb
        have h0 := (mem_ready.1 hr).1
        rw [heq, getD_undone h0] at h1
        cases h1
      have h2 := wpOp_putIf hoj (hfree j oj hoj hji hjun hnot) (fun cs b => hsel i oi cs b hi) (fun cs b => hsel j oj cs b hoj) hQ hy h1
      have hfree' : ∀ k ok, ops[k]? = some ok → k ≠ i → (listed.setIfInBounds j true).getD k true = false →
          (∀ e ∈ ok.after, Region.binds .any e = true → e.on ≠ i) → oi.apart ops ok = true := fun k ok hk hki hun hno => by
        refine hfree k ok hk hki ?_ hno
        by_cases hjk : j = k
        · subst hjk; exact hjun
        · rw [getD_set_ne true hjk] at hun; exact hun
      refine wpOp_mono (fun a' w' h3 => ?_) h2
      have hS' : calm brk (listed.setIfInBounds j true) = true → S w' := fun hc => h3.2.1 (by
        rw [Array.setIfInBounds_comm _ _ (fun x => hji x.symm), hcalm]; exact hc)
      refine ⟨hS', ih (listed.setIfInBounds j true) a' w' (hcl.set hj) hfree' (ready_mono hr (Ne.symm hji)) h3.1 hS' ?_⟩
      rw [Array.setIfInBounds_comm _ _ hji]
      exact h3.2.2

/-- does a plan fit the region? -/
def plB (ops : Array Oper) (brk : List Nat) : Pl → Nat → Array Bool → Bool
  | .nil, f, L => (Region.ready .any ops L).isEmpty && f == 0
  | .p k t, f, L => match f with
    | 0 => false
    | f + 1 => (ops[k]?).isSome && !(brk.contains k) && Region.free .any ops L k && (Region.ready .any ops L).contains k && plB ops brk t f (L.setIfInBounds k true)
  | .q k t, f, L => match f with
    | 0 => false
    | f + 1 => (ops[k]?).isSome && !(brk.contains k) && brk.all (fun b => ancB ops ops.size k b) && Region.free .any ops L k && (Region.ready .any ops L).contains k && plB ops brk t f (L.setIfInBounds k true)
  | .e k t, f, L => match f with
    | 0 => false
    | f + 1 => decide (Region.ready .any ops L = [k]) && plB ops brk t f (L.setIfInBounds k true)
  | .e2 k t k' t', f, L => match f with
    | 0 => false
    | f + 1 => decide (Region.ready .any ops L = [k, k']) && plB ops brk t f (L.setIfInBounds k true) && plB ops brk t' f (L.setIfInBounds k' true)
  | .e3 k t k' t' k'' t'', f, L => match f with
    | 0 => false
    | f + 1 => decide (Region.ready .any ops L = [k, k', k'']) && plB ops brk t f (L.setIfInBounds k true) && plB ops brk t' f (L.setIfInBounds k' true) && plB ops brk t'' f (L.setIfInBounds k'' true)

/-- the walk by a plan -/
def wpPl (P : Program) (ops : Array Oper) (Q : Exit → Act → World → Prop) (S : World → Prop) (brk : List Nat) : Bool → Pl → Act → World → Prop
  | _, .nil, a, w => Q .normal a w
  | c, .p k t, a, w => ∃ o v, ops[k]? = some o ∧ YieldsIf P ops (fun _ => True) o v a ∧ wpPl P ops Q S brk c t (a.put o.dst v) w
  | c, .q k t, a, w => ∃ o v, ops[k]? = some o ∧ YieldsIf P ops S o v a ∧ wpPl P ops Q S brk c t (a.put o.dst v) w
  | c, .e k t, a, w => wpOp P ops Q k (fun a' w' => ((c && !(brk.contains k)) = true → S w') ∧ wpPl P ops Q S brk (c && !(brk.contains k)) t a' w') a w
  | c, .e2 k t k' t', a, w => wpOp P ops Q k (fun a' w' => ((c && !(brk.contains k)) = true → S w') ∧ wpPl P ops Q S brk (c && !(brk.contains k)) t a' w') a w ∧
      wpOp P ops Q k' (fun a' w' => ((c && !(brk.contains k')) = true → S w') ∧ wpPl P ops Q S brk (c && !(brk.contains k')) t' a' w') a w
  | c, .e3 k t k' t' k'' t'', a, w => wpOp P ops Q k (fun a' w' => ((c && !(brk.contains k)) = true → S w') ∧ wpPl P ops Q S brk (c && !(brk.contains k)) t a' w') a w ∧
      wpOp P ops Q k' (fun a' w' => ((c && !(brk.contains k')) = true → S w') ∧ wpPl P ops Q S brk (c && !(brk.contains k')) t' a' w') a w ∧
      wpOp P ops Q k'' (fun a' w' => ((c && !(brk.contains k'')) = true → S w') ∧ wpPl P ops Q S brk (c && !(brk.contains k'')) t'' a' w') a w

theorem calm_set {L : Array Bool} {k : Nat} {c : Bool} (hk : k < L.size) (h : calm brk L = c) : calm brk (L.setIfInBounds k true) = (c && !(brk.contains k)) := by
  unfold calm at h ⊢
  subst h
  rw [Bool.eq_iff_iff, List.all_eq_true, Bool.and_eq_true, List.all_eq_true]
  constructor
  · intro h
    refine ⟨fun b hb => ?_, ?_⟩
    · have h1 := h b hb
      by_cases hkb : k = b
      · subst hkb; simp [hk] at h1
      · rwa [getD_set_ne false hkb] at h1
    · rw [Bool.not_eq_true']
      cases hc : brk.contains k with
      | false => rfl
      | true =>
        have h1 := h k (by simpa using hc)
        simp [hk] at h1
  · rintro ⟨h1, h2⟩ b hb
    have hne : k ≠ b := by
      rintro rfl
      rw [Bool.not_eq_true'] at h2
      simp at h2; exact h2 hb
    rw [getD_set_ne false hne]
    exact h1 b hb
theorem ready_lt {L : Array Bool} {k : Nat} (h : k ∈ Region.ready .any ops L) : k < L.size := by
  have h0 := (mem_ready.1 h).1
  rcases Nat.lt_or_ge k L.size with h' | h'
  · exact h'
  · simp [Array.getElem?_eq_none h'] at h0

theorem wpPl_sound (hs : Region.noSelect ops = true) (hQ : ∀ c a w (d : Option Tmp) v, Q (.panic c) (a.put d v) w → Q (.panic c) a w) : ∀ (t : Pl) (f : Nat) (L : Array Bool) (c : Bool) (a : Act) (w : World), plB ops brk t f L = true → ClosedL ops L → calm brk L = c → (c = true → S w) →
    wpPl P ops Q S brk c t a w → wpAnyC P ops Q S brk f L a w := by
  intro t
  induction t with
  | nil =>
    intro f L c a w hB hcl hcm hS h
    simp only [plB, Bool.and_eq_true, List.isEmpty_iff, beq_iff_eq] at hB
    obtain ⟨h1, rfl⟩ := hB
    exact ⟨h1, h⟩
  | p k t ih =>
    intro f L c a w hB hcl hcm hS h
    rcases f with _ | f
    · cases hB
    simp only [plB, Bool.and_eq_true, Bool.not_eq_true'] at hB
    obtain ⟨⟨⟨⟨h1, h2⟩, h3⟩, h4⟩, h5⟩ := hB
    obtain ⟨o, v, ho, hy, hr⟩ := h
    have hk : k ∈ Region.ready .any ops L := by simpa using h4
    have hcs : calm brk (L.setIfInBounds k true) = c := by rw [calm_set (ready_lt hk) hcm, h2]; simp
    exact wpAnyC_first (T := fun _ => True) ho (Region.noSelect_spec hs) (fun c a w => hQ c a w _ _) h2 (fun _ _ _ _ _ => trivial) f L a w hcl (Region.free_spec ho h3) hk hy (fun hc => hS (by rw [← hcm, hc]))
      (ih f _ c _ w h5 (hcl.set hk) hcs hS hr)
  | q k t ih =>
    intro f L c a w hB hcl hcm hS h
    rcases f with _ | f
    · cases hB
    simp only [plB, Bool.and_eq_true, Bool.not_eq_true'] at hB
    obtain ⟨⟨⟨⟨⟨h1, h2⟩, h6⟩, h3⟩, h4⟩, h5⟩ := hB
    obtain ⟨o, v, ho, hy, hr⟩ := h
    have hk : k ∈ Region.ready .any ops L := by simpa using h4
    have hcs : calm brk (L.setIfInBounds k true) = c := by rw [calm_set (ready_lt hk) hcm, h2]; simp
    exact wpAnyC_first (T := S) ho (Region.noSelect_spec hs) (fun c a w => hQ c a w _ _) h2 (fun L' hL' hun w' hS' => hS' (calm_of hL' h6 hun)) f L a w hcl (Region.free_spec ho h3) hk hy (fun hc => hS (by rw [← hcm, hc]))
      (ih f _ c _ w h5 (hcl.set hk) hcs hS hr)
  | e k t ih =>
    intro f L c a w hB hcl hcm hS h
    rcases f with _ | f
    · cases hB
    simp only [plB, Bool.and_eq_true, decide_eq_true_eq] at hB
    refine ⟨fun h0 => (by rw [hB.1] at h0; cases h0), fun i hi => ?_⟩
    have hi0 := hi
    rw [hB.1] at hi
    obtain rfl : i = k := by simpa using hi
    have hcs := calm_set (brk := brk) (ready_lt hi0) hcm
    exact wpOp_mono (fun a' w' h' => ⟨fun hc => h'.1 (by rw [← hcs]; exact hc), ih f _ _ a' w' hB.2 (hcl.set hi0) hcs h'.1 h'.2⟩) h
  | e2 k t k' t' ih ih' =>
    intro f L c a w hB hcl hcm hS h
    rcases f with _ | f
    · cases hB
    simp only [plB, Bool.and_eq_true, decide_eq_true_eq] at hB
    refine ⟨fun h0 => (by rw [hB.1.1] at h0; cases h0), fun i hi => ?_⟩
    have hi0 := hi
    rw [hB.1.1] at hi
    have hcs := calm_set (brk := brk) (ready_lt hi0) hcm
    simp only [List.mem_cons, List.not_mem_nil, or_false] at hi
    rcases hi with rfl | rfl
    · exact wpOp_mono (fun a' w' h' => ⟨fun hc => h'.1 (by rw [← hcs]; exact hc), ih f _ _ a' w' hB.1.2 (hcl.set hi0) hcs h'.1 h'.2⟩) h.1
    · exact wpOp_mono (fun a' w' h' => ⟨fun hc => h'.1 (by rw [← hcs]; exact hc), ih' f _ _ a' w' hB.2 (hcl.set hi0) hcs h'.1 h'.2⟩) h.2
  | e3 k t k' t' k'' t'' ih ih' ih'' =>
    intro f L c a w hB hcl hcm hS h
    rcases f with _ | f
    · cases hB
    simp only [plB, Bool.and_eq_true, decide_eq_true_eq] at hB
    refine ⟨fun h0 => (by rw [hB.1.1.1] at h0; cases h0), fun i hi => ?_⟩
    have hi0 := hi
    rw [hB.1.1.1] at hi
    have hcs := calm_set (brk := brk) (ready_lt hi0) hcm
    simp only [List.mem_cons, List.not_mem_nil, or_false] at hi
    rcases hi with rfl | rfl | rfl
    · exact wpOp_mono (fun a' w' h' => ⟨fun hc => h'.1 (by rw [← hcs]; exact hc), ih f _ _ a' w' hB.1.1.2 (hcl.set hi0) hcs h'.1 h'.2⟩) h.1
    · exact wpOp_mono (fun a' w' h' => ⟨fun hc => h'.1 (by rw [← hcs]; exact hc), ih' f _ _ a' w' hB.1.2 (hcl.set hi0) hcs h'.1 h'.2⟩) h.2.1
    · exact wpOp_mono (fun a' w' h' => ⟨fun hc => h'.1 (by rw [← hcs]; exact hc), ih'' f _ _ a' w' hB.2 (hcl.set hi0) hcs h'.1 h'.2⟩) h.2.2

theorem closed_start (n : Nat) : ClosedL ops (Array.replicate n false) := fun j o _ h => by
  rcases Nat.lt_or_ge j n with h1 | h1 <;> simp [Array.getD, h1, Nat.not_lt.2] at h
theorem calm_start (n : Nat) : calm brk (Array.replicate n false) = true := by
  unfold calm
  rw [List.all_eq_true]
  intro b _
  rcases Nat.lt_or_ge b n with h1 | h1 <;> simp [Array.getD, h1, Nat.not_lt.2]
/-- the walk of a region that draws its order, by a plan; the post of a panic must be shown false -/
theorem wp_region_pl {id : Nat} {a : Act} {w : World} (hm : P.follows .mixedOrders = true) (S : World → Prop) (brk : List Nat) (t : Pl) (hB : (Region.noSelect ops && plB ops brk t ops.size (Array.replicate ops.size false)) = true)
    (hS : S w.drew) (h : wpPl P ops (NoPanic Q) S brk true t a w.drew) : (Code.region id ops true).wp P Q a w := by
  rw [Bool.and_eq_true] at hB
  refine wp_region_noPanic (wp_region_any hm (wpAny_of_C _ _ _ _ (wpPl_sound hB.1 (fun c a w d v h => h) t _ _ true a _ hB.2 (closed_start _) (calm_start _) (fun _ => hS) h)))

/-- the same; the world is forgotten but for S, and so is what stands behind, and the operations have a letter -/
theorem wp_region_pls {id : Nat} {a : Act} {w : World} {opl : List Oper} (hm : P.follows .mixedOrders = true) (S : World → Prop) (brk : List Nat) (t : Pl) (hB : (Region.noSelect opl.toArray && plB opl.toArray brk t opl.toArray.size (Array.replicate opl.toArray.size false)) = true)
    (hS : S w.drew) (h : ∀ (ops' : Array Oper) (Q' : Exit → Act → World → Prop), Hid (ops' = opl.toArray) → (∀ a w, Q .normal a w → Q' .normal a w) → ∀ w1, S w1 → wpPl P ops' Q' S brk true t a w1) : (Code.region id opl.toArray true).wp P Q a w :=
  wp_region_pl hm S brk t hB hS (h opl.toArray (NoPanic Q) (Lib.hid rfl) (fun _ _ h => h) _ hS)
theorem ops_at {opl : List Oper} {k : Nat} {o : Oper} (hO : Hid (ops = opl.toArray)) (ho : opl[k]? = some o) : ops[k]? = some o := by rw [hO.out]; simpa using ho
theorem ops_dst {opl : List Oper} {j d : Nat} (hO : Hid (ops = opl.toArray)) (hd : (opl[j]?).bind (·.dst) = some d) : (ops[j]?).bind (·.dst) = some d := by rw [hO.out]; simpa using hd
theorem i64w (n : Int) : IntKind.i64.wrap n = wrap64 n := IntWalk.i64_left n

/-! steps -/
variable {k : Nat} {o : Oper} {t : Pl} {a : Act} {w : World} {c : Bool}
theorem pl_nil (h : Q .normal a w) : wpPl P ops Q S brk c .nil a w := h
theorem pl_p (ho : ops[k]? = some o) (hw : Region.wanted o (yielded ops a.tmps) = true) (v : Value) (hv : ∀ w, (execOp a.eval o).run P w = .ok (.value v) w) (h : wpPl P ops Q S brk c t (a.put o.dst v) w) : wpPl P ops Q S brk c (.p k t) a w :=
  ⟨o, v, ho, .inl ⟨hw, fun w _ => hv w⟩, h⟩
theorem pl_q (ho : ops[k]? = some o) (hw : Region.wanted o (yielded ops a.tmps) = true) (v : Value) (hv : ∀ w, S w → (execOp a.eval o).run P w = .ok (.value v) w) (h : wpPl P ops Q S brk c t (a.put o.dst v) w) : wpPl P ops Q S brk c (.q k t) a w :=
  ⟨o, v, ho, .inl ⟨hw, hv⟩, h⟩
theorem pl_p_no (ho : ops[k]? = some o) (hw : Region.wanted o (yielded ops a.tmps) = false) (h : wpPl P ops Q S brk c t (a.put o.dst undef) w) : wpPl P ops Q S brk c (.p k t) a w :=
  ⟨o, undef, ho, .inr ⟨hw, rfl⟩, h⟩
theorem pl_q_no (ho : ops[k]? = some o) (hw : Region.wanted o (yielded ops a.tmps) = false) (h : wpPl P ops Q S brk c t (a.put o.dst undef) w) : wpPl P ops Q S brk c (.q k t) a w :=
  ⟨o, undef, ho, .inr ⟨hw, rfl⟩, h⟩
/-- a call, a store: S stays -/
theorem pl_e (ho : ops[k]? = some o) (hw : Region.wanted o (yielded ops a.tmps) = true) (hb : (c && !(brk.contains k)) = true)
    (h : ∀ K : Act → World → Prop, (∀ a' w', S w' → (S w' → wpPl P ops Q S brk true t a' w') → K a' w') → o.wp P a w K Q) : wpPl P ops Q S brk c (.e k t) a w := by
  unfold wpPl wpOp
  simp only [ho, hw, if_true, hb]
  exact .inl (h _ fun a' w' h1 h2 => ⟨fun _ => h1, h2 h1⟩)
/-- S is not asked any more -/
theorem pl_b (ho : ops[k]? = some o) (hw : Region.wanted o (yielded ops a.tmps) = true) (hb : (c && !(brk.contains k)) = false)
    (h : ∀ K : Act → World → Prop, (∀ a' w', wpPl P ops Q S brk false t a' w' → K a' w') → o.wp P a w K Q) : wpPl P ops Q S brk c (.e k t) a w := by
  unfold wpPl wpOp
  simp only [ho, hw, if_true, hb]
  exact .inl (h _ fun a' w' h2 => ⟨fun h1 => by simp at h1, h2⟩)
theorem pl_e_no (ho : ops[k]? = some o) (hw : Region.wanted o (yielded ops a.tmps) = false) (hb : (c && !(brk.contains k)) = c) (hS : c = true → S w) (h : wpPl P ops Q S brk c t (a.put o.dst undef) w) : wpPl P ops Q S brk c (.e k t) a w := by
  unfold wpPl wpOp
  simp only [ho, hw, hb]
  exact ⟨hS, h⟩
theorem yielded_of {j d : Nat} {b : Bool} {a : Act} (hd : (ops[j]?).bind (·.dst) = some d) (hv : a.eval (.tmp d) = .bool b) : yielded ops a.tmps j = some b := by
  unfold yielded
  rw [hd]
  have h1 : a.tmps.getD d undef = .bool b := hv
  simp only [Option.bind_some]
  by_cases hlt : d < a.tmps.size
  · simp [Array.getD, hlt] at h1
    simp [hlt, h1]
  · simp [Array.getD, hlt] at h1
    cases h1
theorem wanted0 {o : Oper} {y : Nat → Option Bool} (hg : o.guard = none) : Region.wanted o y = true := by unfold Region.wanted; rw [hg]
theorem wanted1 {o : Oper} {j d : Nat} {b : Bool} {a : Act} (hg : o.guard = some (j, b)) (hd : (ops[j]?).bind (·.dst) = some d) (hv : a.eval (.tmp d) = .bool b) : Region.wanted o (yielded ops a.tmps) = true := by
  unfold Region.wanted; rw [hg]; simp only [yielded_of hd hv, beq_self_eq_true]
theorem wantedN {o : Oper} {j d : Nat} {b : Bool} {a : Act} (hg : o.guard = some (j, b)) (hd : (ops[j]?).bind (·.dst) = some d) (hv : a.eval (.tmp d) = .bool (!b)) : Region.wanted o (yielded ops a.tmps) = false := by
  unfold Region.wanted; rw [hg]; simp only [yielded_of hd hv]; cases b <;> rfl
variable {opl : List Oper}
theorem pl_p0 (hO : Hid (ops = opl.toArray)) (ho : opl[k]? = some o) (hg : o.guard = none) (v : Value) (hv : ∀ w, (execOp a.eval o).run P w = .ok (.value v) w) (h : wpPl P ops Q S brk c t (a.put o.dst v) w) : wpPl P ops Q S brk c (.p k t) a w := pl_p (ops_at hO ho) (wanted0 hg) v hv h
theorem pl_q0 (hO : Hid (ops = opl.toArray)) (ho : opl[k]? = some o) (hg : o.guard = none) (v : Value) (hv : ∀ w, S w → (execOp a.eval o).run P w = .ok (.value v) w) (h : wpPl P ops Q S brk c t (a.put o.dst v) w) : wpPl P ops Q S brk c (.q k t) a w := pl_q (ops_at hO ho) (wanted0 hg) v hv h
theorem pl_p1 {j d : Nat} {b : Bool} (hO : Hid (ops = opl.toArray)) (ho : opl[k]? = some o) (hg : o.guard = some (j, b)) (hd : (opl[j]?).bind (·.dst) = some d) (hb : a.eval (.tmp d) = .bool b) (v : Value) (hv : ∀ w, (execOp a.eval o).run P w = .ok (.value v) w) (h : wpPl P ops Q S brk c t (a.put o.dst v) w) : wpPl P ops Q S brk c (.p k t) a w := pl_p (ops_at hO ho) (wanted1 hg (ops_dst hO hd) hb) v hv h
theorem pl_q1 {j d : Nat} {b : Bool} (hO : Hid (ops = opl.toArray)) (ho : opl[k]? = some o) (hg : o.guard = some (j, b)) (hd : (opl[j]?).bind (·.dst) = some d) (hb : a.eval (.tmp d) = .bool b) (v : Value) (hv : ∀ w, S w → (execOp a.eval o).run P w = .ok (.value v) w) (h : wpPl P ops Q S brk c t (a.put o.dst v) w) : wpPl P ops Q S brk c (.q k t) a w := pl_q (ops_at hO ho) (wanted1 hg (ops_dst hO hd) hb) v hv h
theorem pl_pn {j d : Nat} {b : Bool} (hO : Hid (ops = opl.toArray)) (ho : opl[k]? = some o) (hg : o.guard = some (j, b)) (hd : (opl[j]?).bind (·.dst) = some d) (hb : a.eval (.tmp d) = .bool (!b)) (h : wpPl P ops Q S brk c t (a.put o.dst undef) w) : wpPl P ops Q S brk c (.p k t) a w := pl_p_no (ops_at hO ho) (wantedN hg (ops_dst hO hd) hb) h
theorem pl_qn {j d : Nat} {b : Bool} (hO : Hid (ops = opl.toArray)) (ho : opl[k]? = some o) (hg : o.guard = some (j, b)) (hd : (opl[j]?).bind (·.dst) = some d) (hb : a.eval (.tmp d) = .bool (!b)) (h : wpPl P ops Q S brk c t (a.put o.dst undef) w) : wpPl P ops Q S brk c (.q k t) a w := pl_q_no (ops_at hO ho) (wantedN hg (ops_dst hO hd) hb) h
theorem pl_en {j d : Nat} {b : Bool} (hO : Hid (ops = opl.toArray)) (ho : opl[k]? = some o) (hg : o.guard = some (j, b)) (hd : (opl[j]?).bind (·.dst) = some d) (hv : a.eval (.tmp d) = .bool (!b)) (hb : (c && !(brk.contains k)) = c) (hS : c = true → S w) (h : wpPl P ops Q S brk c t (a.put o.dst undef) w) : wpPl P ops Q S brk c (.e k t) a w := pl_e_no (ops_at hO ho) (wantedN hg (ops_dst hO hd) hv) hb hS h
theorem pl_e0 (hO : Hid (ops = opl.toArray)) (ho : opl[k]? = some o) (hg : o.guard = none) (hb : (c && !(brk.contains k)) = true)
    (h : ∀ K : Act → World → Prop, (∀ a' w', S w' → (S w' → wpPl P ops Q S brk true t a' w') → K a' w') → o.wp P a w K Q) : wpPl P ops Q S brk c (.e k t) a w := pl_e (ops_at hO ho) (wanted0 hg) hb h
theorem pl_e1 {j d : Nat} {b : Bool} (hO : Hid (ops = opl.toArray)) (ho : opl[k]? = some o) (hg : o.guard = some (j, b)) (hd : (opl[j]?).bind (·.dst) = some d) (hv : a.eval (.tmp d) = .bool b) (hb : (c && !(brk.contains k)) = true)
    (h : ∀ K : Act → World → Prop, (∀ a' w', S w' → (S w' → wpPl P ops Q S brk true t a' w') → K a' w') → o.wp P a w K Q) : wpPl P ops Q S brk c (.e k t) a w := pl_e (ops_at hO ho) (wanted1 hg (ops_dst hO hd) hv) hb h
theorem pl_b0 (hO : Hid (ops = opl.toArray)) (ho : opl[k]? = some o) (hg : o.guard = none) (hb : (c && !(brk.contains k)) = false)
    (h : ∀ K : Act → World → Prop, (∀ a' w', wpPl P ops Q S brk false t a' w' → K a' w') → o.wp P a w K Q) : wpPl P ops Q S brk c (.e k t) a w := pl_b (ops_at hO ho) (wanted0 hg) hb h
theorem pl_b1 {j d : Nat} {b : Bool} (hO : Hid (ops = opl.toArray)) (ho : opl[k]? = some o) (hg : o.guard = some (j, b)) (hd : (opl[j]?).bind (·.dst) = some d) (hv : a.eval (.tmp d) = .bool b) (hb : (c && !(brk.contains k)) = false)
    (h : ∀ K : Act → World → Prop, (∀ a' w', wpPl P ops Q S brk false t a' w' → K a' w') → o.wp P a w K Q) : wpPl P ops Q S brk c (.e k t) a w := pl_b (ops_at hO ho) (wanted1 hg (ops_dst hO hd) hv) hb h
theorem pl_e2 {k' : Nat} {t' : Pl} (h1 : wpPl P ops Q S brk c (.e k t) a w) (h2 : wpPl P ops Q S brk c (.e k' t') a w) : wpPl P ops Q S brk c (.e2 k t k' t') a w := ⟨h1, h2⟩
theorem pl_e3 {k' k'' : Nat} {t' t'' : Pl} (h1 : wpPl P ops Q S brk c (.e k t) a w) (h2 : wpPl P ops Q S brk c (.e k' t') a w) (h3 : wpPl P ops Q S brk c (.e k'' t'') a w) : wpPl P ops Q S brk c (.e3 k t k' t' k'' t'') a w := ⟨h1, h2, h3⟩
end
end Go.Proofs.YtcbkaiakdhiloabGreatDoor
namespace Go.Proofs.YtcbkaiakdhiloabGreatDoor
open Go.RowKit Go.Proofs

section
variable {P : Program} (w : World)
/-- the part of a row that holds the value at off -/
def partV (P : Program) (e : TypeId) (xs : Array Value) (off : Nat) : Option Value :=
  match P.underlying e with
  | some (.struct _) => some (.agg (xs.extract off (off + P.cellsOf e)))
  | some (.array _ _) => some (.agg (xs.extract off (off + P.cellsOf e)))
  | some _ => xs[off]?
  | none => none
theorem run_partV {e : TypeId} {xs : Array Value} {off : Nat} {a : Value} (h : partV P e xs off = some a) : (part e xs off).run P w = .ok a w := by
  unfold partV at h
  cases hu : P.underlying e with
  | none => simp [hu] at h
  | some kd =>
    obtain ⟨i, hi⟩ := info_of_underlying hu
    cases kd <;> simp [hu] at h <;> first | (subst h; simp [part, isAgg, run_underlying hu, run_sizeOf w hi]) | simp [part, isAgg, run_underlying hu, h]

/-- of this value '==' with itself is sure to answer true -/
def selfEq (P : Program) : Nat → TypeId → Value → Bool
  | 0, _, _ => false
  | m + 1, t, v => match P.underlying t, v with
    | some .bool, .bool _ => true
    | some (.int _), .int _ _ => true
    | some .string, .string _ => true
    | some (.array n e), .agg xs => (P.info? e).isSome && (List.range n).all fun i => match partV P e xs (i * P.cellsOf e) with | some a => selfEq P m e a | none => false
    | some (.struct fs), .agg xs => !P.stoodInHeld t && fs.toList.all fun f => f.name == "_" || match partV P f.type xs f.offset with | some a => selfEq P m f.type a | none => false
    | _, _ => false

theorem eqItems_self (d : Nat) {e : TypeId} {c : Nat} {xs : Array Value} : ∀ (is : List Nat),
    (∀ i ∈ is, ∃ a, partV P e xs (i * c) = some a ∧ (Op.equalIn d e a a).run P w = .ok true w) → (Op.eqItems d e c xs xs is).run P w = .ok true w
  | [], _ => by simp [Op.eqItems]
  | i :: is, h => by
    obtain ⟨a, h1, h2⟩ := h i (by simp)
    simp only [Op.eqItems, Sem.run_bind, run_partV w h1, h2, Result.andThen_ok, Bool.not_true, Bool.false_eq_true, if_false]
    exact eqItems_self d is fun j hj => h j (by simp [hj])
theorem eqFields_self (d : Nat) {xs : Array Value} : ∀ (fs : List Field),
    (∀ f ∈ fs, f.name = "_" ∨ ∃ a, partV P f.type xs f.offset = some a ∧ (Op.equalIn d f.type a a).run P w = .ok true w) → (Op.eqFields d xs xs fs).run P w = .ok true w
  | [], _ => by simp [Op.eqFields]
  | f :: fs, h => by
    have ih := eqFields_self d fs fun g hg => h g (by simp [hg])
    unfold Op.eqFields
    rw [Sem.run_ite]
    split
    · next hn =>
      rcases h f (by simp) with h0 | ⟨a, h1, h2⟩
      · exact absurd h0 hn
      · simp only [Sem.run_bind, run_partV w h1, h2, Result.andThen_ok, Bool.not_true, Bool.false_eq_true, if_false]
        exact ih
    · exact ih

theorem equalIn_self (d : Nat) : ∀ (m : Nat) (t : TypeId) (v : Value), selfEq P m t v = true → (Op.equalIn (d + m) t v v).run P w = .ok true w
  | 0, t, v, h => by simp [selfEq] at h
  | m + 1, t, v, h => by
    unfold selfEq at h
    cases hu : P.underlying t with
    | none => simp [hu] at h
    | some kd =>
      simp only [hu] at h
      rw [show d + (m + 1) = (d + m) + 1 from rfl]
      have h0 := h
      cases kd <;> cases v <;> simp at h
      · rw [run_equalIn_bool' w (d + m) t _ _ hu]; simp
      · rw [run_equalIn_int w (d + m) t _ _ _ _ hu]; simp
      · rw [run_equalIn_string w (d + m) t _ _ hu]; simp
      · next n e xs =>
        obtain ⟨i, hi⟩ := Option.isSome_iff_exists.1 h.1
        rw [run_equalIn_array w (d + m) xs xs hu hi]
        refine eqItems_self w (d + m) _ fun j hj => ?_
        have h2 := h.2 j (by simpa using hj)
        cases hp : partV P e xs (j * P.cellsOf e) with
        | none => simp [hp] at h2
        | some a => rw [hp] at h2; exact ⟨a, rfl, equalIn_self d m e a h2⟩
      · next fs xs =>
        have hf : P.fieldsOf t = fs := by unfold Program.fieldsOf; rw [hu]
        rw [run_equalIn_struct w (d + m) t xs xs (by rw [hf]; exact hu) h.1, hf]
        refine eqFields_self w (d + m) _ fun f hfm => ?_
        simp only [Bool.and_eq_true] at h0
        have h2 := List.all_eq_true.1 h0.2 f hfm
        simp only [Bool.or_eq_true, beq_iff_eq] at h2
        rcases h2 with h2 | h2
        · exact .inl h2
        · refine .inr ?_
          cases hp : partV P f.type xs f.offset with
          | none => simp [hp] at h2
          | some a => rw [hp] at h2; exact ⟨a, rfl, equalIn_self d m f.type a h2⟩

theorem eql_self {t : TypeId} {xs : Array Value} (h : selfEq P 8 t (.agg xs) = true) : (binOp .eql t (.agg xs) (.agg xs)).run P w = .ok (.bool true) w := by
  rw [run_eql_struct w t xs xs, show (10000 : Nat) = 9992 + 8 from rfl, equalIn_self w 9992 8 t (.agg xs) h]; rfl
end
end Go.Proofs.YtcbkaiakdhiloabGreatDoor
