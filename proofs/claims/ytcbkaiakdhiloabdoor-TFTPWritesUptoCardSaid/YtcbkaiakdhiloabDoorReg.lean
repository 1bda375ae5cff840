/- A region that draws its order, by an invariant: whatever order the edges allow, each operation keeps it. -/
import Derived.Test.YtcbkaiakdhiloabDoorMem
import Derived.Orders
import Derived.Deep.MidRow
set_option linter.unusedSimpArgs false
set_option linter.unusedVariables false
namespace Go.Proofs.YtcbkaiakdhiloabDoor
open Go.RowKit Go.Proofs

/-- every edge leads backward -/
def backB (ops : Array Oper) : Bool := (List.range ops.size).all fun i => match ops[i]? with | some o => o.after.toList.all fun e => !Region.binds .any e || decide (e.on < i) | none => true

section
variable {P : Program} {ops : Array Oper} {Q : Exit → Act → World → Prop}

theorem ready_mem {md : Region.Mode} {listed : Array Bool} {i : Nat} (h : i ∈ Region.ready md ops listed) :
    ∃ o, ops[i]? = some o ∧ listed.getD i true = false ∧ ∀ e ∈ o.after.toList, Region.binds md e = true → listed.getD e.on false = true := by
  unfold Region.ready at h
  simp only [List.mem_filter, List.mem_range, Bool.and_eq_true, Bool.not_eq_true'] at h
  obtain ⟨hi, h1, h2⟩ := h
  have ho : ops[i]? = some ops[i] := Array.getElem?_eq_getElem hi
  rw [ho] at h2
  refine ⟨_, ho, h1, fun e he hb => ?_⟩
  simp only [Option.map_some, Option.getD_some, Array.all_eq_true'] at h2
  have := h2 e (by simpa using he)
  simpa [hb] using this

theorem all_of_ready_nil {listed : Array Bool} (hb : backB ops = true) (hs : listed.size = ops.size) (h : Region.ready .any ops listed = []) :
    ∀ i, i < ops.size → listed.getD i false = true := by
  intro i
  induction i using Nat.strongRecOn with
  | ind i ih =>
    intro hi
    rcases hx : listed.getD i false with _ | _
    · exfalso
      have ho : ops[i]? = some ops[i] := Array.getElem?_eq_getElem hi
      have hmem : i ∈ Region.ready .any ops listed := by
        unfold Region.ready
        simp only [List.mem_filter, List.mem_range, Bool.and_eq_true, Bool.not_eq_true']
        refine ⟨hi, ?_, ?_⟩
        · have hl : i < listed.size := by omega
          simp only [Array.getD, hl, dif_pos] at hx ⊢; exact hx
        · rw [ho]
          simp only [Option.map_some, Option.getD_some, Array.all_eq_true']
          intro e he
          unfold backB at hb
          have h1 := List.all_eq_true.1 hb i (by simpa using hi)
          rw [ho] at h1
          have h2 := List.all_eq_true.1 h1 e (by simpa using he)
          rcases hbe : Region.binds .any e with _ | _
          · simp
          · have hlt : e.on < i := by simpa [hbe] using h2
            simp [ih e.on hlt (by omega)]
      rw [h] at hmem; cases hmem
    · rfl

/-- how many are still to come -/
def toCome (listed : Array Bool) : Nat := (listed.toList.filter fun b => !b).length
theorem toCome_set {listed : Array Bool} {i : Nat} (h : listed.getD i true = false) : toCome (listed.setIfInBounds i true) + 1 = toCome listed := by
  have hl : i < listed.size := by
    rcases Nat.lt_or_ge i listed.size with h1 | h1
    · exact h1
    · simp [Array.getD, Nat.not_lt.2 h1] at h
  unfold toCome
  obtain ⟨l⟩ := listed
  simp only [List.setIfInBounds_toArray] at *
  induction l generalizing i with
  | nil => simp at hl
  | cons b r ih =>
    rcases i with _ | i
    · have hb : b = false := by simpa [Array.getD] using h
      subst hb
      simp
    · have := ih (i := i) (by simpa [Array.getD] using h) (by simpa using hl)
      cases b <;> simp at this ⊢ <;> omega
theorem toCome_start (n : Nat) : toCome (Array.replicate n false) = n := by simp [toCome]
theorem ready_nil_of_none {md : Region.Mode} {listed : Array Bool} (h : toCome listed = 0) (hs : listed.size = ops.size) : Region.ready md ops listed = [] := by
  cases hr : Region.ready md ops listed with
  | nil => rfl
  | cons i r =>
    obtain ⟨o, ho, h1, _⟩ := ready_mem (md := md) (listed := listed) (ops := ops) (i := i) (by rw [hr]; simp)
    have := toCome_set h1
    omega

theorem wpAny_inv (I : (Nat → Bool) → Act → World → Prop) (hb : backB ops = true)
    (hstep : ∀ L a w i o, I L a w → ops[i]? = some o → L i = false → (∀ e ∈ o.after.toList, Region.binds .any e = true → L e.on = true) →
      wpOp P ops Q i (fun a' w' => I (fun j => if j = i then true else L j) a' w') a w)
    (hend : ∀ L a w, I L a w → (∀ i, i < ops.size → L i = true) → Q .normal a w) :
    ∀ (fuel : Nat) (listed : Array Bool) (a : Act) (w : World), listed.size = ops.size → toCome listed = fuel → I (fun j => listed.getD j false) a w → wpAny P .any ops Q fuel listed a w
  | 0, listed, a, w, hs, hf, h => by
    have hr := ready_nil_of_none (md := .any) (ops := ops) hf hs
    exact ⟨hr, hend _ _ _ h (all_of_ready_nil hb hs hr)⟩
  | fuel + 1, listed, a, w, hs, hf, h => by
    refine ⟨fun hr => hend _ _ _ h (all_of_ready_nil hb hs hr), fun i hi => ?_⟩
    obtain ⟨o, ho, h1, h2⟩ := ready_mem hi
    have hl : i < listed.size := by
      rcases Nat.lt_or_ge i listed.size with h3 | h3
      · exact h3
      · simp [Array.getD, Nat.not_lt.2 h3] at h1
    have hLi : listed.getD i false = false := by simp only [Array.getD, hl, dif_pos] at h1 ⊢; exact h1
    refine wpOp_mono (fun a' w' h' => ?_) (hstep _ a w i o h ho hLi h2)
    refine wpAny_inv I hb hstep hend fuel _ a' w' (by simpa using hs) (by have := toCome_set h1; omega) ?_
    have e : (fun j => (listed.setIfInBounds i true).getD j false) = fun j => if j = i then true else listed.getD j false := by
      funext j
      by_cases hj : j = i
      · subst hj; simp [Array.getD, hl]
      · have hj' : ¬ i = j := fun x => hj x.symm
        simp only [hj, if_false]
        by_cases hjs : j < listed.size <;> simp [Array.getD, hjs, hj', Array.getElem_setIfInBounds]
    rw [e]; exact h'

theorem wp_region_inv {id : Nat} {a : Act} {w : World} (hm : P.follows .mixedOrders = true) (I : (Nat → Bool) → Act → World → Prop) (hb : backB ops = true)
    (h0 : I (fun _ => false) a w.drew)
    (hstep : ∀ L a w i o, I L a w → ops[i]? = some o → L i = false → (∀ e ∈ o.after.toList, Region.binds .any e = true → L e.on = true) →
      wpOp P ops Q i (fun a' w' => I (fun j => if j = i then true else L j) a' w') a w)
    (hend : ∀ L a w, I L a w → (∀ i, i < ops.size → L i = true) → Q .normal a w) : (Code.region id ops true).wp P Q a w := by
  refine wp_region_any hm (wpAny_inv I hb hstep hend ops.size _ a _ (by simp) (toCome_start _) ?_)
  have e : (fun j => (Array.replicate ops.size false).getD j false) = fun _ => false := by
    funext j; by_cases hj : j < ops.size <;> simp [Array.getD, hj]
  rw [e]; exact h0

def upd (u : Nat → Value) (i : Nat) (v : Value) : Nat → Value := fun j => if j = i then v else u j
theorem upd_self {u : Nat → Value} {i : Nat} {v : Value} (h : u i = v) : u = upd u i v := by
  funext j; unfold upd; split
  · next e => rw [e, h]
  · rfl
def mark (L : Nat → Bool) (i : Nat) : Nat → Bool := fun j => if j = i then true else L j
theorem wpOp_of {i : Nat} {o : Oper} {K : Act → World → Prop} {a : Act} {w : World} (ho : ops[i]? = some o) (hg : o.guard = none) (h : o.wp P a w K Q) : wpOp P ops Q i K a w := by
  unfold wpOp; rw [ho]
  simp only [Region.wanted, hg, if_true]
  exact .inl h

/-- Of a region in which no operation is guarded: each operation's value has a property Φ that what follows keeps; G: of the world, and of what is done. -/
theorem wp_region_ssa {id : Nat} {w : World} (hm : P.follows .mixedOrders = true) (hb : backB ops = true) (hgd : (List.range ops.size).all (fun i => match ops[i]? with | some o => o.guard.isNone | none => true) = true)
    (fr : (Nat → Value) → Act) (Φ : Nat → Value → World → Prop) (G : (Nat → Bool) → World → Prop) (u0 : Nat → Value) (h0 : G (fun _ => false) w.drew)
    (hstep : ∀ L u w i o, G L w → (∀ j, L j = true → Φ j (u j) w) → ops[i]? = some o → L i = false → (∀ e ∈ o.after.toList, Region.binds .any e = true → L e.on = true) →
      ∀ K : Act → World → Prop, (∀ v w', Φ i v w' → G (mark L i) w' → (∀ j x, L j = true → Φ j x w → Φ j x w') → K (fr (upd u i v)) w') → o.wp P (fr u) w K Q)
    (hend : ∀ u w, (∀ i, i < ops.size → Φ i (u i) w) → (∀ L, (∀ i, i < ops.size → L i = true) → G L w → Q .normal (fr u) w)) : (Code.region id ops true).wp P Q (fr u0) w := by
  refine wp_region_inv hm (fun L a w => ∃ u, a = fr u ∧ (∀ j, L j = true → Φ j (u j) w) ∧ G L w) hb ⟨u0, rfl, (fun j h => by cases h), h0⟩ ?_ ?_
  · rintro L a w i o ⟨u, rfl, hΦ, hG⟩ ho hL hd
    have hi : i < ops.size := by
      rcases Nat.lt_or_ge i ops.size with h | h
      · exact h
      · rw [Array.getElem?_eq_none h] at ho; cases ho
    have hg : o.guard = none := by
      have h1 := List.all_eq_true.1 hgd i (by simpa using hi)
      rw [ho] at h1
      simpa using h1
    refine wpOp_of ho hg (hstep L u w i o hG hΦ ho hL hd _ fun v w' h1 h2 h3 => ⟨upd u i v, rfl, fun j hj => ?_, h2⟩)
    by_cases hji : j = i
    · subst hji; simpa [upd] using h1
    · simp only [upd, hji, if_false] at hj ⊢
      exact h3 j _ hj (hΦ j hj)
  · rintro L a w ⟨u, rfl, hΦ, hG⟩ hall
    exact hend u w (fun i hi => hΦ i (hall i hi)) L hall hG
end

/-- what is done is closed under what must come first -/
def Cl (ops : Array Oper) (L : Nat → Bool) : Prop := ∀ i o, ops[i]? = some o → L i = true → ∀ e ∈ o.after.toList, Region.binds .any e = true → L e.on = true
theorem Cl.start (ops : Array Oper) : Cl ops (fun _ => false) := fun _ _ _ h => by cases h
theorem Cl.mark {ops : Array Oper} {L : Nat → Bool} {i : Nat} {o : Oper} (h : Cl ops L) (ho : ops[i]? = some o) (hd : ∀ e ∈ o.after.toList, Region.binds .any e = true → L e.on = true) : Cl ops (mark L i) := by
  intro j p hp hj e he hb
  unfold Go.Proofs.YtcbkaiakdhiloabDoor.mark at hj ⊢
  by_cases hji : j = i
  · subst hji
    rw [ho] at hp; injection hp with hp; subst hp
    by_cases hei : e.on = j
    · simp [hei]
    · simp only [hei, if_false]; exact hd e he hb
  · simp only [hji, if_false] at hj
    by_cases hei : e.on = i
    · simp [hei]
    · simp only [hei, if_false]; exact h j p hp hj e he hb
theorem Cl.dep {ops : Array Oper} {L : Nat → Bool} (h : Cl ops L) (i k : Nat) (hi : L i = true) (hk : ((ops[i]?).any fun o => o.after.toList.any fun e => e.on == k && Region.binds .any e) = true) : L k = true := by
  cases ho : ops[i]? with
  | none => rw [ho] at hk; cases hk
  | some o =>
    rw [ho] at hk
    simp only [Option.any_some, List.any_eq_true, Bool.and_eq_true, beq_iff_eq] at hk
    obtain ⟨e, he, rfl, hb⟩ := hk
    exact h i o ho hi e he hb

/-! Whole blocks: loads and stores. -/
theorem Bk.cells {w : World} {g : Nat} {t : TypeId} {cs : Array Value} (h : Bk w g t cs) : ∀ j, w.cell? ⟨g, j, none⟩ = cs[j]? := fun j => h.cell j
theorem Bk.frees {w : World} {g : Nat} {t : TypeId} {cs : Array Value} (h : Bk w g t cs) : ∀ j, w.frozen? ⟨g, j, none⟩ = false := fun j => h.free j
theorem Bk.setMany {g : Nat} {t : TypeId} : ∀ (vs : List Value) (o : Nat) (w : World) (cs : Array Value), Bk w g t cs → o + vs.length ≤ cs.size →
    ∃ cs', Bk (w.setCells g o vs) g t cs' ∧ cs'.size = cs.size ∧ ∀ j, cs'[j]? = if o ≤ j ∧ j < o + vs.length then vs[j - o]? else cs[j]?
  | [], o, w, cs, h, _ => ⟨cs, h, rfl, fun j => by
      rw [if_neg (by rintro ⟨h1, h2⟩; simp at h2; omega)]⟩
  | v :: r, o, w, cs, h, hl => by
    simp only [List.length_cons] at hl
    obtain ⟨cs', h1, h2, h3⟩ := Bk.setMany r (o + 1) _ _ (h.set o v) (by simpa using (by omega : o + 1 + r.length ≤ cs.size))
    refine ⟨cs', h1, by simpa using h2, fun j => ?_⟩
    rw [h3 j]
    by_cases hj : j = o
    · subst hj
      have e1 : ¬ (j + 1 ≤ j ∧ j < j + 1 + r.length) := by omega
      have e2 : j ≤ j ∧ j < j + (v :: r).length := by simp
      rw [if_neg e1, if_pos e2]
      simp [Array.getElem?_setIfInBounds, (by omega : j < cs.size)]
    · by_cases hin : o + 1 ≤ j ∧ j < o + 1 + r.length
      · rw [if_pos hin, if_pos (by simp; omega), show j - o = (j - (o + 1)) + 1 by omega, List.getElem?_cons_succ]
      · rw [if_neg hin, if_neg (by simp; omega), Array.getElem?_setIfInBounds_ne (fun e => hj e.symm)]
theorem Bk.setAll {w : World} {g : Nat} {t : TypeId} {cs cells : Array Value} (h : Bk w g t cs) (hs : cells.size = cs.size) : Bk (w.setCells g 0 cells.toList) g t cells := by
  obtain ⟨cs', h1, h2, h3⟩ := Bk.setMany cells.toList 0 w cs h (by simp [hs])
  have e : cs' = cells := by
    apply Array.ext_getElem?
    intro j
    rw [h3 j]
    by_cases hj : j < cells.size
    · simp [hj]
    · simp [hj, Array.getElem?_eq_none (Nat.not_lt.1 hj), Array.getElem?_eq_none (by omega : cs.size ≤ j)]
  subst e; exact h1
theorem fr_setCells {S : Nat → Prop} {g : Nat} {w0 : World} (hg : g < w0.heap.size → S g) : ∀ (vs : List Value) (o : Nat) (w : World), Fr S w0 w → Fr S w0 (w.setCells g o vs)
  | [], _, _, h => h
  | v :: r, o, w, h => fr_setCells hg r (o + 1) _ (h.setCell (p := ⟨g, o, none⟩) hg v)
theorem wp_store_bk {P : Program} {o : Oper} {a : Act} {w : World} {K : Act → World → Prop} {Q : Exit → Act → World → Prop} (ty : TypeId) (x y : Operand) (ho : o.op = .store ty x y)
    (g : Nat) (t : TypeId) (cs cells : Array Value) (hx : a.eval x = .pointer (some ⟨g, 0, none⟩)) (hy : a.eval y = .agg cells) (hb : Bk w g t cs) (hs : cells.size = cs.size)
    (hi : (P.info? ty).map (·.size) = some cells.size) (h1 : cells.all (·.oneCell') = true)
    (h : ∀ w', Bk w' g t cells → Fr (oneB g) w w' → K (a.put o.dst undef) w') : o.wp P a w K Q :=
  wp_store_mid ty x y ho g 0 cells hx hy (fun j hj => ⟨by rw [Nat.zero_add, hb.cell j, Array.getElem?_eq_getElem (by omega)]; rfl, hb.free _⟩) hi h1
    (h _ (hb.setAll hs) (fr_setCells (S := oneB g) (fun _ => rfl) _ _ _ (Fr.refl (oneB g) w)))
theorem wpList_store_bk {P : Program} {ops : Array Oper} {rest : List Oper} {o : Oper} {a : Act} {w : World} {Q : Exit → Act → World → Prop} (hgd : o.guard = none) (ty : TypeId) (x y : Operand) (ho : o.op = .store ty x y)
    (g : Nat) (t : TypeId) (cs cells : Array Value) (hx : a.eval x = .pointer (some ⟨g, 0, none⟩)) (hy : a.eval y = .agg cells) (hb : Bk w g t cs) (hs : cells.size = cs.size)
    (hi : (P.info? ty).map (·.size) = some cells.size) (h1 : cells.all (·.oneCell') = true)
    (h : ∀ w', Bk w' g t cells → Fr (oneB g) w w' → wpList P ops Q rest (a.put o.dst undef) w') : wpList P ops Q (o :: rest) a w :=
  wpList_plain hgd fun K hK => wp_store_bk ty x y ho g t cs cells hx hy hb hs hi h1 fun w' h2 h3 => hK _ _ (h w' h2 h3)
end Go.Proofs.YtcbkaiakdhiloabDoor
