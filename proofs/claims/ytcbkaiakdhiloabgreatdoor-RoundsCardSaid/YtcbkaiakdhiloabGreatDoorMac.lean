/- A region that draws its order, by an invariant: whatever order the edges allow, each operation keeps it. -/
import Derived.Test.YtcbkaiakdhiloabGreatDoorMaa
import Derived.Orders
import Derived.Deep.MidRow
import Derived.Test.YtcbkaiakdhiloabGreatDoorMab
import Derived.Lib.ConvBytes
import Derived.Lib.LazyBuf
import Derived.Recover
set_option linter.unusedSimpArgs false
set_option linter.unusedVariables false
namespace Go.Proofs.YtcbkaiakdhiloabGreatDoor
open Go.RowKit Go.Proofs

/-- every edge leads backward -/
def backB (ops : Array Oper) : Bool := (List.range ops.size).all fun i => match ops[i]? with | some o => o.after.toList.all fun e => !Region.binds .any e || decide (e.on < i) | none => true

section
variable {P : Program} {ops : Array Oper} {Q : Exit → Act → World → Prop}

theorem ready_mem {md : Region.Mode} {listed : Array Bool} {i : Nat} (h : i ∈ Region.ready md ops listed) :
    ∃ o, ops[i]? = some o ∧ listed.getD i true = false ∧ ∀ e ∈ o.after.toList, Region.binds md e = true → listed.getD e.on false = true := by
  unfold Region.ready at h
  simp only [List.mem_filter, List.mem_range, Bool.and_eq_true, Bool.not_eq_true'] at h
  obtain ⟨hi, h1, h2⟩ := h
  have ho : ops[i]? = some ops[i] := Array.getElem?_eq_getElem hi
  rw [ho] at h2
  refine ⟨_, ho, h1, fun e he hb => ?_⟩
  simp only [Option.map_some, Option.getD_some, Array.all_eq_true'] at h2
  have := h2 e (by simpa using he)
  simpa [hb] using this

theorem all_of_ready_nil {listed : Array Bool} (hb : backB ops = true) (hs : listed.size = ops.size) (h : Region.ready .any ops listed = []) :
    ∀ i, i < ops.size → listed.getD i false = true := by
  intro i
  induction i using Nat.strongRecOn with
  | ind i ih =>
    intro hi
    rcases hx : listed.getD i false with _ | _
    · exfalso
      have ho : ops[i]? = some ops[i] := Array.getElem?_eq_getElem hi
      have hmem : i ∈ Region.ready .any ops listed := by
        unfold Region.ready
        simp only [List.mem_filter, List.mem_range, Bool.and_eq_true, Bool.not_eq_true']
        refine ⟨hi, ?_, ?_⟩
        · have hl : i < listed.size := by omega
          simp only [Array.getD, hl, dif_pos] at hx ⊢; exact hx
        · rw [ho]
          simp only [Option.map_some, Option.getD_some, Array.all_eq_true']
          intro e he
          unfold backB at hb
          have h1 := List.all_eq_true.1 hb i (by simpa using hi)
          rw [ho] at h1
          have h2 := List.all_eq_true.1 h1 e (by simpa using he)
          rcases hbe : Region.binds .any e with _ | _
          · simp
          · have hlt : e.on < i := by simpa [hbe] using h2
            simp [ih e.on hlt (by omega)]
      rw [h] at hmem; cases hmem
    · rfl

/-- how many are still to come -/
def toCome (listed : Array Bool) : Nat := (listed.toList.filter fun b => !b).length
theorem toCome_set {listed : Array Bool} {i : Nat} (h : listed.getD i true = false) : toCome (listed.setIfInBounds i true) + 1 = toCome listed := by
  have hl : i < listed.size := by
    rcases Nat.lt_or_ge i listed.size with h1 | h1
    · exact h1
    · simp [Array.getD, Nat.not_lt.2 h1] at h
  unfold toCome
  obtain ⟨l⟩ := listed
  simp only [List.setIfInBounds_toArray] at *
  induction l generalizing i with
  | nil => simp at hl
  | cons b r ih =>
    rcases i with _ | i
    · have hb : b = false := by simpa [Array.getD] using h
      subst hb
      simp
    · have := ih (i := i) (by simpa [Array.getD] using h) (by simpa using hl)
      cases b <;> simp at this ⊢ <;> omega
theorem toCome_start (n : Nat) : toCome (Array.replicate n false) = n := by simp [toCome]
theorem ready_nil_of_none {md : Region.Mode} {listed : Array Bool} (h : toCome listed = 0) (hs : listed.size = ops.size) : Region.ready md ops listed = [] := by
  cases hr : Region.ready md ops listed with
  | nil => rfl
  | cons i r =>
    obtain ⟨o, ho, h1, _⟩ := ready_mem (md := md) (listed := listed) (ops := ops) (i := i) (by rw [hr]; simp)
    have := toCome_set h1
    omega

theorem wpAny_inv (I : (Nat → Bool) → Act → World → Prop) (hb : backB ops = true)
    (hstep : ∀ L a w i o, I L a w → ops[i]? = some o → L i = false → (∀ e ∈ o.after.toList, Region.binds .any e = true → L e.on = true) →
      wpOp P ops Q i (fun a' w' => I (fun j => if j = i then true else L j) a' w') a w)
    (hend : ∀ L a w, I L a w → (∀ i, i < ops.size → L i = true) → Q .normal a w) :
    ∀ (fuel : Nat) (listed : Array Bool) (a : Act) (w : World), listed.size = ops.size → toCome listed = fuel → I (fun j => listed.getD j false) a w → wpAny P .any ops Q fuel listed a w
  | 0, listed, a, w, hs, hf, h => by
    have hr := ready_nil_of_none (md := .any) (ops := ops) hf hs
    exact ⟨hr, hend _ _ _ h (all_of_ready_nil hb hs hr)⟩
  | fuel + 1, listed, a, w, hs, hf, h => by
    refine ⟨fun hr => hend _ _ _ h (all_of_ready_nil hb hs hr), fun i hi => ?_⟩
    obtain ⟨o, ho, h1, h2⟩ := ready_mem hi
    have hl : i < listed.size := by
      rcases Nat.lt_or_ge i listed.size with h3 | h3
      · exact h3
      · simp [Array.getD, Nat.not_lt.2 h3] at h1
    have hLi : listed.getD i false = false := by simp only [Array.getD, hl, dif_pos] at h1 ⊢; exact h1
    refine wpOp_mono (fun a' w' h' => ?_) (hstep _ a w i o h ho hLi h2)
    refine wpAny_inv I hb hstep hend fuel _ a' w' (by simpa using hs) (by have := toCome_set h1; omega) ?_
    have e : (fun j => (listed.setIfInBounds i true).getD j false) = fun j => if j = i then true else listed.getD j false := by
      funext j
      by_cases hj : j = i
      · subst hj; simp [Array.getD, hl]
      · have hj' : ¬ i = j := fun x => hj x.symm
        simp only [hj, if_false]
        by_cases hjs : j < listed.size <;> simp [Array.getD, hjs, hj', Array.getElem_setIfInBounds]
    rw [e]; exact h'

theorem wp_region_inv {id : Nat} {a : Act} {w : World} (hm : P.follows .mixedOrders = true) (I : (Nat → Bool) → Act → World → Prop) (hb : backB ops = true)
    (h0 : I (fun _ => false) a w.drew)
    (hstep : ∀ L a w i o, I L a w → ops[i]? = some o → L i = false → (∀ e ∈ o.after.toList, Region.binds .any e = true → L e.on = true) →
      wpOp P ops Q i (fun a' w' => I (fun j => if j = i then true else L j) a' w') a w)
    (hend : ∀ L a w, I L a w → (∀ i, i < ops.size → L i = true) → Q .normal a w) : (Code.region id ops true).wp P Q a w := by
  refine wp_region_any hm (wpAny_inv I hb hstep hend ops.size _ a _ (by simp) (toCome_start _) ?_)
  have e : (fun j => (Array.replicate ops.size false).getD j false) = fun _ => false := by
    funext j; by_cases hj : j < ops.size <;> simp [Array.getD, hj]
  rw [e]; exact h0

def upd (u : Nat → Value) (i : Nat) (v : Value) : Nat → Value := fun j => if j = i then v else u j
theorem upd_self {u : Nat → Value} {i : Nat} {v : Value} (h : u i = v) : u = upd u i v := by
  funext j; unfold upd; split
  · next e => rw [e, h]
  · rfl
def mark (L : Nat → Bool) (i : Nat) : Nat → Bool := fun j => if j = i then true else L j
theorem wpOp_of {i : Nat} {o : Oper} {K : Act → World → Prop} {a : Act} {w : World} (ho : ops[i]? = some o) (hg : o.guard = none) (h : o.wp P a w K Q) : wpOp P ops Q i K a w := by
  unfold wpOp; rw [ho]
  simp only [Region.wanted, hg, if_true]
  exact .inl h

/-- Of a region in which no operation is guarded: each operation's value has a property Φ that what follows keeps; G: of the world, and of what is done. -/
theorem wp_region_ssa {id : Nat} {w : World} (hm : P.follows .mixedOrders = true) (hb : backB ops = true) (hgd : (List.range ops.size).all (fun i => match ops[i]? with | some o => o.guard.isNone | none => true) = true)
    (fr : (Nat → Value) → Act) (Φ : Nat → Value → World → Prop) (G : (Nat → Bool) → World → Prop) (u0 : Nat → Value) (h0 : G (fun _ => false) w.drew)
    (hstep : ∀ L u w i o, G L w → (∀ j, L j = true → Φ j (u j) w) → ops[i]? = some o → L i = false → (∀ e ∈ o.after.toList, Region.binds .any e = true → L e.on = true) →
      ∀ K : Act → World → Prop, (∀ v w', Φ i v w' → G (mark L i) w' → (∀ j x, L j = true → Φ j x w → Φ j x w') → K (fr (upd u i v)) w') → o.wp P (fr u) w K Q)
    (hend : ∀ u w, (∀ i, i < ops.size → Φ i (u i) w) → (∀ L, (∀ i, i < ops.size → L i = true) → G L w → Q .normal (fr u) w)) : (Code.region id ops true).wp P Q (fr u0) w := by
  refine wp_region_inv hm (fun L a w => ∃ u, a = fr u ∧ (∀ j, L j = true → Φ j (u j) w) ∧ G L w) hb ⟨u0, rfl, (fun j h => by cases h), h0⟩ ?_ ?_
  · rintro L a w i o ⟨u, rfl, hΦ, hG⟩ ho hL hd
    have hi : i < ops.size := by
      rcases Nat.lt_or_ge i ops.size with h | h
      · exact h
      · rw [Array.getElem?_eq_none h] at ho; cases ho
    have hg : o.guard = none := by
      have h1 := List.all_eq_true.1 hgd i (by simpa using hi)
      rw [ho] at h1
      simpa using h1
    refine wpOp_of ho hg (hstep L u w i o hG hΦ ho hL hd _ fun v w' h1 h2 h3 => ⟨upd u i v, rfl, fun j hj => ?_, h2⟩)
    by_cases hji : j = i
    · subst hji; simpa [upd] using h1
    · simp only [upd, hji, if_false] at hj ⊢
      exact h3 j _ hj (hΦ j hj)
  · rintro L a w ⟨u, rfl, hΦ, hG⟩ hall
    exact hend u w (fun i hi => hΦ i (hall i hi)) L hall hG
end

/-- what is done is closed under what must come first -/
def Cl (ops : Array Oper) (L : Nat → Bool) : Prop := ∀ i o, ops[i]? = some o → L i = true → ∀ e ∈ o.after.toList, Region.binds .any e = true → L e.on = true
theorem Cl.start (ops : Array Oper) : Cl ops (fun _ => false) := fun _ _ _ h => by cases h
theorem Cl.mark {ops : Array Oper} {L : Nat → Bool} {i : Nat} {o : Oper} (h : Cl ops L) (ho : ops[i]? = some o) (hd : ∀ e ∈ o.after.toList, Region.binds .any e = true → L e.on = true) : Cl ops (mark L i) := by
  intro j p hp hj e he hb
  unfold Go.Proofs.YtcbkaiakdhiloabGreatDoor.mark at hj ⊢
  by_cases hji : j = i
  · subst hji
    rw [ho] at hp; injection hp with hp; subst hp
    by_cases hei : e.on = j
    · simp [hei]
    · simp only [hei, if_false]; exact hd e he hb
  · simp only [hji, if_false] at hj
    by_cases hei : e.on = i
    · simp [hei]
    · simp only [hei, if_false]; exact h j p hp hj e he hb
theorem Cl.dep {ops : Array Oper} {L : Nat → Bool} (h : Cl ops L) (i k : Nat) (hi : L i = true) (hk : ((ops[i]?).any fun o => o.after.toList.any fun e => e.on == k && Region.binds .any e) = true) : L k = true := by
  cases ho : ops[i]? with
  | none => rw [ho] at hk; cases hk
  | some o =>
    rw [ho] at hk
    simp only [Option.any_some, List.any_eq_true, Bool.and_eq_true, beq_iff_eq] at hk
    obtain ⟨e, he, rfl, hb⟩ := hk
    exact h i o ho hi e he hb

/-! Whole blocks: loads and stores. -/
theorem Bk.cells {w : World} {g : Nat} {t : TypeId} {cs : Array Value} (h : Bk w g t cs) : ∀ j, w.cell? ⟨g, j, none⟩ = cs[j]? := fun j => h.cell j
theorem Bk.frees {w : World} {g : Nat} {t : TypeId} {cs : Array Value} (h : Bk w g t cs) : ∀ j, w.frozen? ⟨g, j, none⟩ = false := fun j => h.free j
theorem Bk.setMany {g : Nat} {t : TypeId} : ∀ (vs : List Value) (o : Nat) (w : World) (cs : Array Value), Bk w g t cs → o + vs.length ≤ cs.size →
    ∃ cs', Bk (w.setCells g o vs) g t cs' ∧ cs'.size = cs.size ∧ ∀ j, cs'[j]? = if o ≤ j ∧ j < o + vs.length then vs[j - o]? else cs[j]?
  | [], o, w, cs, h, _ => ⟨cs, h, rfl, fun j => by
      rw [if_neg (by rintro ⟨h1, h2⟩; simp at h2; omega)]⟩
  | v :: r, o, w, cs, h, hl => by
    simp only [List.length_cons] at hl
    obtain ⟨cs', h1, h2, h3⟩ := Bk.setMany r (o + 1) _ _ (h.set o v) (by simpa using (by omega : o + 1 + r.length ≤ cs.size))
    refine ⟨cs', h1, by simpa using h2, fun j => ?_⟩
    rw [h3 j]
    by_cases hj : j = o
    · subst hj
      have e1 : ¬ (j + 1 ≤ j ∧ j < j + 1 + r.length) := by omega
      have e2 : j ≤ j ∧ j < j + (v :: r).length := by simp
      rw [if_neg e1, if_pos e2]
      simp [Array.getElem?_setIfInBounds, (by omega : j < cs.size)]
    · by_cases hin : o + 1 ≤ j ∧ j < o + 1 + r.length
      · rw [if_pos hin, if_pos (by simp; omega), show j - o = (j - (o + 1)) + 1 by omega, List.getElem?_cons_succ]
      · rw [if_neg hin, if_neg (by simp; omega), Array.getElem?_setIfInBounds_ne (fun e => hj e.symm)]
theorem Bk.setAll {w : World} {g : Nat} {t : TypeId} {cs cells : Array Value} (h : Bk w g t cs) (hs : cells.size = cs.size) : Bk (w.setCells g 0 cells.toList) g t cells := by
  obtain ⟨cs', h1, h2, h3⟩ := Bk.setMany cells.toList 0 w cs h (by simp [hs])
  have e : cs' = cells := by
    apply Array.ext_getElem?
    intro j
    rw [h3 j]
    by_cases hj : j < cells.size
    · simp [hj]
    · simp [hj, Array.getElem?_eq_none (Nat.not_lt.1 hj), Array.getElem?_eq_none (by omega : cs.size ≤ j)]
  subst e; exact h1
theorem fr_setCells {S : Nat → Prop} {g : Nat} {w0 : World} (hg : g < w0.heap.size → S g) : ∀ (vs : List Value) (o : Nat) (w : World), Fr S w0 w → Fr S w0 (w.setCells g o vs)
  | [], _, _, h => h
  | v :: r, o, w, h => fr_setCells hg r (o + 1) _ (h.setCell (p := ⟨g, o, none⟩) hg v)
theorem wp_store_bk {P : Program} {o : Oper} {a : Act} {w : World} {K : Act → World → Prop} {Q : Exit → Act → World → Prop} (ty : TypeId) (x y : Operand) (ho : o.op = .store ty x y)
    (g : Nat) (t : TypeId) (cs cells : Array Value) (hx : a.eval x = .pointer (some ⟨g, 0, none⟩)) (hy : a.eval y = .agg cells) (hb : Bk w g t cs) (hs : cells.size = cs.size)
    (hi : (P.info? ty).map (·.size) = some cells.size) (h1 : cells.all (·.oneCell') = true)
    (h : ∀ w', Bk w' g t cells → Fr (oneB g) w w' → K (a.put o.dst undef) w') : o.wp P a w K Q :=
  wp_store_mid ty x y ho g 0 cells hx hy (fun j hj => ⟨by rw [Nat.zero_add, hb.cell j, Array.getElem?_eq_getElem (by omega)]; rfl, hb.free _⟩) hi h1
    (h _ (hb.setAll hs) (fr_setCells (S := oneB g) (fun _ => rfl) _ _ _ (Fr.refl (oneB g) w)))
theorem wpList_store_bk {P : Program} {ops : Array Oper} {rest : List Oper} {o : Oper} {a : Act} {w : World} {Q : Exit → Act → World → Prop} (hgd : o.guard = none) (ty : TypeId) (x y : Operand) (ho : o.op = .store ty x y)
    (g : Nat) (t : TypeId) (cs cells : Array Value) (hx : a.eval x = .pointer (some ⟨g, 0, none⟩)) (hy : a.eval y = .agg cells) (hb : Bk w g t cs) (hs : cells.size = cs.size)
    (hi : (P.info? ty).map (·.size) = some cells.size) (h1 : cells.all (·.oneCell') = true)
    (h : ∀ w', Bk w' g t cells → Fr (oneB g) w w' → wpList P ops Q rest (a.put o.dst undef) w') : wpList P ops Q (o :: rest) a w :=
  wpList_plain hgd fun K hK => wp_store_bk ty x y ho g t cs cells hx hy hb hs hi h1 fun w' h2 h3 => hK _ _ (h w' h2 h3)
end Go.Proofs.YtcbkaiakdhiloabGreatDoor
namespace Go.Proofs.YtcbkaiakdhiloabGreatDoor
open Go.RowKit Go.Proofs

attribute [local go_sem] bs_size bs_append bs_extract

/-- what a reader panics with -/
def faultC (e : Int) : List PanicEntry := [{ v := .iface 182 (.agg #[.int .i64 e]), recovered := false }]
/-- The reader at block p has the bytes l still to be read. -/
def Rd (w : World) (p : Nat) (l : List UInt8) : Prop := Bk w p 184 #[.string (bs l)]
/-- What a reader's method leaves: n bytes are taken, or there are too few. -/
def Took (p : Nat) (l : List UInt8) (n : Nat) (w : World) (v : Value) (e : Ending) (w' : World) : Prop :=
  (n ≤ l.length ∧ e = .returned v ∧ Rd w' p (l.drop n) ∧ Fr (oneB p) w w') ∨ (l.length < n ∧ e = .panicked (faultC 1) ∧ Fr (oneB p) w w')

theorem fail_any (e : Int) (w : World) : Calls Tryz.prog 111 #[.int .i64 e] w fun x w' => x = .panicked (faultC e) ∧ w = w' := by
  go_enter Tryz.func111, Tryz.ntmps111
  go_wp2
  exact ⟨rfl, rfl, rfl⟩
theorem must_yes (e : Int) (w : World) : Calls Tryz.prog 64 #[.bool true, .int .i64 e] w fun x w' => x = .returned (.tuple #[]) ∧ w = w' := by
  go_enter Tryz.func64, Tryz.ntmps64
  go_wp2_with fail
  go_end0
  exact ⟨rfl, rfl⟩
theorem must_no (e : Int) (w : World) : Calls Tryz.prog 64 #[.bool false, .int .i64 e] w fun x w' => x = .panicked (faultC e) ∧ w = w' := by
  go_enter Tryz.func64, Tryz.ntmps64
  go_wp2_with fail
  refine (fail_any e _).mono ?_
  rintro x w1 ⟨rfl, rfl⟩
  exact ⟨rfl, rfl, rfl⟩
/-- 'Must', whatever is asked -/
def MustPost (b : Bool) (e : Int) (w : World) (x : Ending) (w' : World) : Prop := (b = true ∧ x = .returned (.tuple #[]) ∧ w = w') ∨ (b = false ∧ x = .panicked (faultC e) ∧ w = w')
theorem must_any (b : Bool) (e : Int) (w : World) : Calls Tryz.prog 64 #[.bool b, .int .i64 e] w (MustPost b e w) := by
  cases b
  · exact (must_no e w).mono fun x w' h => .inr ⟨rfl, h⟩
  · exact (must_yes e w).mono fun x w' h => .inl ⟨rfl, h⟩

theorem rTake (n : Nat) (p : Nat) (l : List UInt8) (w : World) (hR : Rd w p l) (hn : n ≤ 9223372036854775807) (hl : l.length ≤ 9223372036854775807) :
    Calls Tryz.prog 74 #[.pointer (some ⟨p, 0, none⟩), .int .i64 n] w (Took p l n w (.string (bs (l.take n)))) := by
  have hc0 : w.cell? ⟨p, 0, none⟩ = some (.string (bs l)) := by simpa using Bk.cell hR 0
  have hf0 := Bk.free hR 0
  by_cases h : n ≤ l.length
  · have hd : decide (n ≤ l.length) = true := by simpa using h
    go_enter Tryz.func74, Tryz.ntmps74
    go_wp2_with fail
    refine (must_yes 1 _).mono ?_
    rintro x w1 ⟨rfl, rfl⟩
    go_wp2_with fail
    go_ret
    refine .inl ⟨h, ?_, ?_, ?_⟩
    · simp
    · have hs := Bk.set hR 0 (.string (bs (l.drop n)))
      simpa [Rd] using hs
    · exact (Fr.refl (oneB p) w).setCell (p := ⟨p, 0, none⟩) (fun _ => rfl) _
  · go_enter Tryz.func74, Tryz.ntmps74
    go_wp2_with fail
    refine (must_no 1 _).mono ?_
    rintro x w1 ⟨rfl, rfl⟩
    exact ⟨rfl, .inr ⟨by omega, rfl, Fr.refl _ _⟩⟩

theorem num_gen : ∀ (l : List UInt8) (a : Nat), l.foldl (fun n b => 256 * n + b.toNat) a < (a + 1) * 256 ^ l.length
  | [], a => by simp
  | b :: r, a => by
    have hb := b.toNat_lt
    have h := num_gen r (256 * a + b.toNat)
    rw [List.foldl_cons, List.length_cons, Nat.pow_succ]
    have h2 : (256 * a + b.toNat + 1) * 256 ^ r.length ≤ ((a + 1) * 256) * 256 ^ r.length := Nat.mul_le_mul_right _ (by omega)
    have h3 : (a + 1) * (256 ^ r.length * 256) = ((a + 1) * 256) * 256 ^ r.length := by rw [Nat.mul_comm (256 ^ r.length), Nat.mul_assoc]
    omega
theorem num_le (l : List UInt8) : num l < 256 ^ l.length := by
  have h := num_gen l 0; simpa [num] using h
theorem or_byte (x : Nat) (b : UInt8) (hx : x < 16777216) : bits .or .u32 ((x : Int) * 256) ((b.toNat : Int) % 4294967296) = ((256 * x + b.toNat : Nat) : Int) := by
  have hb := b.toNat_lt
  rw [show (x : Int) * 256 = ((x * 256 : Nat) : Int) by omega, show (b.toNat : Int) % 4294967296 = ((b.toNat : Nat) : Int) by omega, u32_or_nat _ _ (by omega) (by omega),
    nat_join 8 (x * 256) b.toNat (by omega) (by omega)]
  omega
set_option maxRecDepth 20000 in
set_option maxHeartbeats 1000000 in
theorem rNum (n : Nat) (p : Nat) (l : List UInt8) (w : World) (hR : Rd w p l) (hn : n ≤ 4) (hl : l.length ≤ 9223372036854775807) :
    Calls Tryz.prog 110 #[.pointer (some ⟨p, 0, none⟩), .int .i64 n] w (Took p l n w (.int .u32 (num (l.take n)))) := by
  have hp := Bk.lt hR
  go_enter Tryz.func110, Tryz.ntmps110
  go_wp2_with fail
  refine (rTake n p l _ hR (by omega) hl).mono ?_
  rintro e w1 (⟨hle, rfl, hR1, hf1⟩ | ⟨hlt, rfl, hf1⟩)
  · have hcv := Go.Lib.run_convert_string_bytes (P := Tryz.prog) w1 9 98 5 (bs (l.take n)) Tryz.underlying9 Tryz.underlying98 Tryz.underlying5
    have hlen : (l.take n).length = n := by rw [List.length_take]; omega
    have hcell : ∀ j, j < n → (Go.Lib.bytesWorld w1 5 (bs (l.take n))).cell? ⟨w1.heap.size, j, none⟩ = some (.int .u8 (((l.take n).getD j 0).toNat : Int)) := by
      intro j hj
      have h := Go.Lib.bytesWorld_cell w1 5 (bs (l.take n)) j (by rw [bs_size]; omega)
      rw [bs_list] at h; exact h
    have hfb : Fr noB w1 (Go.Lib.bytesWorld w1 5 (bs (l.take n))) := by
      refine ⟨rfl, rfl, rfl, ?_, fun k hk _ => Go.Lib.bytesWorld_at_old w1 _ _ k hk⟩
      rw [Go.Lib.bytesWorld_size]; omega
    have Htk : ∀ j, j < n → Hid (num ((l.take n).take (j + 1)) = 256 * num ((l.take n).take j) + ((l.take n).getD j 0).toNat) := by
      intro j hj; unfold Hid
      rw [List.take_succ_eq_append_getElem (by omega), num_snoc]
      simp [List.getD, hlen, hj]
    have Hbd : ∀ j, j < n → num ((l.take n).take j) < 16777216 := by
      intro j hj
      have h := num_le ((l.take n).take j)
      have h2 : ((l.take n).take j).length ≤ 3 := by rw [List.length_take]; omega
      have h3 : 256 ^ ((l.take n).take j).length ≤ 256 ^ 3 := Nat.pow_le_pow_right (by omega) h2
      omega
    have Hl := Lib.hid hlen
    have Hfull : Hid ((l.take n).take n = l.take n) := by unfold Hid; rw [List.take_of_length_le (by omega)]
    have hsz : (bs (l.take n)).size = n := by rw [bs_size]; exact hlen
    clear hlen
    generalize Go.Lib.bytesWorld w1 5 (bs (l.take n)) = w2 at *
    generalize l.take n = t at *
    generalize w1.heap.size = g at *
    go_wp2_with fail
    go_loop [5, 13] (fun x i => ∃ j : Nat, j ≤ n ∧ i = .int .i64 j ∧ x = .int .u32 (num (t.take j) : Int)) (fun _ i => n - (intOf i).toNat)
    case atStart => exact ⟨0, by omega, rfl, rfl⟩
    case round =>
      obtain ⟨j, hj, rfl, rfl⟩ := hrel
      by_cases hlt : j < n
      · have hc := hcell j hlt
        have hbd := Hbd j hlt
        have htk := Htk j hlt
        have hor := or_byte (num (t.take j)) (t.getD j 0) hbd
        clear hcell Hbd Htk
        generalize t.getD j 0 = b at *
        generalize num (t.take j) = x at *
        go_wp2_with fail
        go_round
        case rel => exact ⟨j + 1, by omega, by go_num, by rw [htk.out] <;> go_num⟩
        case measure => simp [intOf]; omega
      · clear hcell Hbd Htk
        go_wp2_with fail
        go_ret
        obtain rfl : j = n := by omega
        rw [Hfull.out]
        exact .inl ⟨hle, rfl, Bk.keep hR1 hfb (fun x => x), hf1.none hfb⟩
  · exact ⟨rfl, .inr ⟨hlt, rfl, hf1⟩⟩

theorem rU8 (p : Nat) (l : List UInt8) (w : World) (hR : Rd w p l) (hl : l.length ≤ 9223372036854775807) :
    Calls Tryz.prog 72 #[.pointer (some ⟨p, 0, none⟩)] w (Took p l 1 w (.int .u8 (num (l.take 1)))) := by
  have hb : num (l.take 1) < 256 := by
    have h := num_le (l.take 1)
    have h2 : (l.take 1).length ≤ 1 := by rw [List.length_take]; omega
    have h3 : 256 ^ (l.take 1).length ≤ 256 ^ 1 := Nat.pow_le_pow_right (by omega) h2
    omega
  go_enter Tryz.func72, Tryz.ntmps72
  go_wp2_with fail
  refine (rNum 1 p l _ hR (by omega) hl).mono ?_
  rintro e w1 (⟨hle, rfl, hR1, hf1⟩ | ⟨hlt, rfl, hf1⟩)
  · generalize num (l.take 1) = x at *
    have hx : IntKind.u8.wrap (x : Int) = x := by rw [IntKind.wrap_u8']; omega
    go_wp2_with fail
    go_ret
    exact .inl ⟨hle, rfl, hR1, hf1⟩
  · exact ⟨rfl, .inr ⟨hlt, rfl, hf1⟩⟩
theorem rU16 (p : Nat) (l : List UInt8) (w : World) (hR : Rd w p l) (hl : l.length ≤ 9223372036854775807) :
    Calls Tryz.prog 63 #[.pointer (some ⟨p, 0, none⟩)] w (Took p l 2 w (.int .u16 (num (l.take 2)))) := by
  have hb : num (l.take 2) < 65536 := by
    have h := num_le (l.take 2)
    have h2 : (l.take 2).length ≤ 2 := by rw [List.length_take]; omega
    have h3 : 256 ^ (l.take 2).length ≤ 256 ^ 2 := Nat.pow_le_pow_right (by omega) h2
    omega
  go_enter Tryz.func63, Tryz.ntmps63
  go_wp2_with fail
  refine (rNum 2 p l _ hR (by omega) hl).mono ?_
  rintro e w1 (⟨hle, rfl, hR1, hf1⟩ | ⟨hlt, rfl, hf1⟩)
  · generalize num (l.take 2) = x at *
    have hx : IntKind.u16.wrap (x : Int) = x := by rw [IntKind.wrap_u16]; omega
    go_wp2_with fail
    go_ret
    exact .inl ⟨hle, rfl, hR1, hf1⟩
  · exact ⟨rfl, .inr ⟨hlt, rfl, hf1⟩⟩
theorem rIP (p : Nat) (l : List UInt8) (w : World) (hR : Rd w p l) (hl : l.length ≤ 9223372036854775807) :
    Calls Tryz.prog 73 #[.pointer (some ⟨p, 0, none⟩)] w (Took p l 4 w (.int .u32 (num (l.take 4)))) := by
  go_enter Tryz.func73, Tryz.ntmps73
  go_wp2_with fail
  refine (rNum 4 p l _ hR (by omega) hl).mono ?_
  rintro e w1 (⟨hle, rfl, hR1, hf1⟩ | ⟨hlt, rfl, hf1⟩)
  · generalize num (l.take 4) = x at *
    go_wp2_with fail
    go_ret
    exact .inl ⟨hle, rfl, hR1, hf1⟩
  · exact ⟨rfl, .inr ⟨hlt, rfl, hf1⟩⟩
theorem rTake_ok (n : Nat) (p : Nat) (l : List UInt8) (w : World) (hR : Rd w p l) (hn : n ≤ l.length) (hl : l.length ≤ 9223372036854775807) :
    Calls Tryz.prog 74 #[.pointer (some ⟨p, 0, none⟩), .int .i64 n] w fun e w' => e = .returned (.string (bs (l.take n))) ∧ Rd w' p (l.drop n) ∧ Fr (oneB p) w w' :=
  (rTake n p l w hR (by omega) hl).mono fun e w' h => by
    rcases h with ⟨_, h⟩ | ⟨h, _⟩
    · exact h
    · omega
theorem rTake_no (n : Nat) (p : Nat) (l : List UInt8) (w : World) (hR : Rd w p l) (hn : l.length < n) (hn2 : n ≤ 9223372036854775807) :
    Calls Tryz.prog 74 #[.pointer (some ⟨p, 0, none⟩), .int .i64 n] w fun e w' => e = .panicked (faultC 1) ∧ Fr (oneB p) w w' :=
  (rTake n p l w hR hn2 (by omega)).mono fun e w' h => by
    rcases h with ⟨h, _⟩ | ⟨_, h⟩
    · omega
    · exact h

def macOf (l : List UInt8) : Mac := (l.getD 0 0, l.getD 1 0, l.getD 2 0, l.getD 3 0, l.getD 4 0, l.getD 5 0)
theorem u8_size (w : World) : (Go.sizeOf 5).run Tryz.prog w = .ok 1 w := by
  obtain ⟨i0, hi0, hz0, hz1, hz2⟩ := info_parts u8_info
  simp [Go.sizeOf, typeInfo, hi0, hz1]
theorem copy6 (w : World) (g : Nat) (t : TypeId) (c0 c1 c2 c3 c4 c5 : Value) (a b c d e f : UInt8) (hb : Bk w g t #[c0, c1, c2, c3, c4, c5]) :
    ∃ w', (Builtin.copy_ #[98, 9] 3 #[.slice (some ⟨g, 0, none⟩) 6 6, .string (bs [a, b, c, d, e, f])]).run Tryz.prog w = .ok (.int .i64 6) w' ∧
      Bk w' g t #[.int .u8 (a.toNat : Int), .int .u8 (b.toNat : Int), .int .u8 (c.toNat : Int), .int .u8 (d.toNat : Int), .int .u8 (e.toNat : Int), .int .u8 (f.toNat : Int)] ∧ Fr (oneB g) w w' := by
  have hz : (bs [a, b, c, d, e, f]).size = 6 := by rw [bs_size]; rfl
  have h := run_copy_string (P := Tryz.prog) w 98 9 3 5 g 0 6 6 (bs [a, b, c, d, e, f]) Tryz.underlying98 u8_size (by rw [hz]; omega)
    (by
      intro j hj; rw [hz] at hj
      have h := hb.cell (0 + j)
      rw [h]
      match j, hj with
      | 0, _ | 1, _ | 2, _ | 3, _ | 4, _ | 5, _ => rfl)
    (fun j _ => hb.free _)
  rw [hz, bs_list] at h
  refine ⟨_, h, ?_, ?_⟩
  · simp only [List.map, World.setCells]
    have h0 := ((((((hb.set 0 (.int .u8 (a.toNat : Int))).set 1 (.int .u8 (b.toNat : Int))).set 2 (.int .u8 (c.toNat : Int))).set 3 (.int .u8 (d.toNat : Int))).set 4 (.int .u8 (e.toNat : Int))).set 5 (.int .u8 (f.toNat : Int)))
    simpa using h0
  · simp only [List.map, World.setCells]
    exact ((((((Fr.refl (oneB g) w).setCell (p := ⟨g, _, none⟩) (fun _ => rfl) _).setCell (p := ⟨g, _, none⟩) (fun _ => rfl) _).setCell (p := ⟨g, _, none⟩) (fun _ => rfl) _).setCell (p := ⟨g, _, none⟩) (fun _ => rfl) _).setCell (p := ⟨g, _, none⟩) (fun _ => rfl) _).setCell (p := ⟨g, _, none⟩) (fun _ => rfl) _
theorem Bk.six {w : World} {g : Nat} {t : TypeId} {c0 c1 c2 c3 c4 c5 : Value} (h : Bk w g t #[c0, c1, c2, c3, c4, c5]) :
    w.cell? ⟨g, 0, none⟩ = some c0 ∧ w.cell? ⟨g, 1, none⟩ = some c1 ∧ w.cell? ⟨g, 2, none⟩ = some c2 ∧ w.cell? ⟨g, 3, none⟩ = some c3 ∧ w.cell? ⟨g, 4, none⟩ = some c4 ∧ w.cell? ⟨g, 5, none⟩ = some c5 :=
  ⟨h.cell 0, h.cell 1, h.cell 2, h.cell 3, h.cell 4, h.cell 5⟩
theorem Bk.free6 {w : World} {g : Nat} {t : TypeId} {cs : Array Value} (h : Bk w g t cs) :
    w.frozen? ⟨g, 0, none⟩ = false ∧ w.frozen? ⟨g, 1, none⟩ = false ∧ w.frozen? ⟨g, 2, none⟩ = false ∧ w.frozen? ⟨g, 3, none⟩ = false ∧ w.frozen? ⟨g, 4, none⟩ = false ∧ w.frozen? ⟨g, 5, none⟩ = false :=
  ⟨h.free 0, h.free 1, h.free 2, h.free 3, h.free 4, h.free 5⟩
def zero6 : Array Value := #[.int .u8 0, .int .u8 0, .int .u8 0, .int .u8 0, .int .u8 0, .int .u8 0]
set_option maxRecDepth 20000 in
set_option maxHeartbeats 1000000 in
theorem rMAC (p : Nat) (l : List UInt8) (w : World) (hR : Rd w p l) (hl : l.length ≤ 9223372036854775807) :
    Calls Tryz.prog 62 #[.pointer (some ⟨p, 0, none⟩)] w (Took p l 6 w (macV (macOf l))) := by
  have hp := Bk.lt hR
  by_cases h : 6 ≤ l.length
  · match l, h with
    | a :: b :: c :: d :: e :: f :: r, h =>
      have hR2 : Rd ((w.alloc (.cells zero6 23)).alloc (.cells zero6 23)) p (a :: b :: c :: d :: e :: f :: r) := Bk.alloc (Bk.alloc hR _) _
      have hf2 : Fr noB w ((w.alloc (.cells zero6 23)).alloc (.cells zero6 23)) := ((Fr.refl _ _).alloc _).alloc _
      have hb1 := (Bk.new w 23 zero6).alloc (.cells zero6 23)
      have hb2 := Bk.new (w.alloc (.cells zero6 23)) 23 zero6
      rw [show (w.alloc (.cells zero6 23)).heap.size = w.heap.size + 1 by simp] at hb2
      have hsz2 : ((w.alloc (.cells zero6 23)).alloc (.cells zero6 23)).heap.size = w.heap.size + 2 := by simp
      go_enter Tryz.func62, Tryz.ntmps62
      go_wp2_with fail
      unfold zero6 at hR2 hf2 hb1 hb2 hsz2
      generalize (w.alloc (.cells #[.int .u8 0, .int .u8 0, .int .u8 0, .int .u8 0, .int .u8 0, .int .u8 0] 23)).alloc (.cells #[.int .u8 0, .int .u8 0, .int .u8 0, .int .u8 0, .int .u8 0, .int .u8 0] 23) = w2 at *
      have H2 := Lib.hid hsz2
      clear hsz2
      have HT := Lib.hid (rTake_ok 6 p (a :: b :: c :: d :: e :: f :: r) w2.drew hR2 (by simp) hl)
      go_region_with ((go_at_call 74; refine HT.out.mono ?_; rintro e' w3 ⟨rfl, hR3, hf3⟩; obtain ⟨w4, hcp, hb4, hf4⟩ := copy6 w3 (w.heap.size + 1) _ _ _ _ _ _ _ a b c d e f (hb2.drew.keep hf3 (by unfold oneB; omega))))
      have h0 : Fr (oneB p) w w4 := ((hf2.of_no (oneB p)).drew.trans hf3).trans' hf4 (fun k hk e => by unfold oneB at e; omega)
      have hb1' : Bk w4 w.heap.size 23 #[.int .u8 0, .int .u8 0, .int .u8 0, .int .u8 0, .int .u8 0, .int .u8 0] := by
        refine (hb1.drew.keep hf3 ?_).keep hf4 ?_ <;> unfold oneB <;> omega
      obtain ⟨k0, k1, k2, k3, k4, k5⟩ := hb4.six
      obtain ⟨n0, n1, n2, n3, n4, n5⟩ := hb1'.six
      obtain ⟨z0, z1, z2, z3, z4, z5⟩ := hb1'.free6
      go_wp2_with fail
      refine bodyPost_ret (v := macV (macOf (a :: b :: c :: d :: e :: f :: r))) (by simp [results, Tryz.results62, go_sem, n0, n1, n2, n3, n4, n5, macV, macOf]) rfl ?_
      refine .inl ⟨h, rfl, ?_, ?_⟩
      · have hr4 : Rd w4 p (List.drop 6 (a :: b :: c :: d :: e :: f :: r)) := Bk.keep hR3 hf4 (by unfold oneB; omega)
        have hne : p ≠ w.heap.size := by omega
        exact (((((Bk.far hr4 (p := ⟨w.heap.size, 0, none⟩) hne _).far (p := ⟨w.heap.size, 1, none⟩) hne _).far (p := ⟨w.heap.size, 2, none⟩) hne _).far (p := ⟨w.heap.size, 3, none⟩) hne _).far (p := ⟨w.heap.size, 4, none⟩) hne _).far (p := ⟨w.heap.size, 5, none⟩) hne _
      · exact (((((h0.setCell (p := ⟨w.heap.size, 0, none⟩) (fun x => absurd x (Nat.lt_irrefl _)) _).setCell (p := ⟨w.heap.size, 1, none⟩) (fun x => absurd x (Nat.lt_irrefl _)) _).setCell (p := ⟨w.heap.size, 2, none⟩) (fun x => absurd x (Nat.lt_irrefl _)) _).setCell (p := ⟨w.heap.size, 3, none⟩) (fun x => absurd x (Nat.lt_irrefl _)) _).setCell (p := ⟨w.heap.size, 4, none⟩) (fun x => absurd x (Nat.lt_irrefl _)) _).setCell (p := ⟨w.heap.size, 5, none⟩) (fun x => absurd x (Nat.lt_irrefl _)) _
  · have hR2 : Rd ((w.alloc (.cells zero6 23)).alloc (.cells zero6 23)) p l := Bk.alloc (Bk.alloc hR _) _
    have hf2 : Fr noB w ((w.alloc (.cells zero6 23)).alloc (.cells zero6 23)) := ((Fr.refl _ _).alloc _).alloc _
    go_enter Tryz.func62, Tryz.ntmps62
    go_wp2_with fail
    unfold zero6 at hR2 hf2
    generalize (w.alloc (.cells #[.int .u8 0, .int .u8 0, .int .u8 0, .int .u8 0, .int .u8 0, .int .u8 0] 23)).alloc (.cells #[.int .u8 0, .int .u8 0, .int .u8 0, .int .u8 0, .int .u8 0, .int .u8 0] 23) = w2 at *
    have hend : ∀ w3, Fr (oneB p) w2.drew w3 → Took p l 6 w (macV (macOf l)) (.panicked (faultC 1)) w3 := fun w3 hf3 => .inr ⟨by omega, rfl, (hf2.of_no (oneB p)).drew.trans hf3⟩
    refine wp_region_ssa (by kernel_rfl) (by kernel_rfl) (by kernel_rfl)
      (fun u => ⟨#[.pointer (some ⟨p, 0, none⟩), undef, .pointer (some ⟨w.heap.size, 0, none⟩), .pointer (some ⟨w.heap.size + 1, 0, none⟩), u 0, u 1, u 2, u 3, undef], []⟩)
      (fun j v _ => match j with | 1 => v = .pointer (some ⟨p, 0, none⟩) | _ => True)
      (fun L w3 => L 2 = false ∧ w3 = w2.drew) (fun _ => undef) ⟨rfl, rfl⟩ ?_ ?_
    · rintro L u w3 i o ⟨hL2, rfl⟩ hΦ ho hL hd K hK
      match i, ho with
      | 0, ho =>
        simp at ho; subst ho
        go_simp
        exact hK (.slice (some ⟨w.heap.size + 1, 0, none⟩) 6 6) _ trivial ⟨hL2, rfl⟩ (fun _ _ _ h => h)
      | 1, ho =>
        simp at ho; subst ho
        go_simp
        exact hK (.pointer (some ⟨p, 0, none⟩)) _ rfl ⟨hL2, rfl⟩ (fun _ _ _ h => h)
      | 2, ho =>
        simp at ho; subst ho
        have hL1 : L 1 = true := hd ⟨1, .data⟩ (by simp) (by rfl)
        have hu1 : u 1 = .pointer (some ⟨p, 0, none⟩) := hΦ 1 hL1
        clear hΦ hd hK
        go_simp
        refine (rTake_no 6 p l w2.drew hR2 (by omega) (by omega)).mono ?_
        rintro e w4 ⟨rfl, hf4⟩
        exact ⟨rfl, hend _ hf4⟩
      | 3, ho =>
        simp at ho; subst ho
        have hL1 : L 2 = true := hd ⟨2, .data⟩ (by simp) (by rfl)
        rw [hL2] at hL1; cases hL1
    · rintro u w3 _ L hall ⟨hL2, _⟩
      rw [hall 2 (by simp)] at hL2; cases hL2

/-! The same, with what is read and what is left as letters: so that a long walk's frame stays small. -/
def Cut (l a r : List UInt8) (n : Nat) : Prop := l = a ++ r ∧ a.length = n
/-- n bytes are taken (a, and r is left), or there are too few. -/
def Takes (p : Nat) (l : List UInt8) (n : Nat) (w : World) (v : List UInt8 → Value) (e : Ending) (w' : World) : Prop :=
  (∃ a r, Cut l a r n ∧ r.length ≤ 9223372036854775807 ∧ e = .returned (v a) ∧ Rd w' p r ∧ Fr (oneB p) w w') ∨ (l.length < n ∧ e = .panicked (faultC 1) ∧ Fr (oneB p) w w')
theorem Took.takes {p : Nat} {l : List UInt8} {n : Nat} {w w' : World} {v : List UInt8 → Value} {e : Ending} (hl : l.length ≤ 9223372036854775807) (h : Took p l n w (v (l.take n)) e w') : Takes p l n w v e w' := by
  rcases h with ⟨h1, h2, h3, h4⟩ | h
  · exact .inl ⟨l.take n, l.drop n, ⟨(List.take_append_drop n l).symm, by rw [List.length_take]; omega⟩, by rw [List.length_drop]; omega, h2, h3, h4⟩
  · exact .inr h
theorem tTake (n p : Nat) (l : List UInt8) (w : World) (hR : Rd w p l) (hn : n ≤ 9223372036854775807) (hl : l.length ≤ 9223372036854775807) :
    Calls Tryz.prog 74 #[.pointer (some ⟨p, 0, none⟩), .int .i64 n] w (Takes p l n w fun a => .string (bs a)) :=
  (rTake n p l w hR hn hl).mono fun _ _ h => h.takes hl
theorem tU8 (p : Nat) (l : List UInt8) (w : World) (hR : Rd w p l) (hl : l.length ≤ 9223372036854775807) :
    Calls Tryz.prog 72 #[.pointer (some ⟨p, 0, none⟩)] w (Takes p l 1 w fun a => .int .u8 (num a)) :=
  (rU8 p l w hR hl).mono fun _ _ h => Took.takes (v := fun a => .int .u8 (num a)) hl h
theorem tU16 (p : Nat) (l : List UInt8) (w : World) (hR : Rd w p l) (hl : l.length ≤ 9223372036854775807) :
    Calls Tryz.prog 63 #[.pointer (some ⟨p, 0, none⟩)] w (Takes p l 2 w fun a => .int .u16 (num a)) :=
  (rU16 p l w hR hl).mono fun _ _ h => Took.takes (v := fun a => .int .u16 (num a)) hl h
theorem tIP (p : Nat) (l : List UInt8) (w : World) (hR : Rd w p l) (hl : l.length ≤ 9223372036854775807) :
    Calls Tryz.prog 73 #[.pointer (some ⟨p, 0, none⟩)] w (Takes p l 4 w fun a => .int .u32 (num a)) :=
  (rIP p l w hR hl).mono fun _ _ h => Took.takes (v := fun a => .int .u32 (num a)) hl h
theorem macOf_take (l : List UInt8) (h : 6 ≤ l.length) : macOf (l.take 6) = macOf l := by
  match l, h with
  | a :: b :: c :: d :: e :: f :: r, _ => rfl
/-- what MAC leaves: the card's number in six letters -/
def TakesM (p : Nat) (l : List UInt8) (w : World) (e : Ending) (w' : World) : Prop :=
  (∃ a0 a1 a2 a3 a4 a5 r, Cut l [a0, a1, a2, a3, a4, a5] r 6 ∧ r.length ≤ 9223372036854775807 ∧
    e = .returned (.agg #[.int .u8 (a0.toNat : Int), .int .u8 (a1.toNat : Int), .int .u8 (a2.toNat : Int), .int .u8 (a3.toNat : Int), .int .u8 (a4.toNat : Int), .int .u8 (a5.toNat : Int)]) ∧ Rd w' p r ∧ Fr (oneB p) w w') ∨
  (l.length < 6 ∧ e = .panicked (faultC 1) ∧ Fr (oneB p) w w')
theorem tMAC (p : Nat) (l : List UInt8) (w : World) (hR : Rd w p l) (hl : l.length ≤ 9223372036854775807) :
    Calls Tryz.prog 62 #[.pointer (some ⟨p, 0, none⟩)] w (TakesM p l w) := by
  refine (rMAC p l w hR hl).mono fun e w' h => ?_
  rcases h with ⟨h1, h2, h3, h4⟩ | h
  · match l, h1 with
    | a :: b :: c :: d :: e' :: f :: r, h1 => exact .inl ⟨a, b, c, d, e', f, r, ⟨rfl, rfl⟩, by simp at hl; omega, h2, h3, h4⟩
  · exact .inr h
end Go.Proofs.YtcbkaiakdhiloabGreatDoor
namespace Go.Proofs.YtcbkaiakdhiloabGreatDoor
open Go.RowKit Go.Proofs

/-- two blocks: those of Read's results -/
def twoB (a b : Nat) : Nat → Prop := fun k => k = a ∨ k = b
theorem fault_is (er : Int) (w : World) : (Instr.typeAssert (.iface 182 (.agg #[.int .i64 er])) 20 182 true).run Tryz.prog w = .ok (.tuple #[.agg #[.int .i64 er], .bool true]) w := by kernel_rfl
def readPost (z : Array Value) (ok : Array Value → Prop) (bad : Int → Prop) (w : World) (e : Ending) (w' : World) : Prop :=
  ((∃ x, ok x ∧ e = .returned (.tuple #[.agg x, .int .i64 0])) ∨ (∃ er, bad er ∧ e = .returned (.tuple #[.agg z, .int .i64 er]))) ∧ Fr noB w w'
/-- what a reading function (the argument of Read) leaves -/
def byPost (ok : Array Value → Prop) (bad : Int → Prop) (p : Nat) (w : World) (e : Ending) (w' : World) : Prop :=
  ((∃ x, ok x ∧ e = .returned (.agg x)) ∨ (∃ er, bad er ∧ e = .panicked (faultC er))) ∧ Fr (oneB p) w w'
/-- two results in memory: a struct, and a whole number -/
theorem results_row_int {P : Program} {fn : Func} {p q : Tmp} {ty te : TypeId} (h : fn.results = #[.cell p ty, .cell q te]) (tmps : Array Value) (w : World) (g ge : Nat) (t t2 : TypeId) (cs : Array Value) (n : Int) (d : TypeDesc) (k : IntKind)
    (hp : tmps.getD p undef = .pointer (some ⟨g, 0, none⟩)) (hq : tmps.getD q undef = .pointer (some ⟨ge, 0, none⟩)) (hg : Bk w g t cs) (he : Bk w ge t2 #[.int .i64 n])
    (hu : P.underlying ty = some d) (hd : (match d with | .struct _ | .array _ _ => true | _ => false) = true) (hi : (P.info? ty).map (·.size) = some cs.size) (hue : P.underlying te = some (.int k)) :
    (results fn tmps).run P w = .ok (.tuple #[.agg cs, .int .i64 n]) w := by
  have hp' : tmps[p]?.getD undef = .pointer (some ⟨g, 0, none⟩) := by simpa using hp
  have hq' : tmps[q]?.getD undef = .pointer (some ⟨ge, 0, none⟩) := by simpa using hq
  have hc := he.cells
  have h1 := run_loadVar_row w g t ty cs (0, 0) d hg hu hd hi
  have h2 : (loadVar te ⟨ge, 0, none⟩).run P w = .ok (.int .i64 n) w := by
    have hc0 := hc 0
    simp at hc0
    simp [go_sem, isAgg, run_underlying hue, hc0]
  simp [results, h, hp', hq', asAddr, h1, h2]
/-- two results: a struct in memory, and a slot -/
theorem results_row_tmp {P : Program} {fn : Func} {p q : Tmp} {ty : TypeId} (h : fn.results = #[.cell p ty, .tmp q]) (tmps : Array Value) (w : World) (g : Nat) (t : TypeId) (cs : Array Value) (v : Value) (d : TypeDesc)
    (hp : tmps.getD p undef = .pointer (some ⟨g, 0, none⟩)) (hq : tmps.getD q undef = v) (hg : Bk w g t cs)
    (hu : P.underlying ty = some d) (hd : (match d with | .struct _ | .array _ _ => true | _ => false) = true) (hi : (P.info? ty).map (·.size) = some cs.size) :
    (results fn tmps).run P w = .ok (.tuple #[.agg cs, v]) w := by
  have hp' : tmps[p]?.getD undef = .pointer (some ⟨g, 0, none⟩) := by simpa using hp
  have hq' : tmps[q]?.getD undef = v := by simpa using hq
  have h1 := run_loadVar_row w g t ty cs (0, 0) d hg hu hd hi
  simp [results, h, hp', hq', asAddr, h1]
end Go.Proofs.YtcbkaiakdhiloabGreatDoor
