/- A region that draws its order, with memory made within it: the rule of XReg whose standing fact may speak of the operations' values too. -/
import Derived.Test.YtcbkaiakdhiloabGreatDoorMac
import Derived.Test.YtcbkaiakdhiloabGreatDoorMab
import Derived.Test.YtcbkaiakdhiloabGreatDoorMad
import Derived.Deep.Cut
import Derived.Deep.CutRange
set_option linter.unusedSimpArgs false
set_option linter.unusedVariables false
namespace Go.Proofs.YtcbkaiakdhiloabGreatDoor
open Go.RowKit Go.Proofs
section
variable {P : Program} {ops : Array Oper} {Q : Exit → Act → World → Prop}
theorem wp_region_ssau {id : Nat} {w : World} (hm : P.follows .mixedOrders = true) (hb : backB ops = true) (hgd : (List.range ops.size).all (fun i => match ops[i]? with | some o => o.guard.isNone | none => true) = true)
    (fr : (Nat → Value) → Act) (Φ : Nat → Value → World → Prop) (G : (Nat → Bool) → (Nat → Value) → World → Prop) (u0 : Nat → Value) (h0 : G (fun _ => false) u0 w.drew)
    (hstep : ∀ L u w i o, G L u w → (∀ j, L j = true → Φ j (u j) w) → ops[i]? = some o → L i = false → (∀ e ∈ o.after.toList, Region.binds .any e = true → L e.on = true) →
      ∀ K : Act → World → Prop, (∀ v w', Φ i v w' → G (mark L i) (upd u i v) w' → (∀ j x, L j = true → Φ j x w → Φ j x w') → K (fr (upd u i v)) w') → o.wp P (fr u) w K Q)
    (hend : ∀ u w, (∀ i, i < ops.size → Φ i (u i) w) → (∀ L, (∀ i, i < ops.size → L i = true) → G L u w → Q .normal (fr u) w)) : (Code.region id ops true).wp P Q (fr u0) w := by
  refine wp_region_inv hm (fun L a w => ∃ u, a = fr u ∧ (∀ j, L j = true → Φ j (u j) w) ∧ G L u w) hb ⟨u0, rfl, (fun j h => by cases h), h0⟩ ?_ ?_
  · rintro L a w i o ⟨u, rfl, hΦ, hG⟩ ho hL hd
    have hi : i < ops.size := by
      rcases Nat.lt_or_ge i ops.size with h | h
      · exact h
      · rw [Array.getElem?_eq_none h] at ho; cases ho
    have hg : o.guard = none := by
      have h1 := List.all_eq_true.1 hgd i (by simpa using hi)
      rw [ho] at h1
      simpa using h1
    refine wpOp_of ho hg (hstep L u w i o hG hΦ ho hL hd _ fun v w' h1 h2 h3 => ⟨upd u i v, rfl, fun j hj => ?_, h2⟩)
    by_cases hji : j = i
    · subst hji; simpa [upd] using h1
    · simp only [upd, hji, if_false] at hj ⊢
      exact h3 j _ hj (hΦ j hj)
  · rintro L a w ⟨u, rfl, hΦ, hG⟩ hall
    exact hend u w (fun i hi => hΦ i (hall i hi)) L hall hG

/-- wp_region_ssau, and what is done is known to be closed under what must come first. -/
theorem wp_region_ssac {id : Nat} {w : World} (hm : P.follows .mixedOrders = true) (hb : backB ops = true) (hgd : (List.range ops.size).all (fun i => match ops[i]? with | some o => o.guard.isNone | none => true) = true)
    (fr : (Nat → Value) → Act) (Φ : Nat → Value → World → Prop) (G : (Nat → Bool) → (Nat → Value) → World → Prop) (u0 : Nat → Value) (h0 : G (fun _ => false) u0 w.drew)
    (hstep : ∀ L u w i o, Cl ops L → G L u w → (∀ j, L j = true → Φ j (u j) w) → ops[i]? = some o → L i = false → (∀ e ∈ o.after.toList, Region.binds .any e = true → L e.on = true) →
      ∀ K : Act → World → Prop, (∀ v w', Φ i v w' → G (mark L i) (upd u i v) w' → (∀ j x, L j = true → Φ j x w → Φ j x w') → K (fr (upd u i v)) w') → o.wp P (fr u) w K Q)
    (hend : ∀ u w, (∀ i, i < ops.size → Φ i (u i) w) → (∀ L, (∀ i, i < ops.size → L i = true) → G L u w → Q .normal (fr u) w)) : (Code.region id ops true).wp P Q (fr u0) w :=
  wp_region_ssau hm hb hgd fr Φ (fun L u w => Cl ops L ∧ G L u w) u0 ⟨Cl.start ops, h0⟩
    (fun L u w i o hG hΦ ho hL hd K hK => hstep L u w i o hG.1 hG.2 hΦ ho hL hd K fun v w' h1 h2 h3 => hK v w' h1 ⟨hG.1.mark ho hd, h2⟩ h3)
    (fun u w h1 L h2 h3 => hend u w h1 L h2 h3.2)

/-- The same of a region that is run in the text's order. -/
theorem wp_region_ssau_plain {id : Nat} {w : World} (hm : P.follows .mixedOrders = true) (hb : backB ops = true) (hgd : (List.range ops.size).all (fun i => match ops[i]? with | some o => o.guard.isNone | none => true) = true)
    (fr : (Nat → Value) → Act) (Φ : Nat → Value → World → Prop) (G : (Nat → Bool) → (Nat → Value) → World → Prop) (u0 : Nat → Value) (h0 : G (fun _ => false) u0 w)
    (hstep : ∀ L u w i o, G L u w → (∀ j, L j = true → Φ j (u j) w) → ops[i]? = some o → L i = false → (∀ e ∈ o.after.toList, Region.binds .any e = true → L e.on = true) →
      ∀ K : Act → World → Prop, (∀ v w', Φ i v w' → G (mark L i) (upd u i v) w' → (∀ j x, L j = true → Φ j x w → Φ j x w') → K (fr (upd u i v)) w') → o.wp P (fr u) w K Q)
    (hend : ∀ u w, (∀ i, i < ops.size → Φ i (u i) w) → (∀ L, (∀ i, i < ops.size → L i = true) → G L u w → Q .normal (fr u) w)) : (Code.region id ops false).wp P Q (fr u0) w := by
  refine wp_region_list ?_
  have key : ∀ (rest : List Oper) (k : Nat) (u : Nat → Value) (w : World), ops.toList.drop k = rest → k ≤ ops.size → G (fun j => decide (j < k)) u w → (∀ j, j < k → Φ j (u j) w) → wpList P ops Q rest (fr u) w := by
    intro rest
    induction rest with
    | nil =>
      intro k u w hk hle hG hΦ
      have hkl : k = ops.size := by
        have := List.drop_eq_nil_iff.1 hk
        simp at this; omega
      subst hkl
      exact hend u w hΦ _ (fun i hi => by simpa using hi) hG
    | cons o rest ih =>
      intro k u w hk hle hG hΦ
      have hlt : k < ops.size := by
        rcases Nat.lt_or_ge k ops.size with h | h
        · exact h
        · rw [List.drop_eq_nil_of_le (by simpa using h)] at hk; cases hk
      have ho : ops[k]? = some o := by
        have h1 : (ops.toList.drop k)[0]? = some o := by rw [hk]; rfl
        rw [List.getElem?_drop] at h1
        simpa using h1
      have hr : ops.toList.drop (k + 1) = rest := by
        have h1 : (ops.toList.drop k).drop 1 = rest := by rw [hk]; rfl
        rw [List.drop_drop] at h1
        exact h1
      have hg : o.guard = none := by
        have h1 := List.all_eq_true.1 hgd k (by simpa using hlt)
        rw [ho] at h1
        simpa using h1
      refine wpList_plain hg fun K hK => ?_
      refine hstep (fun j => decide (j < k)) u w k o hG (fun j hj => hΦ j (by simpa using hj)) ho (by simp) ?_ K ?_
      · intro e he hbe
        unfold backB at hb
        have h1 := List.all_eq_true.1 hb k (by simpa using hlt)
        rw [ho] at h1
        have h2 := List.all_eq_true.1 h1 e he
        simpa [hbe] using h2
      · intro v w' hv hG' hst
        refine hK _ _ (ih (k + 1) (upd u k v) w' hr (by omega) ?_ ?_)
        · have e1 : mark (fun j => decide (j < k)) k = fun j => decide (j < k + 1) := by
            funext j
            unfold mark
            by_cases hj : j = k
            · subst hj; simp
            · simp only [hj, if_false]
              rw [decide_eq_decide]; omega
          rw [e1] at hG'; exact hG'
        · intro j hj
          by_cases hjk : j = k
          · subst hjk; simpa [upd] using hv
          · simp only [upd, hjk, if_false]
            exact hst j _ (by simp; omega) (hΦ j (by omega))
  exact key ops.toList 0 u0 w (by simp) (by omega) (by simpa using h0) (fun j hj => by omega)

theorem wpOp_or {i : Nat} {o : Oper} {K : Act → World → Prop} {a : Act} {w : World} (ho : ops[i]? = some o)
    (h : (Region.wanted o (yielded ops a.tmps) = true ∧ o.wp P a w K Q) ∨ (Region.wanted o (yielded ops a.tmps) = false ∧ K (a.put o.dst undef) w)) : wpOp P ops Q i K a w := by
  unfold wpOp
  rw [ho]
  rcases h with ⟨hw, h⟩ | ⟨hw, h⟩
  · simp only [hw, if_true]; exact .inl h
  · simp only [hw]; exact h
/-- wp_region_ssau for a region with guards: each operation is wanted, and carried out, or is not. -/
theorem wp_region_ssag {id : Nat} {w : World} (hm : P.follows .mixedOrders = true) (hb : backB ops = true)
    (fr : (Nat → Value) → Act) (Φ : Nat → Value → World → Prop) (G : (Nat → Bool) → (Nat → Value) → World → Prop) (u0 : Nat → Value) (h0 : G (fun _ => false) u0 w.drew)
    (hstep : ∀ L u w i o, G L u w → (∀ j, L j = true → Φ j (u j) w) → ops[i]? = some o → L i = false → (∀ e ∈ o.after.toList, Region.binds .any e = true → L e.on = true) →
      ∀ K : Act → World → Prop, (∀ v w', Φ i v w' → G (mark L i) (upd u i v) w' → (∀ j x, L j = true → Φ j x w → Φ j x w') → K (fr (upd u i v)) w') →
        (Region.wanted o (yielded ops (fr u).tmps) = true ∧ o.wp P (fr u) w K Q) ∨ (Region.wanted o (yielded ops (fr u).tmps) = false ∧ K ((fr u).put o.dst undef) w))
    (hend : ∀ u w, (∀ i, i < ops.size → Φ i (u i) w) → (∀ L, (∀ i, i < ops.size → L i = true) → G L u w → Q .normal (fr u) w)) : (Code.region id ops true).wp P Q (fr u0) w := by
  refine wp_region_inv hm (fun L a w => ∃ u, a = fr u ∧ (∀ j, L j = true → Φ j (u j) w) ∧ G L u w) hb ⟨u0, rfl, (fun j h => by cases h), h0⟩ ?_ ?_
  · rintro L a w i o ⟨u, rfl, hΦ, hG⟩ ho hL hd
    refine wpOp_or ho (hstep L u w i o hG hΦ ho hL hd _ fun v w' h1 h2 h3 => ⟨upd u i v, rfl, fun j hj => ?_, h2⟩)
    by_cases hji : j = i
    · subst hji; simpa [upd] using h1
    · simp only [upd, hji, if_false] at hj ⊢
      exact h3 j _ hj (hΦ j hj)
  · rintro L a w ⟨u, rfl, hΦ, hG⟩ hall
    exact hend u w (fun i hi => hΦ i (hall i hi)) L hall hG
end
end Go.Proofs.YtcbkaiakdhiloabGreatDoor
namespace Go.Proofs.YtcbkaiakdhiloabGreatDoor
open Go.RowKit Go.Proofs

/-- A slice that was made (if it was), beside the writer's row. -/
def AlS (L : Bool) (v : Value) (n : Nat) (t : TypeId) (cells : Array Value) (B : Nat) (A : Option Addr) (w : World) : Prop :=
  L = true → ∃ g, v = .slice (some ⟨g, 0, none⟩) n n ∧ Bk w g t cells ∧ B ≤ g ∧ ∀ a, A = some a → a.block ≠ g
/-- The writer at p holds l; its row is new since w1; nothing else of w1's has turned. -/
structure Chn (w1 : World) (p B : Nat) (A : Option Addr) (l : List UInt8) (w : World) : Prop where
  wr : Wr w p A l
  row : ∀ a, A = some a → B ≤ a.block
  fr : Fr (oneB p) w1 w
  eB : B = w1.heap.size
  lt : p < B
section
variable {w1 w w' : World} {p B n : Nat} {A : Option Addr} {l l' : List UInt8} {L : Bool} {v : Value} {t : TypeId} {cs : Array Value}
theorem Wr.row_lt (h : Wr w p A l) : ∀ a, A = some a → a.block < w.heap.size := by
  obtain ⟨cap, hb, hown, hne⟩ := h
  rintro a rfl
  exact (hown.lt a.block rfl).2
theorem Wr.alloc (h : Wr w p A l) (o : Obj) : Wr (w.alloc o) p A l := h.keep (S := noB) ((Fr.refl _ _).alloc o) (fun _ _ _ x => x)
theorem Wr.drew (h : Wr w p A l) : Wr w.drew p A l := h.keep (S := noB) ((Fr.refl _ _).drew) (fun _ _ _ x => x)
theorem Chn.start (h : Wr w1 p A l) (hA : A = none) : Chn w1 p w1.heap.size A l w1.drew :=
  ⟨h.drew, (fun a e => by rw [hA] at e; cases e), (Fr.refl _ _).drew, rfl, h.lt⟩
theorem Chn.start0 (h : Wr w1 p A l) (hA : A = none) : Chn w1 p w1.heap.size A l w1 :=
  ⟨h, (fun a e => by rw [hA] at e; cases e), (Fr.refl _ _), rfl, h.lt⟩
theorem Chn.alloc (h : Chn w1 p B A l w) (o : Obj) : Chn w1 p B A l (w.alloc o) := ⟨h.wr.alloc o, h.row, h.fr.alloc o, h.eB, h.lt⟩
/-- a call that leaves all old memory alone -/
theorem Chn.quiet (h : Chn w1 p B A l w) (hf : Fr noB w w') : Chn w1 p B A l w' := ⟨h.wr.keep hf (fun _ _ _ x => x), h.row, h.fr.none hf, h.eB, h.lt⟩
theorem Chn.call (h : Chn w1 p B A l w) (hw : Wto w p A w' l') :
    ∃ A', Chn w1 p B A' l' w' ∧ ∀ (L : Bool) (v : Value) (n : Nat) (t : TypeId) (cs : Array Value), AlS L v n t cs B A w → AlS L v n t cs B A' w' := by
  obtain ⟨A', W', fr', at'⟩ := hw
  have hB := h.eB
  have hp := h.lt
  have hsz := h.fr.size
  refine ⟨A', ⟨W', ?_, h.fr.trans' fr' ?_, hB, hp⟩, ?_⟩
  · intro a' e
    rcases at' a' e with h1 | ⟨a, ea, h1⟩
    · omega
    · rw [← h1]; exact h.row a ea
  · rintro b hb (rfl | ⟨a, ea, rfl⟩)
    · rfl
    · have := h.row a ea; omega
  · intro L v n t cs hal hL
    obtain ⟨g, hv, hb, hg, hne⟩ := hal hL
    have hgl := hb.lt
    refine ⟨g, hv, hb.keep fr' ?_, hg, ?_⟩
    · rintro (e | ⟨a, ea, e⟩)
      · omega
      · exact hne a ea e
    · intro a' e
      rcases at' a' e with h1 | ⟨a, ea, h1⟩
      · omega
      · rw [← h1]; exact hne a ea
theorem AlS.alloc (h : AlS L v n t cs B A w) (o : Obj) : AlS L v n t cs B A (w.alloc o) := fun hL => by
  obtain ⟨g, hv, hb, hg, hne⟩ := h hL
  exact ⟨g, hv, hb.alloc o, hg, hne⟩
theorem AlS.quiet (h : AlS L v n t cs B A w) (hf : Fr noB w w') : AlS L v n t cs B A w' := fun hL => by
  obtain ⟨g, hv, hb, hg, hne⟩ := h hL
  exact ⟨g, hv, hb.keep hf (fun x => x), hg, hne⟩
theorem AlS.new (h : Chn w1 p B A l w) (n : Nat) (t : TypeId) (cs : Array Value) : AlS L (.slice (some ⟨w.heap.size, 0, none⟩) n n) n t cs B A (w.alloc (.cells cs t)) := fun _ =>
  ⟨w.heap.size, rfl, Bk.new w t cs, by have := h.fr.size; have := h.eB; omega, fun a e => by have := h.wr.row_lt a e; omega⟩
theorem AlS.not {g : Nat} (h : Chn w1 p B A l w) (hg : B ≤ g) (hne : ∀ a, A = some a → a.block ≠ g) : ¬ wrS p A g := by
  have := h.lt
  rintro (e | ⟨a, ea, e⟩)
  · omega
  · exact hne a ea e
end
theorem AlS.false {v : Value} {n : Nat} {t : TypeId} {cs : Array Value} {B : Nat} {A : Option Addr} {w : World} : AlS false v n t cs B A w := fun h => by cases h
theorem AlS.new0 {L : Bool} (w : World) (n : Nat) (t : TypeId) (cs : Array Value) : AlS L (.slice (some ⟨w.heap.size, 0, none⟩) n n) n t cs 0 none (w.alloc (.cells cs t)) := fun _ =>
  ⟨w.heap.size, rfl, Bk.new w t cs, Nat.zero_le _, fun a e => by cases e⟩
/-- a writer that has nothing yet -/
theorem Wr.zero {w : World} {p : Nat} (h : Bk w p 125 #[.slice none 0 0]) : Wr w p none [] :=
  ⟨0, h, ⟨by simp [u8s], .inl ⟨rfl, rfl⟩⟩, fun a e => by cases e⟩
/-- a text and an error are handed back -/
def strPost (r : List UInt8 × Nat) (w : World) (e : Ending) (w' : World) : Prop := e = .returned (.tuple #[.string (bs r.1), .int .i64 (r.2 : Int)]) ∧ Fr noB w w'
end Go.Proofs.YtcbkaiakdhiloabGreatDoor
namespace Go.Proofs.YtcbkaiakdhiloabGreatDoor
open Go.RowKit Go.Proofs
attribute [local go_sem] bs_size bs_append bs_sub bs_toList
def besideB (fi ti n : Nat) : List UInt8 := big 4 fi ++ big 4 ti ++ [0, 17] ++ big 2 n
theorem beside_length (fi ti n : Nat) : (besideB fi ti n).length = 12 := by simp [besideB, big_length]
theorem beside_lst (fi ti : Nat) (n : Int) : ([] ++ bigs 4 [(fi : Int), (ti : Int)] ++ [0, 17] ++ bigs 2 [n]) = besideB fi ti n.toNat := by
  simp only [bigs, List.flatMap_cons, List.flatMap_nil, List.append_nil, Int.toNat_natCast, List.nil_append, besideB, List.append_assoc]
theorem hashCheck_two (A : Option Addr) (c : Nat) (p q : List UInt8) (w : World) (hr : SlR w noB 1 A 2 (strs [p, q])) (hz : p.length ≤ 9223372036854775807) (hy : q.length ≤ 9223372036854775807) :
    Calls Tryz.prog 28 #[.slice A 2 c] w fun e w' => e = .returned (.int .u16 (check (p ++ q))) ∧ w = w' := by
  have h := hashCheck_any A 2 c [p, q] w noB hr (by omega) (by intro x hx; simp at hx; rcases hx with rfl | rfl <;> assumption)
  simpa using h
theorem refBigI (x : Int) (n : Nat) (w : World) (h0 : 0 ≤ x) (hx : x ≤ 4611686018427387904) (hn : n ≤ 1000) :
    Calls Tryz.prog 259 #[.int .i64 x, .int .i64 n] w fun e w' => e = .returned (.string (bs (big n x.toNat))) ∧ Fr noB w w' := by
  have h := refBig x.toNat n w (by omega) hn
  rw [Int.toNat_of_nonneg h0] at h
  exact h

set_option maxRecDepth 20000 in
set_option maxHeartbeats 1000000 in
theorem pseudoFn (fi ti : Nat) (n : Int) (w : World) (hfi : fi < 4294967296) (hti : ti < 4294967296) (hn0 : 0 ≤ n) (hn1 : n ≤ 65535) :
    Calls Tryz.prog 76 #[.int .u32 (fi : Int), .int .u32 (ti : Int), .int .i64 n] w (fun e w' => e = .returned (.string (bs (besideB fi ti n.toNat))) ∧ Fr noB w w') := by
  have hbw := Bk.new w 125 #[.slice none 0 0]
  have hf0 : Fr noB w (w.alloc (.cells #[.slice none 0 0] 125)) := (Fr.refl _ _).alloc _
  have hsz : (w.alloc (.cells #[.slice none 0 0] 125)).heap.size = w.heap.size + 1 := by simp
  go_enter Tryz.func76, Tryz.ntmps76
  go_upto_region 2 with fail
  generalize w.alloc (.cells #[.slice none 0 0] 125) = w1 at *
  have hwr0 := Wr.zero hbw
  obtain ⟨lst, Q0, Q1, Q2, Q3⟩ : ∃ lst : Nat → List UInt8, Hid (lst 0 = ([] : List UInt8)) ∧ Hid (lst 1 = lst 0 ++ bigs 4 [(fi : Int), (ti : Int)]) ∧ Hid (lst 2 = lst 1 ++ [0, 17]) ∧ Hid (lst 3 = lst 2 ++ bigs 2 [n]) := by
    exact ⟨fun k => match k with | 0 => ([] : List UInt8) | 1 => (([] : List UInt8) ++ bigs 4 [(fi : Int), (ti : Int)]) | 2 => ((([] : List UInt8) ++ bigs 4 [(fi : Int), (ti : Int)]) ++ [0, 17]) | _ => (((([] : List UInt8) ++ bigs 4 [(fi : Int), (ti : Int)]) ++ [0, 17]) ++ bigs 2 [n]), rfl, rfl, rfl, rfl⟩
  have N0 : Hid ((lst 0).length ≤ 0) := by unfold Hid; rw [Q0.out]; simp
  have N1 : Hid ((lst 1).length ≤ 0 + (8)) := by have h0 := N0.out; have h1 : ((bigs 4 [(fi : Int), (ti : Int)] : List UInt8)).length ≤ 8 := (by simp [bigs_length, macB, big_length] <;> omega); unfold Hid; rw [Q1.out, List.length_append]; omega
  have N2 : Hid ((lst 2).length ≤ 0 + (8) + (2)) := by have h0 := N1.out; have h1 : (([0, 17] : List UInt8)).length ≤ 2 := (by simp [bigs_length, macB, big_length] <;> omega); unfold Hid; rw [Q2.out, List.length_append]; omega
  have N3 : Hid ((lst 3).length ≤ 0 + (8) + (2) + (2)) := by have h0 := N2.out; have h1 : ((bigs 2 [n] : List UInt8)).length ≤ 2 := (by simp [bigs_length, macB, big_length] <;> omega); unfold Hid; rw [Q3.out, List.length_append]; omega
  obtain ⟨V, hV⟩ : ∃ V : Nat → Value, V = (fun j => match j with | 0 => .pointer (some ⟨w.heap.size, 0, none⟩) | 1 => .int .u32 (fi : Int) | 2 => .int .u32 (ti : Int) | 4 => .pointer (some ⟨w.heap.size, 0, none⟩) | 6 => .pointer (some ⟨w.heap.size, 0, none⟩) | 7 => .int .i64 n | 8 => .int .u16 n | 10 => .pointer (some ⟨w.heap.size, 0, none⟩) | 11 => .string (bs (lst 3)) | 12 => .string (bs (lst 3)) | _ => undef) := ⟨_, rfl⟩
  have v0 : V 0 = .pointer (some ⟨w.heap.size, 0, none⟩) := congrFun hV 0
  have v1 : V 1 = .int .u32 (fi : Int) := congrFun hV 1
  have v2 : V 2 = .int .u32 (ti : Int) := congrFun hV 2
  have v4 : V 4 = .pointer (some ⟨w.heap.size, 0, none⟩) := congrFun hV 4
  have v6 : V 6 = .pointer (some ⟨w.heap.size, 0, none⟩) := congrFun hV 6
  have v7 : V 7 = .int .i64 n := congrFun hV 7
  have v8 : V 8 = .int .u16 n := congrFun hV 8
  have v10 : V 10 = .pointer (some ⟨w.heap.size, 0, none⟩) := congrFun hV 10
  have v11 : V 11 = .string (bs (lst 3)) := congrFun hV 11
  have v12 : V 12 = .string (bs (lst 3)) := congrFun hV 12
  clear hV
  refine wp_region_ssau_plain (by kernel_rfl) (by kernel_rfl) (by kernel_rfl)
    (fun u => ⟨#[.int .u32 (fi : Int), .int .u32 (ti : Int), .int .i64 n, undef, undef, undef, u 12, .pointer (some ⟨w.heap.size, 0, none⟩), .agg #[.slice none 0 0], .pointer (some ⟨w.heap.size, 0, none⟩), u 0, u 1, u 2, u 3, u 4, u 5, u 6, u 7, u 8, u 9, u 10, u 11], []⟩)
    (fun j v w3 => if j = 3 then True else if j = 5 then True else if j = 9 then True else v = V j)
    (fun L u w3 => ∃ (c : Nat) (A : Option Addr), (L 4 = decide (0 < c) ∧ L 6 = decide (1 < c) ∧ L 10 = decide (2 < c)) ∧ c ≤ 3 ∧ Chn w1 w.heap.size w1.heap.size A (lst c) w3 ∧ AlS (L 3) (u 3) 2 34 #[.int .u32 (fi : Int), .int .u32 (ti : Int)] w1.heap.size A w3 ∧ AlS (L 5) (u 5) 2 5 #[.int .u8 0, .int .u8 17] w1.heap.size A w3 ∧ AlS (L 9) (u 9) 1 24 #[.int .u16 n] w1.heap.size A w3) (fun j => if j = 12 then .string ⟨#[]⟩ else undef) ⟨0, none, ⟨rfl, rfl, rfl⟩, by omega, by rw [Q0.out]; exact Chn.start0 hwr0 rfl, AlS.false, AlS.false, AlS.false⟩ ?_ ?_
  · rintro L u w3 i o hG hΦ ho hL hd K hK
    match i, ho with
    | 0, ho =>
      simp at ho; subst ho
      clear hΦ hd
      go_simp
      exact hK _ _ v0.symm hG (fun _ _ _ h => h)
    | 1, ho =>
      simp at ho; subst ho
      clear hΦ hd
      go_simp
      exact hK _ _ v1.symm hG (fun _ _ _ h => h)
    | 2, ho =>
      simp at ho; subst ho
      clear hΦ hd
      go_simp
      exact hK _ _ v2.symm hG (fun _ _ _ h => h)
    | 3, ho =>
      simp at ho; subst ho
      have hu1 : u 1 = V 1 := hΦ 1 (hd ⟨1, .data⟩ (by simp) (by rfl))
      rw [v1] at hu1
      have hu2 : u 2 = V 2 := hΦ 2 (hd ⟨2, .data⟩ (by simp) (by rfl))
      rw [v2] at hu2
      clear hΦ hd
      obtain ⟨c, A, ⟨e0, e1, e2⟩, hcn, hch, s3, s5, s9⟩ := hG
      have hx : ∃ x, u = (upd (upd x 1 (.int .u32 (fi : Int))) 2 (.int .u32 (ti : Int))) := ⟨u, by rw [← upd_self hu1, ← upd_self hu2]⟩
      clear hu1 hu2
      obtain ⟨x, rfl⟩ := hx
      simp only [upd, reduceIte, Nat.reduceEqDiff]
      go_simp
      exact hK _ _ trivial ⟨c, A, ⟨e0, e1, e2⟩, hcn, hch.alloc _, AlS.new hch 2 34 #[.int .u32 (fi : Int), .int .u32 (ti : Int)], AlS.alloc s5 _, AlS.alloc s9 _⟩ (fun _ _ _ h => h)
    | 4, ho =>
      simp at ho; subst ho
      have hu0 : u 0 = V 0 := hΦ 0 (hd ⟨0, .data⟩ (by simp) (by rfl))
      rw [v0] at hu0
      have hl3 : L 3 = true := hd ⟨3, .data⟩ (by simp) (by rfl)
      clear hΦ hd
      obtain ⟨c, A, ⟨e0, e1, e2⟩, hcn, hch, s3, s5, s9⟩ := hG
      have hck : c = 0 := by
        have h1 := hL.symm.trans e0
        simp at h1; omega
      subst hck
      obtain ⟨g3, hg3, hb3, hB3, hn3⟩ := s3 hl3
      have hx : ∃ x, u = (upd (upd x 0 (.pointer (some ⟨w.heap.size, 0, none⟩))) 3 (.slice (some ⟨g3, 0, none⟩) 2 2)) := ⟨u, by rw [← upd_self hu0, ← upd_self hg3]⟩
      clear hu0 hg3
      obtain ⟨x, rfl⟩ := hx
      simp only [upd, reduceIte, Nat.reduceEqDiff]
      go_simp
      refine (wIP w.heap.size A _ w3 _ 2 2 [(fi : Int), (ti : Int)] hch.wr (SlR.of_bk (n := 2) (size := 1) hb3 (AlS.not hch hB3 hn3) rfl) (by intro x hx; simp at hx; omega) (by omega) (by have := N0.out; first | omega | (simp; omega))).mono ?_
      rintro e w4 ⟨rfl, hw4⟩
      obtain ⟨A', hch', hal⟩ := hch.call hw4
      exact hK _ _ v4.symm ⟨1, A', ⟨rfl, e1, e2⟩, by omega, by rw [Q1.out]; exact hch', hal _ _ _ _ _ s3, hal _ _ _ _ _ s5, hal _ _ _ _ _ s9⟩ (fun _ _ _ h => h)
    | 5, ho =>
      simp at ho; subst ho
      clear hΦ hd
      obtain ⟨c, A, ⟨e0, e1, e2⟩, hcn, hch, s3, s5, s9⟩ := hG
      go_simp
      exact hK _ _ trivial ⟨c, A, ⟨e0, e1, e2⟩, hcn, hch.alloc _, AlS.alloc s3 _, AlS.new hch 2 5 #[.int .u8 0, .int .u8 17], AlS.alloc s9 _⟩ (fun _ _ _ h => h)
    | 6, ho =>
      simp at ho; subst ho
      have hu4 : u 4 = V 4 := hΦ 4 (hd ⟨4, .data⟩ (by simp) (by rfl))
      rw [v4] at hu4
      have hl5 : L 5 = true := hd ⟨5, .data⟩ (by simp) (by rfl)
      have hlc : L 4 = true := hd ⟨4, .chain⟩ (by simp) (by rfl)
      clear hΦ hd
      obtain ⟨c, A, ⟨e0, e1, e2⟩, hcn, hch, s3, s5, s9⟩ := hG
      have hck : c = 1 := by
        have h1 := hL.symm.trans e1
        have h2 := hlc.symm.trans e0
        simp at h1 h2; omega
      subst hck
      obtain ⟨g5, hg5, hb5, hB5, hn5⟩ := s5 hl5
      have hx : ∃ x, u = (upd (upd x 4 (.pointer (some ⟨w.heap.size, 0, none⟩))) 5 (.slice (some ⟨g5, 0, none⟩) 2 2)) := ⟨u, by rw [← upd_self hu4, ← upd_self hg5]⟩
      clear hu4 hg5
      obtain ⟨x, rfl⟩ := hx
      simp only [upd, reduceIte, Nat.reduceEqDiff]
      go_simp
      refine (wU8 w.heap.size A _ w3 _ 2 2 [0, 17] (wrS w.heap.size A) hch.wr (SlR.of_bk (n := 2) (size := 1) hb5 (AlS.not hch hB5 hn5) rfl) (by have := N1.out; first | omega | (simp; omega))).mono ?_
      rintro e w4 ⟨rfl, hw4⟩
      obtain ⟨A', hch', hal⟩ := hch.call hw4
      exact hK _ _ v6.symm ⟨2, A', ⟨e0, rfl, e2⟩, by omega, by rw [Q2.out]; exact hch', hal _ _ _ _ _ s3, hal _ _ _ _ _ s5, hal _ _ _ _ _ s9⟩ (fun _ _ _ h => h)
    | 7, ho =>
      simp at ho; subst ho
      clear hΦ hd
      go_simp
      exact hK _ _ v7.symm hG (fun _ _ _ h => h)
    | 8, ho =>
      simp at ho; subst ho
      have hu7 : u 7 = V 7 := hΦ 7 (hd ⟨7, .data⟩ (by simp) (by rfl))
      rw [v7] at hu7
      clear hΦ hd
      have hx : ∃ x, u = (upd x 7 (.int .i64 n)) := ⟨u, by rw [← upd_self hu7]⟩
      clear hu7
      obtain ⟨x, rfl⟩ := hx
      simp only [upd, reduceIte, Nat.reduceEqDiff]
      have e8 : IntKind.u16.wrap n = n := by rw [IntKind.wrap_u16]; omega
      have e8' : n % 65536 = n := by omega
      go_simp
      exact hK _ _ v8.symm hG (fun _ _ _ h => h)
    | 9, ho =>
      simp at ho; subst ho
      have hu8 : u 8 = V 8 := hΦ 8 (hd ⟨8, .data⟩ (by simp) (by rfl))
      rw [v8] at hu8
      clear hΦ hd
      obtain ⟨c, A, ⟨e0, e1, e2⟩, hcn, hch, s3, s5, s9⟩ := hG
      have hx : ∃ x, u = (upd x 8 (.int .u16 n)) := ⟨u, by rw [← upd_self hu8]⟩
      clear hu8
      obtain ⟨x, rfl⟩ := hx
      simp only [upd, reduceIte, Nat.reduceEqDiff]
      go_simp
      exact hK _ _ trivial ⟨c, A, ⟨e0, e1, e2⟩, hcn, hch.alloc _, AlS.alloc s3 _, AlS.alloc s5 _, AlS.new hch 1 24 #[.int .u16 n]⟩ (fun _ _ _ h => h)
    | 10, ho =>
      simp at ho; subst ho
      have hu6 : u 6 = V 6 := hΦ 6 (hd ⟨6, .data⟩ (by simp) (by rfl))
      rw [v6] at hu6
      have hl9 : L 9 = true := hd ⟨9, .data⟩ (by simp) (by rfl)
      have hlc : L 6 = true := hd ⟨6, .chain⟩ (by simp) (by rfl)
      clear hΦ hd
      obtain ⟨c, A, ⟨e0, e1, e2⟩, hcn, hch, s3, s5, s9⟩ := hG
      have hck : c = 2 := by
        have h1 := hL.symm.trans e2
        have h2 := hlc.symm.trans e1
        simp at h1 h2; omega
      subst hck
      obtain ⟨g9, hg9, hb9, hB9, hn9⟩ := s9 hl9
      have hx : ∃ x, u = (upd (upd x 6 (.pointer (some ⟨w.heap.size, 0, none⟩))) 9 (.slice (some ⟨g9, 0, none⟩) 1 1)) := ⟨u, by rw [← upd_self hu6, ← upd_self hg9]⟩
      clear hu6 hg9
      obtain ⟨x, rfl⟩ := hx
      simp only [upd, reduceIte, Nat.reduceEqDiff]
      go_simp
      refine (wU16 w.heap.size A _ w3 _ 1 1 [n] hch.wr (SlR.of_bk (n := 1) (size := 1) hb9 (AlS.not hch hB9 hn9) rfl) (by intro x hx; simp at hx; omega) (by omega) (by have := N2.out; first | omega | (simp; omega))).mono ?_
      rintro e w4 ⟨rfl, hw4⟩
      obtain ⟨A', hch', hal⟩ := hch.call hw4
      exact hK _ _ v10.symm ⟨3, A', ⟨e0, e1, rfl⟩, by omega, by rw [Q3.out]; exact hch', hal _ _ _ _ _ s3, hal _ _ _ _ _ s5, hal _ _ _ _ _ s9⟩ (fun _ _ _ h => h)
    | 11, ho =>
      simp at ho; subst ho
      have hu10 : u 10 = V 10 := hΦ 10 (hd ⟨10, .data⟩ (by simp) (by rfl))
      rw [v10] at hu10
      have hlc : L 10 = true := hd ⟨10, .chain⟩ (by simp) (by rfl)
      clear hΦ hd
      obtain ⟨c, A, ⟨e0, e1, e2⟩, hcn, hch, s3, s5, s9⟩ := hG
      have hck : c = 3 := by
        have h2 := hlc.symm.trans e2
        simp at h2; omega
      subst hck
      have hx : ∃ x, u = (upd x 10 (.pointer (some ⟨w.heap.size, 0, none⟩))) := ⟨u, by rw [← upd_self hu10]⟩
      clear hu10
      obtain ⟨x, rfl⟩ := hx
      simp only [upd, reduceIte, Nat.reduceEqDiff]
      go_simp
      refine (wString w.heap.size _ _ _ hch.wr).mono ?_
      rintro e w4 ⟨rfl, rfl⟩
      exact hK _ _ v11.symm ⟨3, A, ⟨e0, e1, e2⟩, hcn, hch, s3, s5, s9⟩ (fun _ _ _ h => h)
    | 12, ho =>
      simp at ho; subst ho
      have hu11 : u 11 = V 11 := hΦ 11 (hd ⟨11, .data⟩ (by simp) (by rfl))
      rw [v11] at hu11
      clear hΦ hd
      have hx : ∃ x, u = (upd x 11 (.string (bs (lst 3)))) := ⟨u, by rw [← upd_self hu11]⟩
      clear hu11
      obtain ⟨x, rfl⟩ := hx
      simp only [upd, reduceIte, Nat.reduceEqDiff]
      go_simp
      exact hK _ _ v12.symm hG (fun _ _ _ h => h)
  · rintro u w3 hu L hall hG
    obtain ⟨c, A, ⟨e0, e1, e2⟩, hcn, hch, s3, s5, s9⟩ := hG
    have h12 : u 12 = V 12 := hu 12 (by simp)
    rw [v12] at h12
    clear hu
    rw [h12]
    have hby : lst 3 = besideB fi ti n.toNat := by rw [Q3.out, Q2.out, Q1.out, Q0.out]; exact beside_lst _ _ _
    rw [hby]
    have hfr := hf0.trans' hch.fr (fun b hb e => by unfold oneB at e; omega)
    generalize hR : besideB fi ti n.toNat = R at *
    have HR := Lib.hid hR
    clear hR
    go_wp2_with fail
    go_ret
    exact ⟨by rw [HR.out]; rfl, hfr⟩

set_option maxRecDepth 20000 in
set_option maxHeartbeats 1000000 in
theorem refBeside (fi ti : Nat) (n : Int) (w : World) (hfi : fi < 4294967296) (hti : ti < 4294967296) (hn0 : 0 ≤ n) (hn1 : n ≤ 65535) :
    Calls Tryz.prog 229 #[.int .u32 (fi : Int), .int .u32 (ti : Int), .int .i64 n] w (fun e w' => e = .returned (.string (bs (besideB fi ti n.toNat))) ∧ Fr noB w w') := by
  go_enter Tryz.func229, Tryz.ntmps229
  go_upto_region 1 with fail
  obtain ⟨y1, Hy1⟩ : ∃ s : List UInt8, Hid (s = big 4 fi) := ⟨big 4 fi, Lib.hid rfl⟩
  obtain ⟨y2, Hy2⟩ : ∃ s : List UInt8, Hid (s = big 4 ti) := ⟨big 4 ti, Lib.hid rfl⟩
  obtain ⟨t1, Ht1⟩ : ∃ s : List UInt8, Hid (s = y1 ++ y2) := ⟨y1 ++ y2, Lib.hid rfl⟩
  obtain ⟨c1, Hc1⟩ : ∃ s : List UInt8, Hid (s = [0, 17]) := ⟨[0, 17], Lib.hid rfl⟩
  obtain ⟨t2, Ht2⟩ : ∃ s : List UInt8, Hid (s = t1 ++ c1) := ⟨t1 ++ c1, Lib.hid rfl⟩
  obtain ⟨y3, Hy3⟩ : ∃ s : List UInt8, Hid (s = big 2 n.toNat) := ⟨big 2 n.toNat, Lib.hid rfl⟩
  obtain ⟨t3, Ht3⟩ : ∃ s : List UInt8, Hid (s = t2 ++ y3) := ⟨t2 ++ y3, Lib.hid rfl⟩
  have Ly1 : Hid (y1.length ≤ 4) := by unfold Hid; rw [Hy1.out]; (simp [big_length, macB, bigs_length] <;> omega)
  have Ly2 : Hid (y2.length ≤ 4) := by have l_y1 := Ly1.out; unfold Hid; rw [Hy2.out]; (simp [big_length, macB, bigs_length] <;> omega)
  have Lt1 : Hid (t1.length ≤ 8) := by have l_y1 := Ly1.out; have l_y2 := Ly2.out; unfold Hid; rw [Ht1.out]; (simp [big_length, macB, bigs_length] <;> omega)
  have Lc1 : Hid (c1.length ≤ 2) := by have l_y1 := Ly1.out; have l_y2 := Ly2.out; have l_t1 := Lt1.out; unfold Hid; rw [Hc1.out]; (simp [big_length, macB, bigs_length] <;> omega)
  have Lt2 : Hid (t2.length ≤ 10) := by have l_y1 := Ly1.out; have l_y2 := Ly2.out; have l_t1 := Lt1.out; have l_c1 := Lc1.out; unfold Hid; rw [Ht2.out]; (simp [big_length, macB, bigs_length] <;> omega)
  have Ly3 : Hid (y3.length ≤ 2) := by have l_y1 := Ly1.out; have l_y2 := Ly2.out; have l_t1 := Lt1.out; have l_c1 := Lc1.out; have l_t2 := Lt2.out; unfold Hid; rw [Hy3.out]; (simp [big_length, macB, bigs_length] <;> omega)
  have Lt3 : Hid (t3.length ≤ 12) := by have l_y1 := Ly1.out; have l_y2 := Ly2.out; have l_t1 := Lt1.out; have l_c1 := Lc1.out; have l_t2 := Lt2.out; have l_y3 := Ly3.out; unfold Hid; rw [Ht3.out]; (simp [big_length, macB, bigs_length] <;> omega)
  obtain ⟨V, hV⟩ : ∃ V : Nat → Value, V = (fun j => match j with | 0 => .int .u32 (fi : Int) | 1 => .string (bs y1) | 2 => .int .u32 (ti : Int) | 3 => .string (bs y2) | 4 => .string (bs t1) | 5 => .string (bs t2) | 6 => .int .i64 n | 7 => .string (bs y3) | 8 => .string (bs t3) | 9 => .string (bs t3) | _ => undef) := ⟨_, rfl⟩
  have v0 : V 0 = .int .u32 (fi : Int) := congrFun hV 0
  have v1 : V 1 = .string (bs y1) := congrFun hV 1
  have v2 : V 2 = .int .u32 (ti : Int) := congrFun hV 2
  have v3 : V 3 = .string (bs y2) := congrFun hV 3
  have v4 : V 4 = .string (bs t1) := congrFun hV 4
  have v5 : V 5 = .string (bs t2) := congrFun hV 5
  have v6 : V 6 = .int .i64 n := congrFun hV 6
  have v7 : V 7 = .string (bs y3) := congrFun hV 7
  have v8 : V 8 = .string (bs t3) := congrFun hV 8
  have v9 : V 9 = .string (bs t3) := congrFun hV 9
  clear hV
  refine wp_region_ssau_plain (by kernel_rfl) (by kernel_rfl) (by kernel_rfl)
    (fun u => ⟨#[.int .u32 (fi : Int), .int .u32 (ti : Int), .int .i64 n, undef, undef, undef, u 9, u 0, u 1, u 2, u 3, u 4, u 5, u 6, u 7, u 8], []⟩)
    (fun j v w3 => v = V j)
    (fun L u w3 => Fr noB w w3) (fun j => if j = 9 then .string ⟨#[]⟩ else undef) ((Fr.refl _ _)) ?_ ?_
  · rintro L u w3 i o hG hΦ ho hL hd K hK
    match i, ho with
    | 0, ho =>
      simp at ho; subst ho
      clear hΦ hd
      go_simp
      exact hK _ _ v0.symm hG (fun _ _ _ h => h)
    | 1, ho =>
      simp at ho; subst ho
      have hu0 : u 0 = V 0 := hΦ 0 (hd ⟨0, .data⟩ (by simp) (by rfl))
      rw [v0] at hu0
      clear hΦ hd
      have hG0 := hG
      have hx : ∃ x, u = (upd x 0 (.int .u32 (fi : Int))) := ⟨u, by rw [← upd_self hu0]⟩
      clear hu0
      obtain ⟨x, rfl⟩ := hx
      simp only [upd, reduceIte, Nat.reduceEqDiff]
      go_simp
      refine (refIp fi w3 (by omega)).mono ?_
      rintro e w4 ⟨rfl, hf4⟩
      rw [← Hy1.out]
      exact hK _ _ v1.symm (hG0.none hf4) (fun _ _ _ h => h)
    | 2, ho =>
      simp at ho; subst ho
      clear hΦ hd
      go_simp
      exact hK _ _ v2.symm hG (fun _ _ _ h => h)
    | 3, ho =>
      simp at ho; subst ho
      have hu2 : u 2 = V 2 := hΦ 2 (hd ⟨2, .data⟩ (by simp) (by rfl))
      rw [v2] at hu2
      clear hΦ hd
      have hG0 := hG
      have hx : ∃ x, u = (upd x 2 (.int .u32 (ti : Int))) := ⟨u, by rw [← upd_self hu2]⟩
      clear hu2
      obtain ⟨x, rfl⟩ := hx
      simp only [upd, reduceIte, Nat.reduceEqDiff]
      go_simp
      refine (refIp ti w3 (by omega)).mono ?_
      rintro e w4 ⟨rfl, hf4⟩
      rw [← Hy2.out]
      exact hK _ _ v3.symm (hG0.none hf4) (fun _ _ _ h => h)
    | 4, ho =>
      simp at ho; subst ho
      have hu1 : u 1 = V 1 := hΦ 1 (hd ⟨1, .data⟩ (by simp) (by rfl))
      rw [v1] at hu1
      have hu3 : u 3 = V 3 := hΦ 3 (hd ⟨3, .data⟩ (by simp) (by rfl))
      rw [v3] at hu3
      clear hΦ hd
      have hx : ∃ x, u = (upd (upd x 1 (.string (bs y1))) 3 (.string (bs y2))) := ⟨u, by rw [← upd_self hu1, ← upd_self hu3]⟩
      clear hu1 hu3
      obtain ⟨x, rfl⟩ := hx
      simp only [upd, reduceIte, Nat.reduceEqDiff]
      have hln : ¬ 9223372036854775807 < y1.length + y2.length := by have l1 := Ly1.out; have l2 := Ly2.out; omega
      go_simp
      rw [← Ht1.out]
      exact hK _ _ v4.symm hG (fun _ _ _ h => h)
    | 5, ho =>
      simp at ho; subst ho
      have hu4 : u 4 = V 4 := hΦ 4 (hd ⟨4, .data⟩ (by simp) (by rfl))
      rw [v4] at hu4
      clear hΦ hd
      have hx : ∃ x, u = (upd x 4 (.string (bs t1))) := ⟨u, by rw [← upd_self hu4]⟩
      clear hu4
      obtain ⟨x, rfl⟩ := hx
      simp only [upd, reduceIte, Nat.reduceEqDiff]
      have hln : ¬ 9223372036854775807 < t1.length + c1.length := by have l1 := Lt1.out; have l2 := Lc1.out; omega
      have hcs : (⟨#[0, 17]⟩ : ByteArray) = bs c1 := by rw [Hc1.out]; rfl
      go_simp
      rw [← Ht2.out]
      exact hK _ _ v5.symm hG (fun _ _ _ h => h)
    | 6, ho =>
      simp at ho; subst ho
      clear hΦ hd
      go_simp
      exact hK _ _ v6.symm hG (fun _ _ _ h => h)
    | 7, ho =>
      simp at ho; subst ho
      have hu6 : u 6 = V 6 := hΦ 6 (hd ⟨6, .data⟩ (by simp) (by rfl))
      rw [v6] at hu6
      clear hΦ hd
      have hG0 := hG
      have hx : ∃ x, u = (upd x 6 (.int .i64 n)) := ⟨u, by rw [← upd_self hu6]⟩
      clear hu6
      obtain ⟨x, rfl⟩ := hx
      simp only [upd, reduceIte, Nat.reduceEqDiff]
      go_simp
      refine (refBigI n 2 w3 hn0 (by omega) (by omega)).mono ?_
      rintro e w4 ⟨rfl, hf4⟩
      rw [← Hy3.out]
      exact hK _ _ v7.symm (hG0.none hf4) (fun _ _ _ h => h)
    | 8, ho =>
      simp at ho; subst ho
      have hu5 : u 5 = V 5 := hΦ 5 (hd ⟨5, .data⟩ (by simp) (by rfl))
      rw [v5] at hu5
      have hu7 : u 7 = V 7 := hΦ 7 (hd ⟨7, .data⟩ (by simp) (by rfl))
      rw [v7] at hu7
      clear hΦ hd
      have hx : ∃ x, u = (upd (upd x 5 (.string (bs t2))) 7 (.string (bs y3))) := ⟨u, by rw [← upd_self hu5, ← upd_self hu7]⟩
      clear hu5 hu7
      obtain ⟨x, rfl⟩ := hx
      simp only [upd, reduceIte, Nat.reduceEqDiff]
      have hln : ¬ 9223372036854775807 < t2.length + y3.length := by have l1 := Lt2.out; have l2 := Ly3.out; omega
      go_simp
      rw [← Ht3.out]
      exact hK _ _ v8.symm hG (fun _ _ _ h => h)
    | 9, ho =>
      simp at ho; subst ho
      have hu8 : u 8 = V 8 := hΦ 8 (hd ⟨8, .data⟩ (by simp) (by rfl))
      rw [v8] at hu8
      clear hΦ hd
      have hx : ∃ x, u = (upd x 8 (.string (bs t3))) := ⟨u, by rw [← upd_self hu8]⟩
      clear hu8
      obtain ⟨x, rfl⟩ := hx
      simp only [upd, reduceIte, Nat.reduceEqDiff]
      go_simp
      exact hK _ _ v9.symm hG (fun _ _ _ h => h)
  · rintro u w3 hu L hall hG
    have hG0 := hG
    have h9 : u 9 = V 9 := hu 9 (by simp)
    rw [v9] at h9
    clear hu hall
    rw [h9]
    have hA : t3 = besideB fi ti n.toNat := by rw [Ht3.out, Ht2.out, Ht1.out, Hc1.out, Hy1.out, Hy2.out, Hy3.out]; rfl
    rw [hA]
    clear hA
    generalize hR : besideB fi ti n.toNat = R at *
    have HR := Lib.hid hR
    clear hR
    go_wp2_with fail
    go_ret
    exact ⟨by rw [HR.out]; rfl, hG0⟩

end Go.Proofs.YtcbkaiakdhiloabGreatDoor
