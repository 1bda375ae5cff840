/- A struct's value equals itself: '==' on one and the same row of cells, at any type of integers, strings, truths, and arrays and structs of such. -/
import Derived.Laws.StructEq
import Derived.DeepKeys
import Derived.Test.YtcbkaiakdhiloabDoorMem
set_option linter.unusedSimpArgs false
set_option linter.unusedVariables false
namespace Go.Proofs.YtcbkaiakdhiloabDoor
open Go.RowKit Go.Proofs

section
variable {P : Program} (w : World)
/-- the part of a row that holds the value at off -/
def partV (P : Program) (e : TypeId) (xs : Array Value) (off : Nat) : Option Value :=
  match P.underlying e with
  | some (.struct _) => some (.agg (xs.extract off (off + P.cellsOf e)))
  | some (.array _ _) => some (.agg (xs.extract off (off + P.cellsOf e)))
  | some _ => xs[off]?
  | none => none
theorem run_partV {e : TypeId} {xs : Array Value} {off : Nat} {a : Value} (h : partV P e xs off = some a) : (part e xs off).run P w = .ok a w := by
  unfold partV at h
  cases hu : P.underlying e with
  | none => simp [hu] at h
  | some kd =>
    obtain ⟨i, hi⟩ := info_of_underlying hu
    cases kd <;> simp [hu] at h <;> first | (subst h; simp [part, isAgg, run_underlying hu, run_sizeOf w hi]) | simp [part, isAgg, run_underlying hu, h]

/-- of this value '==' with itself is sure to answer true -/
def selfEq (P : Program) : Nat → TypeId → Value → Bool
  | 0, _, _ => false
  | m + 1, t, v => match P.underlying t, v with
    | some .bool, .bool _ => true
    | some (.int _), .int _ _ => true
    | some .string, .string _ => true
    | some (.array n e), .agg xs => (P.info? e).isSome && (List.range n).all fun i => match partV P e xs (i * P.cellsOf e) with | some a => selfEq P m e a | none => false
    | some (.struct fs), .agg xs => !P.stoodInHeld t && fs.toList.all fun f => f.name == "_" || match partV P f.type xs f.offset with | some a => selfEq P m f.type a | none => false
    | _, _ => false

theorem eqItems_self (d : Nat) {e : TypeId} {c : Nat} {xs : Array Value} : ∀ (is : List Nat),
    (∀ i ∈ is, ∃ a, partV P e xs (i * c) = some a ∧ (Op.equalIn d e a a).run P w = .ok true w) → (Op.eqItems d e c xs xs is).run P w = .ok true w
  | [], _ => by simp [Op.eqItems]
  | i :: is, h => by
    obtain ⟨a, h1, h2⟩ := h i (by simp)
    simp only [Op.eqItems, Sem.run_bind, run_partV w h1, h2, Result.andThen_ok, Bool.not_true, Bool.false_eq_true, if_false]
    exact eqItems_self d is fun j hj => h j (by simp [hj])
theorem eqFields_self (d : Nat) {xs : Array Value} : ∀ (fs : List Field),
    (∀ f ∈ fs, f.name = "_" ∨ ∃ a, partV P f.type xs f.offset = some a ∧ (Op.equalIn d f.type a a).run P w = .ok true w) → (Op.eqFields d xs xs fs).run P w = .ok true w
  | [], _ => by simp [Op.eqFields]
  | f :: fs, h => by
    have ih := eqFields_self d fs fun g hg => h g (by simp [hg])
    unfold Op.eqFields
    rw [Sem.run_ite]
    split
    · next hn =>
      rcases h f (by simp) with h0 | ⟨a, h1, h2⟩
      · exact absurd h0 hn
      · simp only [Sem.run_bind, run_partV w h1, h2, Result.andThen_ok, Bool.not_true, Bool.false_eq_true, if_false]
        exact ih
    · exact ih

theorem equalIn_self (d : Nat) : ∀ (m : Nat) (t : TypeId) (v : Value), selfEq P m t v = true → (Op.equalIn (d + m) t v v).run P w = .ok true w
  | 0, t, v, h => by simp [selfEq] at h
  | m + 1, t, v, h => by
    unfold selfEq at h
    cases hu : P.underlying t with
    | none => simp [hu] at h
    | some kd =>
      simp only [hu] at h
      rw [show d + (m + 1) = (d + m) + 1 from rfl]
      have h0 := h
      cases kd <;> cases v <;> simp at h
      · rw [run_equalIn_bool' w (d + m) t _ _ hu]; simp
      · rw [run_equalIn_int w (d + m) t _ _ _ _ hu]; simp
      · rw [run_equalIn_string w (d + m) t _ _ hu]; simp
      · next n e xs =>
        obtain ⟨i, hi⟩ := Option.isSome_iff_exists.1 h.1
        rw [run_equalIn_array w (d + m) xs xs hu hi]
        refine eqItems_self w (d + m) _ fun j hj => ?_
        have h2 := h.2 j (by simpa using hj)
        cases hp : partV P e xs (j * P.cellsOf e) with
        | none => simp [hp] at h2
        | some a => rw [hp] at h2; exact ⟨a, rfl, equalIn_self d m e a h2⟩
      · next fs xs =>
        have hf : P.fieldsOf t = fs := by unfold Program.fieldsOf; rw [hu]
        rw [run_equalIn_struct w (d + m) t xs xs (by rw [hf]; exact hu) h.1, hf]
        refine eqFields_self w (d + m) _ fun f hfm => ?_
        simp only [Bool.and_eq_true] at h0
        have h2 := List.all_eq_true.1 h0.2 f hfm
        simp only [Bool.or_eq_true, beq_iff_eq] at h2
        rcases h2 with h2 | h2
        · exact .inl h2
        · refine .inr ?_
          cases hp : partV P f.type xs f.offset with
          | none => simp [hp] at h2
          | some a => rw [hp] at h2; exact ⟨a, rfl, equalIn_self d m f.type a h2⟩

theorem eql_self {t : TypeId} {xs : Array Value} (h : selfEq P 8 t (.agg xs) = true) : (binOp .eql t (.agg xs) (.agg xs)).run P w = .ok (.bool true) w := by
  rw [run_eql_struct w t xs xs, show (10000 : Nat) = 9992 + 8 from rfl, equalIn_self w 9992 8 t (.agg xs) h]; rfl
end
end Go.Proofs.YtcbkaiakdhiloabDoor
