/- Arguments that are structs, by value: their cells written out, with their ranges. -/
import Derived.Test.YtcbkaiakdhiloabDoorMem
set_option linter.unusedSimpArgs false
set_option linter.unusedVariables false
namespace Go.Proofs.YtcbkaiakdhiloabDoor
open Go.RowKit Go.Proofs

section
variable {P : Program} {w : World} {r : Reach} {base : Nat} {t u : TypeId} {v c : Value}
theorem okWide_agg {fs : Array Field} (ht : P.underlying t = some (.struct fs)) (h : Value.okWide P w r base t v) :
    ∃ l : List Value, v = .agg l.toArray ∧ l.length = P.cellsOf t ∧ Row.okWide P w r base t l.toArray := by
  unfold Value.okWide at h
  rw [ht] at h
  obtain ⟨cs, rfl, h1, h2⟩ := h
  exact ⟨cs.toList, by simp, by simpa using h1, by simpa using h2⟩
theorem cell_at {l : List Value} {ts : List TypeId} (h : Row.okWide P w r base t l.toArray) (hts : P.cellTypes P.depth t = some ts) (i : Nat) (hc : l[i]? = some c) (hu : ts[i]? = some u) : Cell.okWide P w r base u c := by
  obtain ⟨ts', e, _, hall⟩ := h
  rw [hts] at e
  injection e with e
  subst e
  obtain ⟨u', h1, h2⟩ := hall i c (by simpa using hc)
  have hi : i < ts.length := by
    rcases Nat.lt_or_ge i ts.length with h | h
    · exact h
    · rw [List.getElem?_eq_none h] at hu; cases hu
  rw [Nat.mod_eq_of_lt hi, hu] at h1
  injection h1 with h1
  rw [h1]; exact h2
theorem cell_int {k : IntKind} (ht : P.underlying u = some (.int k)) (h : Cell.okWide P w r base u c) : ∃ n : Int, c = .int k n ∧ k.has n := by
  unfold Cell.okWide at h
  rw [ht] at h
  have h' : Cell.ok P w r base u c := by cases c <;> simpa using h
  unfold Cell.ok at h'
  rw [ht] at h'
  cases c <;> simp at h'
  obtain ⟨rfl, h2⟩ := h'
  exact ⟨_, rfl, h2⟩
theorem cell_u8 (ht : P.underlying u = some (.int .u8)) (h : Cell.okWide P w r base u c) : ∃ b : UInt8, c = .int .u8 (b.toNat : Int) := by
  obtain ⟨n, rfl, hn⟩ := cell_int ht h
  obtain ⟨h1, h2⟩ := hn
  have e1 : IntKind.u8.min = 0 := by decide
  have e2 : IntKind.u8.max = 255 := by decide
  refine ⟨UInt8.ofNat n.toNat, ?_⟩
  rw [UInt8.toNat_ofNat']
  congr 1
  omega
theorem cell_u16 (ht : P.underlying u = some (.int .u16)) (h : Cell.okWide P w r base u c) : ∃ n : Nat, n < 65536 ∧ c = .int .u16 (n : Int) := by
  obtain ⟨n, rfl, hn⟩ := cell_int ht h
  obtain ⟨h1, h2⟩ := hn
  have e1 : IntKind.u16.min = 0 := by decide
  have e2 : IntKind.u16.max = 65535 := by decide
  exact ⟨n.toNat, by omega, by congr 1; omega⟩
theorem cell_u32 (ht : P.underlying u = some (.int .u32)) (h : Cell.okWide P w r base u c) : ∃ n : Nat, n < 4294967296 ∧ c = .int .u32 (n : Int) := by
  obtain ⟨n, rfl, hn⟩ := cell_int ht h
  obtain ⟨h1, h2⟩ := hn
  have e1 : IntKind.u32.min = 0 := by decide
  have e2 : IntKind.u32.max = 4294967295 := by decide
  exact ⟨n.toNat, by omega, by congr 1; omega⟩
theorem cell_str (ht : P.underlying u = some .string) (h : Cell.okWide P w r base u c) : ∃ l : List UInt8, l.length ≤ 9223372036854775807 ∧ c = .string (bs l) := by
  unfold Cell.okWide at h
  rw [ht] at h
  have h' : Cell.ok P w r base u c := by cases c <;> simpa using h
  unfold Cell.ok at h'
  rw [ht] at h'
  cases c <;> simp at h'
  rename_i s
  have e2 : IntKind.i64.max = 9223372036854775807 := by decide
  have hz := bs_size s.data.toList
  rw [bs_of] at hz
  exact ⟨s.data.toList, by omega, by rw [bs_of]⟩
theorem okWide_icell {k : IntKind} (ht : P.underlying t = some (.int k)) (h : Value.okWide P w r base t v) : Cell.okWide P w r base t v := by
  unfold Value.okWide at h
  rw [ht] at h
  exact h
end
end Go.Proofs.YtcbkaiakdhiloabDoor
