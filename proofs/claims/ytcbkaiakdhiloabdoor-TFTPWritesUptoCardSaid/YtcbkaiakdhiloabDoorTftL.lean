/- Messages of TFTP as the reference reads them: lines first, fields behind; that it is the same. No program in sight. -/
import Derived.Test.YtcbkaiakdhiloabDoorTftQ
set_option linter.unusedSimpArgs false
set_option linter.unusedVariables false
namespace Go.Proofs.YtcbkaiakdhiloabDoor

/-- texts that end with a byte 0 each; false: the last does not -/
def linesF : Nat → List UInt8 → List (List UInt8) × Bool
  | 0, _ => ([], false)
  | _ + 1, [] => ([], true)
  | n + 1, c :: l => match lineOf (c :: l) with
    | none => ([], false)
    | some (a, r) => (a :: (linesF n r).1, (linesF n r).2)
def linesOf (l : List UInt8) : List (List UInt8) × Bool := linesF (l.length + 1) l
theorem linesF_fuel : ∀ (n m : Nat) (l : List UInt8), l.length < n → l.length < m → linesF n l = linesF m l
  | 0, _, _, h, _ => absurd h (Nat.not_lt_zero _)
  | _, 0, _, _, h => absurd h (Nat.not_lt_zero _)
  | n + 1, m + 1, [], _, _ => rfl
  | n + 1, m + 1, c :: l, h1, h2 => by
    unfold linesF
    cases hl : lineOf (c :: l) with
    | none => rfl
    | some x =>
      obtain ⟨a, r⟩ := x
      have e1 := lineOf_len _ _ _ hl
      simp only [List.length_cons] at h1 h2 e1
      simp only
      rw [linesF_fuel n m r (by omega) (by omega)]
theorem linesOf_nil : linesOf [] = ([], true) := rfl
theorem linesOf_none {l : List UInt8} (hne : l ≠ []) (h : lineOf l = none) : linesOf l = ([], false) := by
  cases l with
  | nil => exact absurd rfl hne
  | cons c l => unfold linesOf linesF; rw [h]
theorem linesOf_some {l a r : List UInt8} (h : lineOf l = some (a, r)) : linesOf l = (a :: (linesOf r).1, (linesOf r).2) := by
  cases l with
  | nil => cases h
  | cons c l =>
    have e1 := lineOf_len _ _ _ h
    unfold linesOf
    rw [linesF.eq_3, h]
    simp only
    rw [linesF_fuel (c :: l).length (r.length + 1) r (by omega) (by omega)]
theorem chrOk_low (c : UInt8) : chrOk (lowC c) = chrOk c := by
  unfold chrOk lowC
  split
  · next h => rw [UInt8.toNat_add, show (32 : UInt8).toNat = 32 from rfl]; rw [Bool.eq_iff_iff]; simp; omega
  · rfl
theorem wordB_low (l : List UInt8) : wordB (lowL l) = wordB l := by
  unfold wordB lowL
  rw [List.all_map, List.length_map]
  congr 1
  apply List.all_congr rfl
  intro c; exact chrOk_low c
def fldL : List FldD → List (List UInt8) → Option (List FldD)
  | fs, [] => some fs
  | _, [_] => none
  | fs, a :: b :: r => if wordB (lowL a) && wordB b && !(named fs (lowL a)) then fldL (fs ++ [⟨lowL a, b⟩]) r else none
theorem fldL_odd : ∀ (n : Nat) (fs : List FldD) (l : List (List UInt8)), l.length ≤ n → l.length % 2 = 1 → fldL fs l = none
  | _, _, [], _, h => by simp at h
  | _, _, [_], _, _ => rfl
  | 0, _, a :: b :: r, h, _ => by simp at h
  | n + 1, fs, a :: b :: r, h, ho => by
    unfold fldL
    split
    · exact fldL_odd n _ r (by simp at h; omega) (by simp at ho; omega)
    · rfl
/-- what the lines give -/
def ofLines (x : List (List UInt8) × Bool) (fs : List FldD) : Option (List FldD) := if x.2 then fldL fs x.1 else none
theorem fldRd_lines : ∀ (n : Nat) (fs : List FldD) (l : List UInt8), l.length ≤ n → fldRd fs l = ofLines (linesOf l) fs
  | _, fs, [], _ => rfl
  | 0, _, c :: l, h => by simp at h
  | n + 1, fs, c :: l, h => by
    cases hl : lineOf (c :: l) with
    | none => rw [fldRd_none1 fs _ (by simp) hl, linesOf_none (by simp) hl]; rfl
    | some x =>
      obtain ⟨a, r⟩ := x
      have e1 := lineOf_len _ _ _ hl
      rw [linesOf_some hl]
      cases hr : lineOf r with
      | none =>
        rw [fldRd_none2 fs _ a r hl hr]
        by_cases hrn : r = []
        · subst hrn; rfl
        · rw [linesOf_none hrn hr]; rfl
      | some y =>
        obtain ⟨b, r2⟩ := y
        have e2 := lineOf_len _ _ _ hr
        rw [linesOf_some hr]
        cases hb : (wordB a && wordB b && !(named fs (lowL a))) with
        | false =>
          rw [fldRd_bad fs _ a r b r2 hl hr hb]
          unfold ofLines
          simp only
          split
          · unfold fldL; rw [wordB_low, hb]; rfl
          · rfl
        | true =>
          rw [fldRd_ok fs _ a r b r2 hl hr hb, fldRd_lines n _ r2 (by simp at h e1; omega)]
          unfold ofLines
          simp only
          split
          · rw [fldL, wordB_low, hb]; rfl
          · rfl
/-- what a request's lines give -/
def askL (x : List (List UInt8) × Bool) : TftD × Nat :=
  match x with
  | (a :: b :: r, true) => if wordB a = true ∧ lowL b = octet then (match fldL [] r with
    | none => (tft0, 2)
    | some fs => (⟨1, 0, a, [], fs⟩, 0)) else (tft0, 2)
  | _ => (tft0, 2)
theorem ask_lines (l : List UInt8) : (match lineOf l with
    | none => (tft0, 2)
    | some (a, r) => if wordB a = false then (tft0, 2) else match lineOf r with
      | none => (tft0, 2)
      | some (b, r2) => if lowL b = octet then (match fldRd [] r2 with
        | none => (tft0, 2)
        | some fs => (⟨1, 0, a, [], fs⟩, 0)) else (tft0, 2)) = askL (linesOf l) := by
  cases hl : lineOf l with
  | none =>
    by_cases hn : l = []
    · subst hn; rfl
    · rw [linesOf_none hn hl]; rfl
  | some x =>
    obtain ⟨a, r⟩ := x
    rw [linesOf_some hl]
    simp only
    cases hr : lineOf r with
    | none =>
      by_cases hn : r = []
      · subst hn; simp [linesOf_nil, askL]
      · rw [linesOf_none hn hr]; simp [askL]
    | some y =>
      obtain ⟨b, r2⟩ := y
      rw [linesOf_some hr]
      simp only
      rw [fldRd_lines r2.length [] r2 (Nat.le_refl _)]
      unfold ofLines
      cases hw : wordB a with
      | false => cases hok : (linesOf r2).2 <;> simp [askL, hw]
      | true =>
        by_cases ho : lowL b = octet
        · cases hok : (linesOf r2).2 <;> simp [askL, hw, ho]
        · cases hok : (linesOf r2).2 <;> simp [askL, hw, ho]
end Go.Proofs.YtcbkaiakdhiloabDoor
