/- Messages of TFTP as plain bytes: how one is read. No program in sight. -/
import Derived.Test.YtcbkaiakdhiloabDoorFmt
import Derived.Test.YtcbkaiakdhiloabDoorMem
import Derived.Test.YtcbkaiakdhiloabDoorWord
import Derived.Test.YtcbkaiakdhiloabDoorLow
set_option linter.unusedSimpArgs false
set_option linter.unusedVariables false
namespace Go.Proofs.YtcbkaiakdhiloabDoor

/-- a field -/
structure FldD where
  name : List UInt8
  value : List UInt8
/-- a message -/
structure TftD where
  op : Nat
  block : Nat
  text : List UInt8
  data : List UInt8
  fs : List FldD
def tft0 : TftD := ⟨0, 0, [], [], []⟩
/-- a text that ends with a byte 0, and what is behind it -/
def lineOf : List UInt8 → Option (List UInt8 × List UInt8)
  | [] => none
  | c :: r => if c = 0 then some ([], r) else (lineOf r).map fun x => (c :: x.1, x.2)
theorem lineOf_len : ∀ (l a r : List UInt8), lineOf l = some (a, r) → l.length = a.length + r.length + 1
  | [], _, _, h => by cases h
  | c :: l, a, r, h => by
    unfold lineOf at h
    split at h
    · cases h; simp
    · cases hl : lineOf l with
      | none => rw [hl] at h; cases h
      | some x =>
        rw [hl] at h
        simp at h
        obtain ⟨rfl, rfl⟩ := h
        have := lineOf_len l x.1 x.2 hl
        simp only [List.length_cons]; omega
theorem lineOf_at : ∀ (l : List UInt8) (i : Nat), l[i]? = some 0 → (∀ j, j < i → l[j]? ≠ some 0) → lineOf l = some (l.take i, l.drop (i + 1))
  | [], i, h, _ => by simp at h
  | c :: l, 0, h, _ => by
    simp at h; subst h; rfl
  | c :: l, i + 1, h, hn => by
    have hc : c ≠ 0 := fun e => hn 0 (by omega) (by simp [e])
    unfold lineOf
    rw [if_neg hc, lineOf_at l i (by simpa using h) (fun j hj e => hn (j + 1) (by omega) (by simpa using e))]
    simp
theorem lineOf_none : ∀ (l : List UInt8), (∀ j, j < l.length → l[j]? ≠ some 0) → lineOf l = none
  | [], _ => rfl
  | c :: l, hn => by
    have hc : c ≠ 0 := fun e => hn 0 (by simp) (by simp [e])
    unfold lineOf
    rw [if_neg hc, lineOf_none l (fun j hj e => hn (j + 1) (by simpa using hj) (by simpa using e))]
    rfl
def named (fs : List FldD) (n : List UInt8) : Bool := fs.any fun f => f.name == n
/-- fields, up to the end -/
def fldRead : Nat → List FldD → List UInt8 → Option (List FldD)
  | 0, _, _ => none
  | _ + 1, fs, [] => some fs
  | n + 1, fs, c :: l => match lineOf (c :: l) with
    | none => none
    | some (a, r) => match lineOf r with
      | none => none
      | some (b, r2) => if wordB a && wordB b && !(named fs (lowL a)) then fldRead n (fs ++ [⟨lowL a, b⟩]) r2 else none
def fldRd (fs : List FldD) (l : List UInt8) : Option (List FldD) := fldRead (l.length + 1) fs l
theorem fldRead_fuel : ∀ (n m : Nat) (fs : List FldD) (l : List UInt8), l.length < n → l.length < m → fldRead n fs l = fldRead m fs l
  | 0, _, _, _, h, _ => absurd h (Nat.not_lt_zero _)
  | _, 0, _, _, _, h => absurd h (Nat.not_lt_zero _)
  | n + 1, m + 1, fs, [], _, _ => rfl
  | n + 1, m + 1, fs, c :: l, h1, h2 => by
    unfold fldRead
    cases hl : lineOf (c :: l) with
    | none => rfl
    | some x =>
      obtain ⟨a, r⟩ := x
      have e1 := lineOf_len _ _ _ hl
      simp only
      cases hr : lineOf r with
      | none => rfl
      | some y =>
        obtain ⟨b, r2⟩ := y
        have e2 := lineOf_len _ _ _ hr
        simp only
        split
        · simp only [List.length_cons] at h1 h2 e1
          exact fldRead_fuel n m _ r2 (by omega) (by omega)
        · rfl
theorem fldRd_nil (fs : List FldD) : fldRd fs [] = some fs := rfl
theorem fldRd_none1 (fs : List FldD) (l : List UInt8) (hne : l ≠ []) (h : lineOf l = none) : fldRd fs l = none := by
  cases l with
  | nil => exact absurd rfl hne
  | cons c l => unfold fldRd fldRead; rw [h]
theorem fldRd_none2 (fs : List FldD) (l a r : List UInt8) (h : lineOf l = some (a, r)) (h2 : lineOf r = none) : fldRd fs l = none := by
  cases l with
  | nil => cases h
  | cons c l => unfold fldRd fldRead; rw [h]; simp only; rw [h2]
theorem fldRd_bad (fs : List FldD) (l a r b r2 : List UInt8) (h : lineOf l = some (a, r)) (h2 : lineOf r = some (b, r2)) (hb : (wordB a && wordB b && !(named fs (lowL a))) = false) : fldRd fs l = none := by
  cases l with
  | nil => cases h
  | cons c l => unfold fldRd fldRead; rw [h]; simp only; rw [h2]; simp only; rw [hb]; rfl
theorem fldRd_ok (fs : List FldD) (l a r b r2 : List UInt8) (h : lineOf l = some (a, r)) (h2 : lineOf r = some (b, r2)) (hb : (wordB a && wordB b && !(named fs (lowL a))) = true) :
    fldRd fs l = fldRd (fs ++ [⟨lowL a, b⟩]) r2 := by
  cases l with
  | nil => cases h
  | cons c l =>
    have e1 := lineOf_len _ _ _ h
    have e2 := lineOf_len _ _ _ h2
    unfold fldRd
    rw [fldRead.eq_3, h]; simp only; rw [h2]; simp only; rw [hb]
    simp only [if_true]
    exact fldRead_fuel _ _ _ _ (by omega) (by omega)
def octet : List UInt8 := [111, 99, 116, 101, 116]
def readTFTP (l : List UInt8) : TftD × Nat :=
  if l.length < 2 then (tft0, 1)
  else if num (sub l 0 2) = 1 then match lineOf (l.drop 2) with
    | none => (tft0, 2)
    | some (a, r) => if wordB a = false then (tft0, 2) else match lineOf r with
      | none => (tft0, 2)
      | some (b, r2) => if lowL b = octet then (match fldRd [] r2 with
        | none => (tft0, 2)
        | some fs => (⟨1, 0, a, [], fs⟩, 0)) else (tft0, 2)
  else if num (sub l 0 2) = 6 then match fldRd [] (l.drop 2) with
    | none => (tft0, 2)
    | some fs => (⟨6, 0, [], [], fs⟩, 0)
  else if num (sub l 0 2) = 3 then if l.length < 4 then (tft0, 1) else if 1024 < (l.drop 4).length then (tft0, 7) else (⟨3, num (sub l 2 4), [], l.drop 4, []⟩, 0)
  else if num (sub l 0 2) = 4 then if l.length < 4 then (tft0, 1) else if l.drop 4 ≠ [] then (tft0, 2) else (⟨4, num (sub l 2 4), [], [], []⟩, 0)
  else if num (sub l 0 2) = 5 then if l.length < 4 then (tft0, 1) else match lineOf (l.drop 4) with
    | some (a, []) => (⟨5, num (sub l 2 4), a, [], []⟩, 0)
    | _ => (tft0, 2)
  else (tft0, 2)
end Go.Proofs.YtcbkaiakdhiloabDoor
