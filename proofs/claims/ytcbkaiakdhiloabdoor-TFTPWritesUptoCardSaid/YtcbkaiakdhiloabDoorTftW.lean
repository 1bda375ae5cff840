/- Messages of TFTP as plain bytes: how one is written. No program in sight. -/
import Derived.Test.YtcbkaiakdhiloabDoorFld
set_option linter.unusedSimpArgs false
set_option linter.unusedVariables false
namespace Go.Proofs.YtcbkaiakdhiloabDoor

/-- what a field must be, behind those before it -/
def fldOk (b4 : List FldD) (o : FldD) : Bool := wordB o.name && wordB o.value && (o.name == lowL o.name) && !(named b4 o.name)
/-- fields as bytes; none where one is not as it must be -/
def fldW : List FldD → List FldD → Option (List UInt8)
  | _, [] => some []
  | b4, o :: r => if fldOk b4 o then (fldW (b4 ++ [o]) r).map fun t => o.name ++ 0 :: o.value ++ 0 :: t else none
def fldB (fs : List FldD) : List UInt8 := fs.flatMap fun o => o.name ++ 0 :: o.value ++ [0]
theorem fldB_len : ∀ fs : List FldD, (fldB fs).length ≤ 2 * wtF fs
  | [] => Nat.le_refl _
  | o :: r => by
    have h2 := fldB_len r
    unfold fldB at h2 ⊢
    rw [List.flatMap_cons, List.length_append]
    simp only [List.length_append, List.length_cons, List.length_nil, wtF]; omega
theorem wtF_take : ∀ (fs : List FldD) (i : Nat), wtF (fs.take i) ≤ wtF fs
  | [], i => by simp
  | o :: r, 0 => Nat.zero_le _
  | o :: r, i + 1 => by have := wtF_take r i; simp only [List.take_succ_cons, wtF]; omega
theorem fldB_succ {fs : List FldD} {i : Nat} {o : FldD} (h : fs[i]? = some o) : fldB (fs.take (i + 1)) = fldB (fs.take i) ++ (o.name ++ 0 :: o.value ++ [0]) := by
  have hi : i < fs.length := by
    rcases Nat.lt_or_ge i fs.length with h1 | h1
    · exact h1
    · rw [List.getElem?_eq_none h1] at h; cases h
  rw [List.getElem?_eq_getElem hi] at h
  cases h
  unfold fldB
  rw [List.take_succ_eq_append_getElem hi, List.flatMap_append]; simp
theorem fldW_good : ∀ (fs b4 : List FldD), (∀ j o, fs[j]? = some o → fldOk (b4 ++ fs.take j) o = true) → fldW b4 fs = some (fldB fs)
  | [], _, _ => rfl
  | x :: r, b4, h => by
    have h0 := h 0 x rfl
    simp only [List.take_zero, List.append_nil] at h0
    have hr := fldW_good r (b4 ++ [x]) (fun j o hj => by
      have := h (j + 1) o (by simpa using hj)
      rwa [List.take_succ_cons, List.append_cons] at this)
    unfold fldW
    rw [h0, hr]
    simp [fldB]
theorem fldW_bad : ∀ (fs b4 : List FldD) (j : Nat) (o : FldD), fs[j]? = some o → fldOk (b4 ++ fs.take j) o = false → fldW b4 fs = none
  | [], _, _, _, h, _ => by cases h
  | x :: r, b4, 0, o, h, hb => by
    cases h
    simp only [List.take_zero, List.append_nil] at hb
    unfold fldW; rw [hb]; rfl
  | x :: r, b4, j + 1, o, h, hb => by
    rw [List.take_succ_cons, List.append_cons] at hb
    have := fldW_bad r (b4 ++ [x]) j o (by simpa using h) hb
    unfold fldW
    rw [this]
    simp
/-- the first i fields are as they must be -/
def fldTo (fs : List FldD) (i : Nat) : Prop := ∀ j o, j < i → fs[j]? = some o → fldOk (fs.take j) o = true
theorem fldTo_all {fs : List FldD} (h : fldTo fs fs.length) : fldW [] fs = some (fldB fs) := fldW_good fs [] (fun j o hj => by
  refine h j o ?_ hj
  rcases Nat.lt_or_ge j fs.length with h1 | h1
  · exact h1
  · rw [List.getElem?_eq_none h1] at hj; cases hj)
theorem fldTo_bad {fs : List FldD} {i : Nat} {o : FldD} (h : fs[i]? = some o) (hb : fldOk (fs.take i) o = false) : fldW [] fs = none := fldW_bad fs [] i o h hb
theorem fldTo_succ {fs : List FldD} {i : Nat} {o : FldD} (h : fldTo fs i) (ho : fs[i]? = some o) (hb : fldOk (fs.take i) o = true) : fldTo fs (i + 1) := by
  intro j o' hj h2
  rcases Nat.lt_or_ge j i with h3 | h3
  · exact h j o' h3 h2
  · obtain rfl : j = i := by omega
    rw [ho] at h2; cases h2; exact hb
def capT (l : List UInt8) : List UInt8 × Nat := if 1472 < l.length then ([], 7) else (l, 0)
def wrTFTP (d : TftD) : List UInt8 × Nat :=
  if d.op = 1 then if wordB d.text then (match fldW [] d.fs with
    | none => ([], 2)
    | some t => capT (big 2 d.op ++ d.text ++ [0, 111, 99, 116, 101, 116, 0] ++ t)) else ([], 2)
  else if d.op = 6 then (match fldW [] d.fs with
    | none => ([], 2)
    | some t => capT (big 2 d.op ++ t))
  else if d.op = 3 then if 1024 < d.data.length then ([], 7) else capT (big 2 d.op ++ big 2 d.block ++ d.data)
  else if d.op = 4 then capT (big 2 d.op ++ big 2 d.block)
  else if d.op = 5 then if d.text.contains 0 then ([], 2) else capT (big 2 d.op ++ big 2 d.block ++ d.text ++ [0])
  else ([], 2)
theorem fldC_take : ∀ (fs : List FldD) (k : Nat), fldC (fs.take k) = (fldC fs).take (k * 2)
  | [], k => by simp [fldC]
  | o :: r, 0 => rfl
  | o :: r, k + 1 => by
    rw [show (k + 1) * 2 = k * 2 + 1 + 1 by omega]
    simp only [List.take_succ_cons, fldC, fldC_take r k]
theorem SlR.fldTake {w : World} {S : Nat → Prop} {A : Option Addr} {n k : Nat} {fs : List FldD} (h : SlR w S 2 A n (fldC fs)) (hk : k ≤ n) : SlR w S 2 A k (fldC (fs.take k)) := by
  refine ⟨by rw [fldC_take, List.length_take, h.1]; omega, fun h0 => ?_⟩
  obtain ⟨ad, e, hb, hS, hc⟩ := h.2 (by omega)
  refine ⟨ad, e, hb, hS, fun j u hu => hc j u ?_⟩
  rw [fldC_take, List.getElem?_take] at hu
  split at hu
  · exact hu
  · cases hu
end Go.Proofs.YtcbkaiakdhiloabDoor
