/- Messages of DHCP as plain bytes: how one is read. No program in sight. -/
import Derived.Test.YtcbkaiakdhiloabFmt
import Derived.Test.YtcbkaiakdhiloabFmt2
import Derived.Test.YtcbkaiakdhiloabMem
import Derived.Test.YtcbkaiakdhiloabDhcP
import Derived.Test.YtcbkaiakdhiloabOctR
set_option linter.unusedSimpArgs false
set_option linter.unusedVariables false
namespace Go.Proofs.Ytcbkaiakdhiloab

/-- enough fuel is enough -/
theorem optRead_fuel : ∀ (n m : Nat) (os : List OptD) (l : List UInt8), l.length < n → l.length < m → optRead n os l = optRead m os l
  | 0, _, _, _, h, _ => absurd h (Nat.not_lt_zero _)
  | _, 0, _, _, _, h => absurd h (Nat.not_lt_zero _)
  | n + 1, m + 1, os, [], _, _ => rfl
  | n + 1, m + 1, os, c :: r, h1, h2 => by
    simp only [List.length_cons] at h1 h2
    simp only [optRead]
    split
    · rfl
    · split
      · exact optRead_fuel n m os r (by omega) (by omega)
      · cases r with
        | nil => rfl
        | cons k r =>
          simp only [List.length_cons] at h1 h2
          simp only
          split
          · rfl
          · exact optRead_fuel n m _ _ (by rw [List.length_drop]; omega) (by rw [List.length_drop]; omega)
theorem optRead_cons (n : Nat) (os : List OptD) (c : UInt8) (r : List UInt8) : optRead (n + 1) os (c :: r) =
    (if c = 255 then some os
    else if c = 0 then optRead n os r
    else match r with
      | [] => none
      | k :: r => if r.length < k.toNat then none else optRead n (optAdd os c (r.take k.toNat)) (r.drop k.toNat)) := rfl
/-- options out of bytes -/
def optRd (os : List OptD) (l : List UInt8) : Option (List OptD) := optRead (l.length + 1) os l
theorem optRd_nil (os : List OptD) : optRd os [] = none := rfl
theorem optRd_end (os : List OptD) (r : List UInt8) : optRd os (255 :: r) = some os := rfl
theorem optRd_pad (os : List OptD) (r : List UInt8) : optRd os (0 :: r) = optRd os r := by
  unfold optRd
  rw [List.length_cons, optRead_cons, if_neg (by decide), if_pos rfl]
theorem optRd_one (os : List OptD) (c : UInt8) (h1 : c ≠ 255) (h2 : c ≠ 0) : optRd os [c] = none := by
  unfold optRd
  rw [List.length_cons, optRead_cons, if_neg h1, if_neg h2]
theorem optRd_short (os : List OptD) (c k : UInt8) (r : List UInt8) (h1 : c ≠ 255) (h2 : c ≠ 0) (h : r.length < k.toNat) : optRd os (c :: k :: r) = none := by
  unfold optRd
  rw [List.length_cons, optRead_cons, if_neg h1, if_neg h2]
  exact if_pos h
theorem optRd_opt (os : List OptD) (c k : UInt8) (r : List UInt8) (h1 : c ≠ 255) (h2 : c ≠ 0) (h : ¬ r.length < k.toNat) :
    optRd os (c :: k :: r) = optRd (optAdd os c (r.take k.toNat)) (r.drop k.toNat) := by
  unfold optRd
  rw [List.length_cons, optRead_cons, if_neg h1, if_neg h2]
  refine (if_neg h).trans ?_
  exact optRead_fuel _ _ _ _ (by rw [List.length_drop, List.length_cons]; omega) (by omega)

/-- a message -/
structure DhcD where
  reply : Bool
  xid : Nat
  client : Nat
  yours : Nat
  next : Nat
  mac : Mac
  os : List OptD
def dhc0 : DhcD := ⟨false, 0, 0, 0, 0, (0, 0, 0, 0, 0, 0), []⟩
/-- options that stand where names would, too; the error's number -/
def overs (os : List OptD) (name file : List UInt8) : List OptD × Nat :=
  match optOf os 52 with
  | none => (os, 0)
  | some [x] =>
    if x.toNat < 1 ∨ 3 < x.toNat then ([], 2)
    else match (if x.toNat % 2 = 1 then optRd (os.filter (fun o => !(o.code == 52))) file else some (os.filter (fun o => !(o.code == 52)))) with
    | none => ([], 1)
    | some a => match (if 2 ≤ x.toNat then optRd a name else some a) with
      | none => ([], 1)
      | some a => if (optOf a 52).isSome then ([], 2) else (a, 0)
  | some _ => ([], 2)
def readDHCP (l : List UInt8) : DhcD × Nat :=
  if l.length < 240 then (dhc0, 1)
  else if ¬ ((sub l 0 1 = [1] ∨ sub l 0 1 = [2]) ∧ sub l 1 3 = [1, 6] ∧ sub l 236 240 = [99, 130, 83, 99]) then (dhc0, 2)
  else match optRd [] (l.drop 240) with
  | none => (dhc0, 1)
  | some os => match overs os (sub l 44 108) (sub l 108 236) with
    | (a, 0) => (⟨sub l 0 1 == [2], num (sub l 4 8), num (sub l 12 16), num (sub l 16 20), num (sub l 20 24), macOf (l.drop 28), a⟩, 0)
    | (_, e + 1) => (dhc0, e + 1)
end Go.Proofs.Ytcbkaiakdhiloab
