/- Parts of the walk; written by programs, merged. -/
import Derived.Test.YtcbkaiakdhiloabGreatDoorMaa
import Derived.Test.YtcbkaiakdhiloabGreatDoorMad
import Derived.Test.YtcbkaiakdhiloabGreatDoorProg
import Derived.WalkKit
import Derived.WalkLawsBesides
import Derived.WalkSpells
import Derived.Deep.AppendLies
import Derived.Deep.DrawnRows
import Derived.Maps.AppendAt
import Derived.StillTailTactics
import Derived.Lib.Hide
import Derived.Lib.AppendStr
import Derived.Lib.Strings
import Derived.Laws.MakeOwn
import Derived.Laws.OwnMore
import Derived.Laws.BitsAllLaws
set_option linter.unusedSimpArgs false
set_option linter.unusedVariables false
set_option maxRecDepth 20000
set_option maxHeartbeats 8000000
namespace Go.Proofs.YtcbkaiakdhiloabGreatDoor
open Go.RowKit Go.Proofs
attribute [local go_sem] bs_size bs_append bs_extract
def optC : List OptD → List Value
  | [] => []
  | o :: r => .int .u8 (o.code.toNat : Int) :: .string (bs o.data) :: optC r
theorem optC_length : ∀ os : List OptD, (optC os).length = os.length * 2
  | [] => rfl
  | o :: r => by simp only [optC, List.length_cons, optC_length r]; omega
theorem optC_append : ∀ a b : List OptD, optC (a ++ b) = optC a ++ optC b
  | [], _ => rfl
  | o :: r, b => by simp only [List.cons_append, optC, optC_append r b]
theorem optC_code : ∀ (os : List OptD) (k : Nat) (o : OptD), os[k]? = some o → (optC os)[k * 2]? = some (.int .u8 (o.code.toNat : Int))
  | [], _, _, h => by cases h
  | o :: r, 0, o', h => by cases h; rfl
  | o :: r, k + 1, o', h => by
    rw [show (k + 1) * 2 = k * 2 + 1 + 1 by omega]
    exact optC_code r k o' h
theorem optC_data : ∀ (os : List OptD) (k : Nat) (o : OptD), os[k]? = some o → (optC os)[k * 2 + 1]? = some (.string (bs o.data))
  | [], _, _, h => by cases h
  | o :: r, 0, o', h => by cases h; rfl
  | o :: r, k + 1, o', h => by
    rw [show (k + 1) * 2 + 1 = k * 2 + 1 + 1 + 1 by omega]
    exact optC_data r k o' h
theorem SlR.opt {w : World} {S : Nat → Prop} {A : Option Addr} {n : Nat} {os : List OptD} (h : SlR w S 2 A n (optC os)) : os.length = n := by
  have := h.1; rw [optC_length] at this; omega
theorem SlR.optAt {w : World} {S : Nat → Prop} {A : Option Addr} {n k : Nat} {os : List OptD} {o : OptD} (h : SlR w S 2 A n (optC os)) (hk : os[k]? = some o) :
    ∃ ad, A = some ad ∧ w.cell? (ad.add (k * 2)) = some (.int .u8 (o.code.toNat : Int)) ∧ w.cell? ⟨(ad.add (k * 2)).block, (ad.add (k * 2)).off + 1, none⟩ = some (.string (bs o.data)) := by
  have hl : k < os.length := by
    rcases Nat.lt_or_ge k os.length with h1 | h1
    · exact h1
    · rw [List.getElem?_eq_none h1] at hk; cases hk
  have hn := h.opt
  obtain ⟨ad, e, _, _, hc⟩ := h.2 (by omega)
  exact ⟨ad, e, hc _ _ (optC_code os k o hk), by
    have := hc _ _ (optC_data os k o hk)
    rw [← add_add] at this
    exact this⟩
theorem u8_ne {a b : UInt8} (h : a ≠ b) : ((a.toNat : Int) == (b.toNat : Int)) = false := by
  rw [beq_eq_false_iff_ne]
  intro e
  exact h (UInt8.toNat.inj (by omega))
end Go.Proofs.YtcbkaiakdhiloabGreatDoor
