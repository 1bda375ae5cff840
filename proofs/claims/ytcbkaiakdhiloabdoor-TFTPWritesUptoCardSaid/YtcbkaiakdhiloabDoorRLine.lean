/- octets.Reader's Line. -/
import Derived.Test.YtcbkaiakdhiloabDoorTftQ
import Derived.Test.YtcbkaiakdhiloabDoorOctR
set_option linter.unusedSimpArgs false
set_option linter.unusedVariables false
namespace Go.Proofs.YtcbkaiakdhiloabDoor
open Go.RowKit Go.Proofs
attribute [local go_sem] bs_size bs_append bs_extract

/-- what Line leaves -/
def LineP (p : Nat) (l : List UInt8) (w : World) (e : Ending) (w' : World) : Prop :=
  (∃ a r, lineOf l = some (a, r) ∧ e = .returned (.string (bs a)) ∧ Rd w' p r ∧ Fr (oneB p) w w') ∨ (lineOf l = none ∧ e = .panicked (faultC 2) ∧ Fr (oneB p) w w')
set_option maxRecDepth 20000 in
set_option maxHeartbeats 1000000 in
theorem rLine (p : Nat) (l : List UInt8) (w : World) (hR : Rd w p l) (hl : l.length ≤ 4611686018427387904) :
    Calls Tryd.prog 54 #[.pointer (some ⟨p, 0, none⟩)] w (LineP p l w) := by
  have hc0 := Bk.cells hR
  have hz0 := Bk.frees hR
  go_enter Tryd.func54, Tryd.ntmps54
  go_wp2_with fail
  go_loopw [10] (fun iv wr => ∃ (i : Nat), i ≤ l.length ∧ iv = .int .i64 (i : Int) ∧ (∀ j, j < i → l[j]? ≠ some 0) ∧ wr = w) (fun iv _ => l.length - (intOf iv).toNat)
  case atStart => exact ⟨0, by omega, rfl, fun j h => absurd h (by omega), rfl⟩
  case round =>
    obtain ⟨i, hi, rfl, ha, hw⟩ := hrel
    subst hw
    by_cases hlt : i < l.length
    · obtain ⟨c, hc⟩ : ∃ c, l[i]? = some c := ⟨_, List.getElem?_eq_getElem hlt⟩
      have hgi : ∀ h : i < (bs l).size, (bs l)[i]'h = c := fun h => by rw [bs_get l i h]; rw [List.getElem?_eq_getElem hlt] at hc; injection hc
      by_cases h0 : c = 0
      · subst h0
        have H := Lib.hid (lineOf_at l i hc ha)
        clear hc ha
        go_wp2_with fail
        go_ret
        refine .inl ⟨l.take i, l.drop (i + 1), H.out, rfl, ?_, (Fr.refl (oneB p) wr).setCell (p := ⟨p, 0, none⟩) (fun _ => rfl) _⟩
        have h := Bk.set hR 0 (.string (bs (l.drop (i + 1))))
        simpa [Rd] using h
      · have h0i : ((c.toNat : Int) == 0) = false := by rw [beq_eq_false_iff_ne]; intro e; exact h0 (UInt8.toNat.inj (by simpa using e))
        have h0j : ¬ c.toNat = 0 := fun e => h0 (UInt8.toNat.inj (by simpa using e))
        have Ha : Hid (∀ j, j < i + 1 → l[j]? ≠ some 0) := Lib.hid (by
          intro j hj e
          rcases Nat.lt_or_ge j i with h3 | h3
          · exact ha j h3 e
          · obtain rfl : j = i := by omega
            rw [hc] at e; cases e; exact h0 rfl)
        clear hc ha h0
        go_wp2_with fail
        exact ⟨⟨i + 1, by omega, by rw [Int.natCast_add]; rfl, Ha.out, trivial⟩, by simp only [intOf]; omega⟩
    · obtain rfl : i = l.length := by omega
      have H := Lib.hid (lineOf_none l ha)
      clear ha
      go_wp2_with fail
      refine (fail_any 2 _).mono ?_
      rintro x w1 ⟨rfl, rfl⟩
      exact ⟨rfl, .inr ⟨H.out, rfl, Fr.refl _ _⟩⟩
end Go.Proofs.YtcbkaiakdhiloabDoor
