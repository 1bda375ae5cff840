/- The walk of octets.Reader's Rest. -/
import Derived.Test.YtcbkaiakdhiloabDoorOctR
set_option linter.unusedSimpArgs false
set_option linter.unusedVariables false
namespace Go.Proofs.YtcbkaiakdhiloabDoor
open Go.RowKit Go.Proofs
attribute [local go_sem] bs_size bs_append bs_extract

theorem rLen (p : Nat) (l : List UInt8) (w : World) (hR : Rd w p l) :
    Calls Tryd.prog 58 #[.pointer (some ⟨p, 0, none⟩)] w fun e w' => e = .returned (.int .i64 l.length) ∧ w = w' := by
  have hc0 : w.cell? ⟨p, 0, none⟩ = some (.string (bs l)) := by simpa using Bk.cell hR 0
  go_enter Tryd.func58, Tryd.ntmps58
  go_wp2_with fail
  go_ret
  exact ⟨rfl, rfl⟩
theorem rRest (p : Nat) (l : List UInt8) (w : World) (hR : Rd w p l) (hl : l.length ≤ 9223372036854775807) :
    Calls Tryd.prog 59 #[.pointer (some ⟨p, 0, none⟩)] w fun e w' => e = .returned (.string (bs l)) ∧ Rd w' p [] ∧ Fr (oneB p) w w' := by
  have hc0 : w.cell? ⟨p, 0, none⟩ = some (.string (bs l)) := by simpa using Bk.cell hR 0
  go_enter Tryd.func59, Tryd.ntmps59
  go_wp2_with fail
  refine (rTake l.length p l _ hR hl hl).mono ?_
  rintro e w1 (⟨hle, rfl, hR1, hf1⟩ | ⟨hlt, rfl, hf1⟩)
  · rw [List.take_length]
    rw [List.drop_length] at hR1
    go_wp2_with fail
    go_ret
    exact ⟨rfl, hR1, hf1⟩
  · omega

end Go.Proofs.YtcbkaiakdhiloabDoor
