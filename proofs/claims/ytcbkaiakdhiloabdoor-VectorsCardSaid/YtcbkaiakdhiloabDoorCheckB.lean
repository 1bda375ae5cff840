/- The walk of boot.Check. -/
import Derived.Test.YtcbkaiakdhiloabDoorCheck
set_option linter.unusedSimpArgs false
set_option linter.unusedVariables false
namespace Go.Proofs.YtcbkaiakdhiloabDoor
open Go.RowKit Go.Proofs

theorem bootCheck_any (l : List UInt8) (w : World) (hl : l.length ≤ 9223372036854775807) :
    Calls Tryd.prog 8 #[.string (bs l)] w fun e w' => e = .returned (.int .u16 (check l)) ∧ Fr noB w w' := by
  go_enter Tryd.func8, Tryd.ntmps8
  go_wp2_with fail
  have hs := SlR.of_bk (n := 1) (size := 1) (S := noB) (Bk.new w 9 #[.string (bs l)]) (fun x => x) rfl
  refine (hashCheck_any _ 1 1 [l] _ noB hs (by omega) (by simpa using hl)).mono ?_
  rintro e w1 ⟨rfl, rfl⟩
  go_wp2_with fail
  go_ret
  exact ⟨by simp, (Fr.refl _ _).alloc _⟩

end Go.Proofs.YtcbkaiakdhiloabDoor
