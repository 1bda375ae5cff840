/-
  DERIVED. GIVEN WITH THE SEED: THE CARDS: each row of YtcbkaiakdhiloaaGreatDoorRows.lean that lists a variable, with what it lists TIED to the program's text (the seventh form; the later family's looks); each row that meets fmt, with fmt's text TOLD by the authors' own Lean function (tested against real Go, not proved from fmt's source: count such statements apart). THE CARD IS WHAT COUNTS. Prove the row's statement (the work); the ties are given (YtcbkaiakdhiloaaGreatDoorTie.lean); close each card by the builder's one call (the guide's Derived/Test/ToyasCard.lean, 'card_holds'). Laid BY PROGRAM, IN A SANDBOX (cutbox-door.mjs). By AI agents, Wed Nov 11 2026. No macro, syntax, notation, axiom, sorry.
-/
import Derived.Test.YtcbkaiakdhiloaaGreatDoorRows
import GoSem.ClaimSeven
namespace Go.Proofs.YtcbkaiakdhiloaaGreatDoor
namespace Rows

/-- THE TIED CARD OF 'netbootkeep.Long'. -/
def longCard : Claim7 := { stood := { row := longRow, standIns := [], harness := (true, "29ba7701233c266c05f291fd6f1eb3792931a147bbb32fc8d77c1c31367d2eba"), looks := true }, kinds := [], alts := [], laidByText := true, laidKinds := [.data, .data, .data, .data, .data, .data, .data, .data, .data, .pinned], laidTests := true, laidLooks := .later }
def LongCardSaid : Prop := Claim7.holds Tryz.pinned (.plain (OpenSpec.ofChange longSpec)) longCard

/-- THE TIED CARD OF 'netbootkeep.Safe'. -/
def safeCard : Claim7 := { stood := { row := safeRow, standIns := [], harness := (true, "29ba7701233c266c05f291fd6f1eb3792931a147bbb32fc8d77c1c31367d2eba"), looks := true }, kinds := [], alts := [], laidByText := true, laidKinds := [.data, .data, .data, .data, .data, .data, .data, .data, .data, .pinned], laidTests := true, laidLooks := .later }
def SafeCardSaid : Prop := Claim7.holds Tryz.pinned (.plain (OpenSpec.ofChange safeSpec)) safeCard

/-- THE SECOND FORM's CARD OF 'netbootkeep.Long'. -/
def longUptoCard : Claim7 := { stood := { row := longUptoRow, standIns := [], harness := (true, "29ba7701233c266c05f291fd6f1eb3792931a147bbb32fc8d77c1c31367d2eba"), looks := true }, kinds := [], alts := [], laidByText := true, laidKinds := [.data, .data, .data, .data, .data, .data, .data, .data, .data, .pinned], laidTests := true, laidLooks := .later }
def LongUptoCardSaid : Prop := Claim7.holds Tryz.pinned (.plain (OpenSpec.upto longSpec)) longUptoCard

/-- THE SECOND FORM's CARD OF 'netbootkeep.Safe'. -/
def safeUptoCard : Claim7 := { stood := { row := safeUptoRow, standIns := [], harness := (true, "29ba7701233c266c05f291fd6f1eb3792931a147bbb32fc8d77c1c31367d2eba"), looks := true }, kinds := [], alts := [], laidByText := true, laidKinds := [.data, .data, .data, .data, .data, .data, .data, .data, .data, .pinned], laidTests := true, laidLooks := .later }
def SafeUptoCardSaid : Prop := Claim7.holds Tryz.pinned (.plain (OpenSpec.upto safeSpec)) safeUptoCard
end Rows
end Go.Proofs.YtcbkaiakdhiloaaGreatDoor
