/-
  DERIVED. GIVEN WITH THE SEED: THE CARDS: each row of YtcllkmllflheiaaGreatDoorRows.lean that lists a variable, with what it lists TIED to the program's text (the seventh form; the later family's looks); each row that meets fmt, with fmt's text TOLD by the authors' own Lean function (tested against real Go, not proved from fmt's source: count such statements apart). THE CARD IS WHAT COUNTS. Prove the row's statement (the work); the ties are given (YtcllkmllflheiaaGreatDoorTie.lean); close each card by the builder's one call (the guide's Derived/Test/ToyasCard.lean, 'card_holds'). Laid BY PROGRAM, IN A SANDBOX (cutbox-door.mjs). By AI agents, Wed Nov 11 2026. No macro, syntax, notation, axiom, sorry.
-/
import Derived.Test.YtcllkmllflheiaaGreatDoorRows
import GoSem.ClaimSeven
namespace Go.Proofs.YtcllkmllflheiaaGreatDoor
namespace Rows

/-- THE TIED CARD OF 'netbootlaw.Leases'. -/
def leasesCard : Claim7 := { stood := { row := leasesRow, standIns := [], harness := (true, "ff2d7fe93e119d9fc0afe1e76649db0bc97d55b255a035b3cbeb9f4088077c68"), looks := true }, kinds := [], alts := [], laidByText := true, laidKinds := [.data, .data, .data, .data, .data, .data, .data, .data, .pinned], laidTests := true, laidLooks := .later }
def LeasesCardSaid : Prop := Claim7.holds Tryz.pinned (.plain (OpenSpec.ofChange leasesSpec)) leasesCard

/-- THE SECOND FORM's CARD OF 'netbootlaw.Leases'. -/
def leasesUptoCard : Claim7 := { stood := { row := leasesUptoRow, standIns := [], harness := (true, "ff2d7fe93e119d9fc0afe1e76649db0bc97d55b255a035b3cbeb9f4088077c68"), looks := true }, kinds := [], alts := [], laidByText := true, laidKinds := [.data, .data, .data, .data, .data, .data, .data, .data, .pinned], laidTests := true, laidLooks := .later }
def LeasesUptoCardSaid : Prop := Claim7.holds Tryz.pinned (.plain (OpenSpec.upto leasesSpec)) leasesUptoCard
end Rows
end Go.Proofs.YtcllkmllflheiaaGreatDoor
