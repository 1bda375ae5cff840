/-
  DERIVED. GIVEN WITH THE SEED: THE CARDS: each row of YtcbkaiakdhiloacGreatDoorRows.lean that lists a variable, with what it lists TIED to the program's text (the seventh form; the later family's looks); each row that meets fmt, with fmt's text TOLD by the authors' own Lean function (tested against real Go, not proved from fmt's source: count such statements apart). THE CARD IS WHAT COUNTS. Prove the row's statement (the work); the ties are given (YtcbkaiakdhiloacGreatDoorTie.lean); close each card by the builder's one call (the guide's Derived/Test/ToyasCard.lean, 'card_holds'). Laid BY PROGRAM, IN A SANDBOX (cutbox-door.mjs). By AI agents, Wed Nov 11 2026. No macro, syntax, notation, axiom, sorry.
-/
import Derived.Test.YtcbkaiakdhiloacGreatDoorRows
import GoSem.ClaimSeven
namespace Go.Proofs.YtcbkaiakdhiloacGreatDoor
namespace Rows

/-- THE TIED CARD OF 'netbootlaw.Loads'. -/
def loadsCard : Claim7 := { stood := { row := loadsRow, standIns := [], harness := (true, "7fa932bc50f5334bed87869286a129396023370c86b39163813bec8d6dc6df5d"), looks := true }, kinds := [], alts := [], laidByText := true, laidKinds := [.data, .data, .data, .data, .data, .data, .data, .data, .pinned], laidTests := true, laidLooks := .later }
def LoadsCardSaid : Prop := Claim7.holds Tryz.pinned (.plain (OpenSpec.ofChange loadsSpec)) loadsCard

/-- THE TIED CARD OF 'netbootlaw.Images'. -/
def imagesCard : Claim7 := { stood := { row := imagesRow, standIns := [], harness := (true, "7fa932bc50f5334bed87869286a129396023370c86b39163813bec8d6dc6df5d"), looks := true }, kinds := [], alts := [], laidByText := true, laidKinds := [.data, .data, .data, .data, .data, .data, .data, .data, .pinned], laidTests := true, laidLooks := .later }
def ImagesCardSaid : Prop := Claim7.holds Tryz.pinned (.plain (OpenSpec.ofChange imagesSpec)) imagesCard

/-- THE TIED CARD OF 'netbootlaw.All'. -/
def allCard : Claim7 := { stood := { row := allRow, standIns := [], harness := (true, "7fa932bc50f5334bed87869286a129396023370c86b39163813bec8d6dc6df5d"), looks := true }, kinds := [], alts := [], laidByText := true, laidKinds := [.data, .data, .data, .data, .data, .data, .data, .data, .pinned], laidTests := true, laidLooks := .later }
def AllCardSaid : Prop := Claim7.holds Tryz.pinned (.plain (OpenSpec.ofChange allSpec)) allCard

/-- THE TIED CARD OF 'netbootkeep.Known'. -/
def knownCard : Claim7 := { stood := { row := knownRow, standIns := [], harness := (true, "7fa932bc50f5334bed87869286a129396023370c86b39163813bec8d6dc6df5d"), looks := true }, kinds := [], alts := [], laidByText := true, laidKinds := [.data, .data, .data, .data, .data, .data, .data, .data, .pinned], laidTests := true, laidLooks := .later }
def KnownCardSaid : Prop := Claim7.holds Tryz.pinned (.plain (OpenSpec.ofChange knownSpec)) knownCard

/-- THE TIED CARD OF 'netbootkeep.Renewed'. -/
def renewedCard : Claim7 := { stood := { row := renewedRow, standIns := [], harness := (true, "7fa932bc50f5334bed87869286a129396023370c86b39163813bec8d6dc6df5d"), looks := true }, kinds := [], alts := [], laidByText := true, laidKinds := [.data, .data, .data, .data, .data, .data, .data, .data, .data, .pinned], laidTests := true, laidLooks := .later }
def RenewedCardSaid : Prop := Claim7.holds Tryz.pinned (.plain (OpenSpec.ofChange renewedSpec)) renewedCard

/-- THE TIED CARD OF 'netbootkeep.Boots'. -/
def bootsCard : Claim7 := { stood := { row := bootsRow, standIns := [], harness := (true, "7fa932bc50f5334bed87869286a129396023370c86b39163813bec8d6dc6df5d"), looks := true }, kinds := [], alts := [], laidByText := true, laidKinds := [.data, .data, .data, .data, .data, .data, .data, .data, .data, .pinned], laidTests := true, laidLooks := .later }
def BootsCardSaid : Prop := Claim7.holds Tryz.pinned (.plain (OpenSpec.ofChange bootsSpec)) bootsCard

/-- THE SECOND FORM's CARD OF 'netbootlaw.Loads'. -/
def loadsUptoCard : Claim7 := { stood := { row := loadsUptoRow, standIns := [], harness := (true, "7fa932bc50f5334bed87869286a129396023370c86b39163813bec8d6dc6df5d"), looks := true }, kinds := [], alts := [], laidByText := true, laidKinds := [.data, .data, .data, .data, .data, .data, .data, .data, .pinned], laidTests := true, laidLooks := .later }
def LoadsUptoCardSaid : Prop := Claim7.holds Tryz.pinned (.plain (OpenSpec.upto loadsSpec)) loadsUptoCard

/-- THE SECOND FORM's CARD OF 'netbootlaw.Images'. -/
def imagesUptoCard : Claim7 := { stood := { row := imagesUptoRow, standIns := [], harness := (true, "7fa932bc50f5334bed87869286a129396023370c86b39163813bec8d6dc6df5d"), looks := true }, kinds := [], alts := [], laidByText := true, laidKinds := [.data, .data, .data, .data, .data, .data, .data, .data, .pinned], laidTests := true, laidLooks := .later }
def ImagesUptoCardSaid : Prop := Claim7.holds Tryz.pinned (.plain (OpenSpec.upto imagesSpec)) imagesUptoCard

/-- THE SECOND FORM's CARD OF 'netbootlaw.All'. -/
def allUptoCard : Claim7 := { stood := { row := allUptoRow, standIns := [], harness := (true, "7fa932bc50f5334bed87869286a129396023370c86b39163813bec8d6dc6df5d"), looks := true }, kinds := [], alts := [], laidByText := true, laidKinds := [.data, .data, .data, .data, .data, .data, .data, .data, .pinned], laidTests := true, laidLooks := .later }
def AllUptoCardSaid : Prop := Claim7.holds Tryz.pinned (.plain (OpenSpec.upto allSpec)) allUptoCard

/-- THE SECOND FORM's CARD OF 'netbootkeep.Known'. -/
def knownUptoCard : Claim7 := { stood := { row := knownUptoRow, standIns := [], harness := (true, "7fa932bc50f5334bed87869286a129396023370c86b39163813bec8d6dc6df5d"), looks := true }, kinds := [], alts := [], laidByText := true, laidKinds := [.data, .data, .data, .data, .data, .data, .data, .data, .pinned], laidTests := true, laidLooks := .later }
def KnownUptoCardSaid : Prop := Claim7.holds Tryz.pinned (.plain (OpenSpec.upto knownSpec)) knownUptoCard

/-- THE SECOND FORM's CARD OF 'netbootkeep.Renewed'. -/
def renewedUptoCard : Claim7 := { stood := { row := renewedUptoRow, standIns := [], harness := (true, "7fa932bc50f5334bed87869286a129396023370c86b39163813bec8d6dc6df5d"), looks := true }, kinds := [], alts := [], laidByText := true, laidKinds := [.data, .data, .data, .data, .data, .data, .data, .data, .data, .pinned], laidTests := true, laidLooks := .later }
def RenewedUptoCardSaid : Prop := Claim7.holds Tryz.pinned (.plain (OpenSpec.upto renewedSpec)) renewedUptoCard

/-- THE SECOND FORM's CARD OF 'netbootkeep.Boots'. -/
def bootsUptoCard : Claim7 := { stood := { row := bootsUptoRow, standIns := [], harness := (true, "7fa932bc50f5334bed87869286a129396023370c86b39163813bec8d6dc6df5d"), looks := true }, kinds := [], alts := [], laidByText := true, laidKinds := [.data, .data, .data, .data, .data, .data, .data, .data, .data, .pinned], laidTests := true, laidLooks := .later }
def BootsUptoCardSaid : Prop := Claim7.holds Tryz.pinned (.plain (OpenSpec.upto bootsSpec)) bootsUptoCard
end Rows
end Go.Proofs.YtcbkaiakdhiloacGreatDoor
