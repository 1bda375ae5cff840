/-
  DERIVED. GIVEN WITH THE SEED: THE CARDS: each row of YtcbkaiakdhiloabGreatDoorRows.lean that lists a variable, with what it lists TIED to the program's text (the seventh form; the later family's looks); each row that meets fmt, with fmt's text TOLD by the authors' own Lean function (tested against real Go, not proved from fmt's source: count such statements apart). THE CARD IS WHAT COUNTS. Prove the row's statement (the work); the ties are given (YtcbkaiakdhiloabGreatDoorTie.lean); close each card by the builder's one call (the guide's Derived/Test/ToyasCard.lean, 'card_holds'). Laid BY PROGRAM, IN A SANDBOX (cutbox-door.mjs). By AI agents, Wed Nov 11 2026. No macro, syntax, notation, axiom, sorry.
-/
import Derived.Test.YtcbkaiakdhiloabGreatDoorRows
import GoSem.ClaimSeven
namespace Go.Proofs.YtcbkaiakdhiloabGreatDoor
namespace Rows

/-- THE TIED CARD OF 'netbootkeep.Rounds'. -/
def roundsCard : Claim7 := { stood := { row := roundsRow, standIns := [], harness := (true, "e59b12bcb828b5af755df21da78996e1c23abc8d761e2fc6d903b2851b0598f0"), looks := true }, kinds := [], alts := [], laidByText := true, laidKinds := [.data, .data, .data, .pinned], laidTests := true, laidLooks := .later }
def RoundsCardSaid : Prop := Claim7.holds Tryz.pinned (.plain (OpenSpec.ofChange roundsSpec)) roundsCard

/-- THE TIED CARD OF 'netbootkeep.Silent'. -/
def silentCard : Claim7 := { stood := { row := silentRow, standIns := [], harness := (true, "e59b12bcb828b5af755df21da78996e1c23abc8d761e2fc6d903b2851b0598f0"), looks := true }, kinds := [], alts := [], laidByText := true, laidKinds := [.data, .data, .data, .data, .data, .data, .data, .data, .pinned], laidTests := true, laidLooks := .later }
def SilentCardSaid : Prop := Claim7.holds Tryz.pinned (.plain (OpenSpec.ofChange silentSpec)) silentCard

/-- THE TIED CARD OF 'netbootlaw.Rings'. -/
def ringsCard : Claim7 := { stood := { row := ringsRow, standIns := [], harness := (true, "e59b12bcb828b5af755df21da78996e1c23abc8d761e2fc6d903b2851b0598f0"), looks := true }, kinds := [], alts := [], laidByText := true, laidKinds := [.data, .data, .data, .data, .data, .data, .data, .data, .pinned], laidTests := true, laidLooks := .later }
def RingsCardSaid : Prop := Claim7.holds Tryz.pinned (.plain (OpenSpec.ofChange ringsSpec)) ringsCard

/-- THE TIED CARD OF 'netbootlaw.Starts'. -/
def startsCard : Claim7 := { stood := { row := startsRow, standIns := [], harness := (true, "e59b12bcb828b5af755df21da78996e1c23abc8d761e2fc6d903b2851b0598f0"), looks := true }, kinds := [], alts := [], laidByText := true, laidKinds := [.data, .data, .data, .data, .data, .data, .data, .data, .pinned], laidTests := true, laidLooks := .later }
def StartsCardSaid : Prop := Claim7.holds Tryz.pinned (.plain (OpenSpec.ofChange startsSpec)) startsCard

/-- THE TIED CARD OF 'netbootlaw.Leases'. -/
def leasesCard : Claim7 := { stood := { row := leasesRow, standIns := [], harness := (true, "e59b12bcb828b5af755df21da78996e1c23abc8d761e2fc6d903b2851b0598f0"), looks := true }, kinds := [], alts := [], laidByText := true, laidKinds := [.data, .data, .data, .data, .data, .data, .data, .data, .pinned], laidTests := true, laidLooks := .later }
def LeasesCardSaid : Prop := Claim7.holds Tryz.pinned (.plain (OpenSpec.ofChange leasesSpec)) leasesCard

/-- THE SECOND FORM's CARD OF 'netbootkeep.Rounds'. -/
def roundsUptoCard : Claim7 := { stood := { row := roundsUptoRow, standIns := [], harness := (true, "e59b12bcb828b5af755df21da78996e1c23abc8d761e2fc6d903b2851b0598f0"), looks := true }, kinds := [], alts := [], laidByText := true, laidKinds := [.data, .data, .data, .pinned], laidTests := true, laidLooks := .later }
def RoundsUptoCardSaid : Prop := Claim7.holds Tryz.pinned (.plain (OpenSpec.upto roundsSpec)) roundsUptoCard

/-- THE SECOND FORM's CARD OF 'netbootkeep.Silent'. -/
def silentUptoCard : Claim7 := { stood := { row := silentUptoRow, standIns := [], harness := (true, "e59b12bcb828b5af755df21da78996e1c23abc8d761e2fc6d903b2851b0598f0"), looks := true }, kinds := [], alts := [], laidByText := true, laidKinds := [.data, .data, .data, .data, .data, .data, .data, .data, .pinned], laidTests := true, laidLooks := .later }
def SilentUptoCardSaid : Prop := Claim7.holds Tryz.pinned (.plain (OpenSpec.upto silentSpec)) silentUptoCard

/-- THE SECOND FORM's CARD OF 'netbootlaw.Rings'. -/
def ringsUptoCard : Claim7 := { stood := { row := ringsUptoRow, standIns := [], harness := (true, "e59b12bcb828b5af755df21da78996e1c23abc8d761e2fc6d903b2851b0598f0"), looks := true }, kinds := [], alts := [], laidByText := true, laidKinds := [.data, .data, .data, .data, .data, .data, .data, .data, .pinned], laidTests := true, laidLooks := .later }
def RingsUptoCardSaid : Prop := Claim7.holds Tryz.pinned (.plain (OpenSpec.upto ringsSpec)) ringsUptoCard

/-- THE SECOND FORM's CARD OF 'netbootlaw.Starts'. -/
def startsUptoCard : Claim7 := { stood := { row := startsUptoRow, standIns := [], harness := (true, "e59b12bcb828b5af755df21da78996e1c23abc8d761e2fc6d903b2851b0598f0"), looks := true }, kinds := [], alts := [], laidByText := true, laidKinds := [.data, .data, .data, .data, .data, .data, .data, .data, .pinned], laidTests := true, laidLooks := .later }
def StartsUptoCardSaid : Prop := Claim7.holds Tryz.pinned (.plain (OpenSpec.upto startsSpec)) startsUptoCard

/-- THE SECOND FORM's CARD OF 'netbootlaw.Leases'. -/
def leasesUptoCard : Claim7 := { stood := { row := leasesUptoRow, standIns := [], harness := (true, "e59b12bcb828b5af755df21da78996e1c23abc8d761e2fc6d903b2851b0598f0"), looks := true }, kinds := [], alts := [], laidByText := true, laidKinds := [.data, .data, .data, .data, .data, .data, .data, .data, .pinned], laidTests := true, laidLooks := .later }
def LeasesUptoCardSaid : Prop := Claim7.holds Tryz.pinned (.plain (OpenSpec.upto leasesSpec)) leasesUptoCard
end Rows
end Go.Proofs.YtcbkaiakdhiloabGreatDoor
