/-
  DERIVED. GIVEN WITH THE SEED: THE CARDS: each row of YtcbkaiakdhiloabDoorRows.lean that lists a variable, with what it lists TIED to the program's text (the seventh form; the later family's looks); each row that meets fmt, with fmt's text TOLD by the authors' own Lean function (tested against real Go, not proved from fmt's source: count such statements apart). THE CARD IS WHAT COUNTS. Prove the row's statement (the work); the ties are given (YtcbkaiakdhiloabDoorTie.lean); close each card by the builder's one call (the guide's Derived/Test/ToyasCard.lean, 'card_holds'). Laid BY PROGRAM, IN A SANDBOX (cutbox-door.mjs). By AI agents, Wed Nov 11 2026. No macro, syntax, notation, axiom, sorry.
-/
import Derived.Test.YtcbkaiakdhiloabDoorRows
import GoSem.ClaimSeven
namespace Go.Proofs.YtcbkaiakdhiloabDoor
namespace Rows

/-- THE TIED CARD OF 'netbootkeep.Vectors'. -/
def vectorsCard : Claim7 := { stood := { row := vectorsRow, standIns := [], harness := (true, "1c904521f6ac00bcd3fc129b79dffee05bc9ce0c074822aa9e3ae1a92e5364bb"), looks := true }, kinds := [], alts := [], laidByText := true, laidKinds := [.data, .data, .data, .data], laidTests := true, laidLooks := .later }
def VectorsCardSaid : Prop := Claim7.holds Tryd.pinned (.plain (OpenSpec.ofChange vectorsSpec)) vectorsCard

/-- THE TIED CARD OF 'netbootlaw.TFTPReads'. -/
def tFTPReadsCard : Claim7 := { stood := { row := tFTPReadsRow, standIns := [], harness := (true, "1c904521f6ac00bcd3fc129b79dffee05bc9ce0c074822aa9e3ae1a92e5364bb"), looks := true }, kinds := [], alts := [], laidByText := true, laidKinds := [.data, .pinned], laidTests := true, laidLooks := .later }
def TFTPReadsCardSaid : Prop := Claim7.holds Tryd.pinned (.plain (OpenSpec.ofChange tFTPReadsSpec)) tFTPReadsCard

/-- THE TIED CARD OF 'netbootlaw.TFTPWrites'. -/
def tFTPWritesCard : Claim7 := { stood := { row := tFTPWritesRow, standIns := [], harness := (true, "1c904521f6ac00bcd3fc129b79dffee05bc9ce0c074822aa9e3ae1a92e5364bb"), looks := true }, kinds := [], alts := [], laidByText := true, laidKinds := [.data, .pinned], laidTests := true, laidLooks := .later }
def TFTPWritesCardSaid : Prop := Claim7.holds Tryd.pinned (.plain (OpenSpec.ofChange tFTPWritesSpec)) tFTPWritesCard

/-- THE SECOND FORM's CARD OF 'netbootkeep.Vectors'. -/
def vectorsUptoCard : Claim7 := { stood := { row := vectorsUptoRow, standIns := [], harness := (true, "1c904521f6ac00bcd3fc129b79dffee05bc9ce0c074822aa9e3ae1a92e5364bb"), looks := true }, kinds := [], alts := [], laidByText := true, laidKinds := [.data, .data, .data, .data], laidTests := true, laidLooks := .later }
def VectorsUptoCardSaid : Prop := Claim7.holds Tryd.pinned (.plain (OpenSpec.upto vectorsSpec)) vectorsUptoCard

/-- THE SECOND FORM's CARD OF 'netbootlaw.TFTPReads'. -/
def tFTPReadsUptoCard : Claim7 := { stood := { row := tFTPReadsUptoRow, standIns := [], harness := (true, "1c904521f6ac00bcd3fc129b79dffee05bc9ce0c074822aa9e3ae1a92e5364bb"), looks := true }, kinds := [], alts := [], laidByText := true, laidKinds := [.data, .pinned], laidTests := true, laidLooks := .later }
def TFTPReadsUptoCardSaid : Prop := Claim7.holds Tryd.pinned (.plain (OpenSpec.upto tFTPReadsSpec)) tFTPReadsUptoCard

/-- THE SECOND FORM's CARD OF 'netbootlaw.TFTPWrites'. -/
def tFTPWritesUptoCard : Claim7 := { stood := { row := tFTPWritesUptoRow, standIns := [], harness := (true, "1c904521f6ac00bcd3fc129b79dffee05bc9ce0c074822aa9e3ae1a92e5364bb"), looks := true }, kinds := [], alts := [], laidByText := true, laidKinds := [.data, .pinned], laidTests := true, laidLooks := .later }
def TFTPWritesUptoCardSaid : Prop := Claim7.holds Tryd.pinned (.plain (OpenSpec.upto tFTPWritesSpec)) tFTPWritesUptoCard
end Rows
end Go.Proofs.YtcbkaiakdhiloabDoor
