/-
  DERIVED. GIVEN WITH THE SEED: THE CARDS: each row of YtcbkaiakdhiloaaDoorRows.lean that lists a variable, with what it lists TIED to the program's text (the seventh form; the later family's looks); each row that meets fmt, with fmt's text TOLD by the authors' own Lean function (tested against real Go, not proved from fmt's source: count such statements apart). THE CARD IS WHAT COUNTS. Prove the row's statement (the work); the ties are given (YtcbkaiakdhiloaaDoorTie.lean); close each card by the builder's one call (the guide's Derived/Test/ToyasCard.lean, 'card_holds'). Laid BY PROGRAM, IN A SANDBOX (cutbox-door.mjs). By AI agents, Wed Nov 11 2026. No macro, syntax, notation, axiom, sorry.
-/
import Derived.Test.YtcbkaiakdhiloaaDoorRows
import GoSem.ClaimSeven
namespace Go.Proofs.YtcbkaiakdhiloaaDoor
namespace Rows

/-- THE TIED CARD OF 'netbootlaw.Hashes'. -/
def hashesCard : Claim7 := { stood := { row := hashesRow, standIns := [], harness := (true, "5d1f7075588cefe6621c7904958d0b4842e634d100b6e636ac93b267815b832e"), looks := false }, kinds := [], alts := [], laidByText := true, laidKinds := [.data, .data], laidTests := true, laidLooks := .later }
def HashesCardSaid : Prop := Claim7.holds Tryd.pinned (.plain (OpenSpec.ofChange hashesSpec)) hashesCard

/-- THE SECOND FORM's CARD OF 'netbootlaw.Hashes'. -/
def hashesUptoCard : Claim7 := { stood := { row := hashesUptoRow, standIns := [], harness := (true, "5d1f7075588cefe6621c7904958d0b4842e634d100b6e636ac93b267815b832e"), looks := false }, kinds := [], alts := [], laidByText := true, laidKinds := [.data, .data], laidTests := true, laidLooks := .later }
def HashesUptoCardSaid : Prop := Claim7.holds Tryd.pinned (.plain (OpenSpec.upto hashesSpec)) hashesUptoCard
end Rows
end Go.Proofs.YtcbkaiakdhiloaaDoor
