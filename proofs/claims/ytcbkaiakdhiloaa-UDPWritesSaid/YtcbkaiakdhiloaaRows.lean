/-
  No cell of these rows narrows 'for every input' (looked for: loops, veiled, ifaces, maps, wideKeys, modest, calm, conditions, laid).
  DERIVED. THE GIVEN ROWS OF THIS SEAT. 9 by the template 'for every input the law returns true; each argument reads behind the call as it read before'; 0 by the template 'total and deterministic' (their statements: YtcbkaiakdhiloaaTotals.lean).
  GIVEN WITH THE SEED: the statements are not yours to turn. If you find one false, say at which input.
  Laid BY PROGRAM, IN A SANDBOX (cutbox-rows.mjs): the forced cells as the released guide's own fill.sh prints them over the translation 5f25ed97a2203a4a… (all of the seat's roots in one cut). By AI agents, Wed Nov 11 2026. No macro, syntax, notation, axiom, sorry.
-/
import Derived.Test.YtcbkaiakdhiloaaChecked
import GoSem.Claim
import GoSem.ClaimJoined
import GoSem.ClaimMapViews
import Derived.JoinedTies
import Derived.KernelRfl
namespace Go.Proofs.Ytcbkaiakdhiloaa
/- THE CELL 'sum', in the pinned program and in every row, IS THE sha256 OF THE DUMP (.gsa) THAT YtcbkaiakdhiloaaProg.lean LOADS. Nothing in Lean hashes anything: it is a label: what it is worth is what the hold of that sum in a sandbox is worth. -/
noncomputable def Try.pinned : Pinned := { name := "ytcbkaiakdhiloaa", sum := "5f25ed97a2203a4aa0338dbc5972c0d93c000f8d55dcdfcfc57eb45caf0d17b8", checked := Try.checked }
namespace Rows
def none {H : Type} : Left H := { results := [], args := [] }

/-- 'netbootlaw.Names': WHATEVER THE INPUT: true; the input reads as it did. -/
def namesSpec : ChangeSpec := { name := "names", fn := fun _ => fun
  | [] => { results := [.lit (.bool true)], args := [] }
  | _ => none }
def namesRow : OpenClaim := { program := "ytcbkaiakdhiloaa", sum := "5f25ed97a2203a4aa0338dbc5972c0d93c000f8d55dcdfcfc57eb45caf0d17b8", func := "netboot/netbootlaw.Names", spec := "names", apart := false }
def NamesSaid : Prop := namesRow.holds Try.pinned (OpenSpec.ofChange namesSpec)

/-- ITS FALSE NEIGHBOUR: 'it returns false'. Refute it at one input. -/
def namesWrong : ChangeSpec := { name := "names", fn := fun _ => fun
  | [] => { results := [.lit (.bool false)], args := [] }
  | _ => none }
def NamesWrongFalsely : Prop := namesRow.holds Try.pinned (OpenSpec.ofChange namesWrong)

/-- 'netbootlaw.Checks': WHATEVER THE INPUT: true; the input reads as it did. -/
def checksSpec : ChangeSpec := { name := "checks", fn := fun _ => fun
  | [d] => { results := [.lit (.bool true)], args := [d] }
  | _ => none }
def checksRow : OpenClaim := { program := "ytcbkaiakdhiloaa", sum := "5f25ed97a2203a4aa0338dbc5972c0d93c000f8d55dcdfcfc57eb45caf0d17b8", func := "netboot/netbootlaw.Checks", spec := "checks", apart := false }
def ChecksSaid : Prop := checksRow.holds Try.pinned (OpenSpec.ofChange checksSpec)

/-- ITS FALSE NEIGHBOUR: 'it returns false'. Refute it at one input. -/
def checksWrong : ChangeSpec := { name := "checks", fn := fun _ => fun
  | [d] => { results := [.lit (.bool false)], args := [d] }
  | _ => none }
def ChecksWrongFalsely : Prop := checksRow.holds Try.pinned (OpenSpec.ofChange checksWrong)

/-- 'netbootlaw.ARPWrites': WHATEVER THE INPUT: true; the input reads as it did. -/
def aRPWritesSpec : ChangeSpec := { name := "aRPWrites", fn := fun _ => fun
  | [d] => { results := [.lit (.bool true)], args := [d] }
  | _ => none }
def aRPWritesRow : OpenClaim := { program := "ytcbkaiakdhiloaa", sum := "5f25ed97a2203a4aa0338dbc5972c0d93c000f8d55dcdfcfc57eb45caf0d17b8", func := "netboot/netbootlaw.ARPWrites", spec := "aRPWrites", apart := false }
def ARPWritesSaid : Prop := aRPWritesRow.holds Try.pinned (OpenSpec.ofChange aRPWritesSpec)

/-- ITS FALSE NEIGHBOUR: 'it returns false'. Refute it at one input. -/
def aRPWritesWrong : ChangeSpec := { name := "aRPWrites", fn := fun _ => fun
  | [d] => { results := [.lit (.bool false)], args := [d] }
  | _ => none }
def ARPWritesWrongFalsely : Prop := aRPWritesRow.holds Try.pinned (OpenSpec.ofChange aRPWritesWrong)

/-- 'netbootlaw.EtherWrites': WHATEVER THE INPUT: true; the input reads as it did. -/
def etherWritesSpec : ChangeSpec := { name := "etherWrites", fn := fun _ => fun
  | [d] => { results := [.lit (.bool true)], args := [d] }
  | _ => none }
def etherWritesRow : OpenClaim := { program := "ytcbkaiakdhiloaa", sum := "5f25ed97a2203a4aa0338dbc5972c0d93c000f8d55dcdfcfc57eb45caf0d17b8", func := "netboot/netbootlaw.EtherWrites", spec := "etherWrites", apart := false }
def EtherWritesSaid : Prop := etherWritesRow.holds Try.pinned (OpenSpec.ofChange etherWritesSpec)

/-- ITS FALSE NEIGHBOUR: 'it returns false'. Refute it at one input. -/
def etherWritesWrong : ChangeSpec := { name := "etherWrites", fn := fun _ => fun
  | [d] => { results := [.lit (.bool false)], args := [d] }
  | _ => none }
def EtherWritesWrongFalsely : Prop := etherWritesRow.holds Try.pinned (OpenSpec.ofChange etherWritesWrong)

/-- 'netbootlaw.ARPReads': WHATEVER THE INPUT: true; the input reads as it did. -/
def aRPReadsSpec : ChangeSpec := { name := "aRPReads", fn := fun _ => fun
  | [d] => { results := [.lit (.bool true)], args := [d] }
  | _ => none }
def aRPReadsRow : OpenClaim := { program := "ytcbkaiakdhiloaa", sum := "5f25ed97a2203a4aa0338dbc5972c0d93c000f8d55dcdfcfc57eb45caf0d17b8", func := "netboot/netbootlaw.ARPReads", spec := "aRPReads", unfollowed := true, recurses := true, apart := false }
def ARPReadsSaid : Prop := aRPReadsRow.holds Try.pinned (OpenSpec.ofChange aRPReadsSpec)

/-- ITS FALSE NEIGHBOUR: 'it returns false'. Refute it at one input. -/
def aRPReadsWrong : ChangeSpec := { name := "aRPReads", fn := fun _ => fun
  | [d] => { results := [.lit (.bool false)], args := [d] }
  | _ => none }
def ARPReadsWrongFalsely : Prop := aRPReadsRow.holds Try.pinned (OpenSpec.ofChange aRPReadsWrong)

/-- 'netbootlaw.EtherReads': WHATEVER THE INPUT: true; the input reads as it did. -/
def etherReadsSpec : ChangeSpec := { name := "etherReads", fn := fun _ => fun
  | [d] => { results := [.lit (.bool true)], args := [d] }
  | _ => none }
def etherReadsRow : OpenClaim := { program := "ytcbkaiakdhiloaa", sum := "5f25ed97a2203a4aa0338dbc5972c0d93c000f8d55dcdfcfc57eb45caf0d17b8", func := "netboot/netbootlaw.EtherReads", spec := "etherReads", unfollowed := true, recurses := true, apart := false }
def EtherReadsSaid : Prop := etherReadsRow.holds Try.pinned (OpenSpec.ofChange etherReadsSpec)

/-- ITS FALSE NEIGHBOUR: 'it returns false'. Refute it at one input. -/
def etherReadsWrong : ChangeSpec := { name := "etherReads", fn := fun _ => fun
  | [d] => { results := [.lit (.bool false)], args := [d] }
  | _ => none }
def EtherReadsWrongFalsely : Prop := etherReadsRow.holds Try.pinned (OpenSpec.ofChange etherReadsWrong)

/-- 'netbootlaw.IPWrites': WHATEVER THE INPUT: true; the input reads as it did. -/
def iPWritesSpec : ChangeSpec := { name := "iPWrites", fn := fun _ => fun
  | [d] => { results := [.lit (.bool true)], args := [d] }
  | _ => none }
def iPWritesRow : OpenClaim := { program := "ytcbkaiakdhiloaa", sum := "5f25ed97a2203a4aa0338dbc5972c0d93c000f8d55dcdfcfc57eb45caf0d17b8", func := "netboot/netbootlaw.IPWrites", spec := "iPWrites", unfollowed := true, recurses := true, apart := false }
def IPWritesSaid : Prop := iPWritesRow.holds Try.pinned (OpenSpec.ofChange iPWritesSpec)

/-- ITS FALSE NEIGHBOUR: 'it returns false'. Refute it at one input. -/
def iPWritesWrong : ChangeSpec := { name := "iPWrites", fn := fun _ => fun
  | [d] => { results := [.lit (.bool false)], args := [d] }
  | _ => none }
def IPWritesWrongFalsely : Prop := iPWritesRow.holds Try.pinned (OpenSpec.ofChange iPWritesWrong)

/-- 'netbootlaw.UDPWrites': WHATEVER THE INPUT: true; the input reads as it did. -/
def uDPWritesSpec : ChangeSpec := { name := "uDPWrites", fn := fun _ => fun
  | [d1, d2, d3] => { results := [.lit (.bool true)], args := [d1, d2, d3] }
  | _ => none }
def uDPWritesRow : OpenClaim := { program := "ytcbkaiakdhiloaa", sum := "5f25ed97a2203a4aa0338dbc5972c0d93c000f8d55dcdfcfc57eb45caf0d17b8", func := "netboot/netbootlaw.UDPWrites", spec := "uDPWrites", unfollowed := true, recurses := true, apart := false }
def UDPWritesSaid : Prop := uDPWritesRow.holds Try.pinned (OpenSpec.ofChange uDPWritesSpec)

/-- ITS FALSE NEIGHBOUR: 'it returns false'. Refute it at one input. -/
def uDPWritesWrong : ChangeSpec := { name := "uDPWrites", fn := fun _ => fun
  | [d1, d2, d3] => { results := [.lit (.bool false)], args := [d1, d2, d3] }
  | _ => none }
def UDPWritesWrongFalsely : Prop := uDPWritesRow.holds Try.pinned (OpenSpec.ofChange uDPWritesWrong)

/-- 'netbootlaw.IPReads': WHATEVER THE INPUT: true; the input reads as it did. -/
def iPReadsSpec : ChangeSpec := { name := "iPReads", fn := fun _ => fun
  | [d] => { results := [.lit (.bool true)], args := [d] }
  | _ => none }
def iPReadsRow : OpenClaim := { program := "ytcbkaiakdhiloaa", sum := "5f25ed97a2203a4aa0338dbc5972c0d93c000f8d55dcdfcfc57eb45caf0d17b8", func := "netboot/netbootlaw.IPReads", spec := "iPReads", unfollowed := true, recurses := true, apart := false }
def IPReadsSaid : Prop := iPReadsRow.holds Try.pinned (OpenSpec.ofChange iPReadsSpec)

/-- ITS FALSE NEIGHBOUR: 'it returns false'. Refute it at one input. -/
def iPReadsWrong : ChangeSpec := { name := "iPReads", fn := fun _ => fun
  | [d] => { results := [.lit (.bool false)], args := [d] }
  | _ => none }
def IPReadsWrongFalsely : Prop := iPReadsRow.holds Try.pinned (OpenSpec.ofChange iPReadsWrong)

/- THE SECOND FORM. 'bulk': how many values and letters a reading holds, each counted each time it is reached (what is shared counts as often as it is met; a slice's spare places count too). A statement '..UptoSaid' is the law's where the arguments, and the package variables that the reading takes, are together of bulk at most 1048576: NARROWER than '..Said'. Prove '..Said' where nothing that the law and all that it calls make is longer than what came in: it says more and counts as full. Else prove '..UptoSaid'. A law counts once. -/
mutual
def uptoBulk {H : Type} : DataW H → Nat
  | .lit (.string bytes) => bytes.length + 1
  | .lit _ => 1
  | .nil => 1
  | .ptr d => uptoBulk d + 1
  | .slice elems spare => uptoBulkAll elems + uptoBulkAll spare + 1
  | .agg parts => uptoBulkAll parts + 1
  | .iface _ d => uptoBulk d + 1
  | .map entries => uptoBulkEntries entries + 1
  | .held _ => 1
def uptoBulkAll {H : Type} : List (DataW H) → Nat
  | [] => 0
  | d :: r => uptoBulk d + uptoBulkAll r
def uptoBulkEntries {H : Type} : List (Lit × DataW H) → Nat
  | [] => 0
  | x :: r => uptoBulkEntry x + uptoBulkEntries r
def uptoBulkEntry {H : Type} : Lit × DataW H → Nat
  | (.string bytes, d) => bytes.length + uptoBulk d + 1
  | (_, d) => uptoBulk d + 1
 end
def uptoSmall : (H : Type) → List (DataW H) → Bool := fun _ ds => decide (uptoBulkAll ds ≤ 1048576)
def OpenSpec.upto (s : _root_.Go.ChangeSpec) : _root_.Go.OpenSpec := { _root_.Go.OpenSpec.ofChange s with cond := some uptoSmall }

/-- 'netbootlaw.Names', WHERE WHAT IT READS IS OF BULK AT MOST 1048576: true; the input reads as it did. -/
def namesUptoRow : OpenClaim := { program := "ytcbkaiakdhiloaa", sum := "5f25ed97a2203a4aa0338dbc5972c0d93c000f8d55dcdfcfc57eb45caf0d17b8", func := "netboot/netbootlaw.Names", spec := "names", apart := false, narrowed := true }
def NamesUptoSaid : Prop := namesUptoRow.holds Try.pinned (OpenSpec.upto namesSpec)

/-- 'netbootlaw.Checks', WHERE WHAT IT READS IS OF BULK AT MOST 1048576: true; the input reads as it did. -/
def checksUptoRow : OpenClaim := { program := "ytcbkaiakdhiloaa", sum := "5f25ed97a2203a4aa0338dbc5972c0d93c000f8d55dcdfcfc57eb45caf0d17b8", func := "netboot/netbootlaw.Checks", spec := "checks", apart := false, narrowed := true }
def ChecksUptoSaid : Prop := checksUptoRow.holds Try.pinned (OpenSpec.upto checksSpec)

/-- 'netbootlaw.ARPWrites', WHERE WHAT IT READS IS OF BULK AT MOST 1048576: true; the input reads as it did. -/
def aRPWritesUptoRow : OpenClaim := { program := "ytcbkaiakdhiloaa", sum := "5f25ed97a2203a4aa0338dbc5972c0d93c000f8d55dcdfcfc57eb45caf0d17b8", func := "netboot/netbootlaw.ARPWrites", spec := "aRPWrites", apart := false, narrowed := true }
def ARPWritesUptoSaid : Prop := aRPWritesUptoRow.holds Try.pinned (OpenSpec.upto aRPWritesSpec)

/-- 'netbootlaw.EtherWrites', WHERE WHAT IT READS IS OF BULK AT MOST 1048576: true; the input reads as it did. -/
def etherWritesUptoRow : OpenClaim := { program := "ytcbkaiakdhiloaa", sum := "5f25ed97a2203a4aa0338dbc5972c0d93c000f8d55dcdfcfc57eb45caf0d17b8", func := "netboot/netbootlaw.EtherWrites", spec := "etherWrites", apart := false, narrowed := true }
def EtherWritesUptoSaid : Prop := etherWritesUptoRow.holds Try.pinned (OpenSpec.upto etherWritesSpec)

/-- 'netbootlaw.ARPReads', WHERE WHAT IT READS IS OF BULK AT MOST 1048576: true; the input reads as it did. -/
def aRPReadsUptoRow : OpenClaim := { program := "ytcbkaiakdhiloaa", sum := "5f25ed97a2203a4aa0338dbc5972c0d93c000f8d55dcdfcfc57eb45caf0d17b8", func := "netboot/netbootlaw.ARPReads", spec := "aRPReads", unfollowed := true, recurses := true, apart := false, narrowed := true }
def ARPReadsUptoSaid : Prop := aRPReadsUptoRow.holds Try.pinned (OpenSpec.upto aRPReadsSpec)

/-- 'netbootlaw.EtherReads', WHERE WHAT IT READS IS OF BULK AT MOST 1048576: true; the input reads as it did. -/
def etherReadsUptoRow : OpenClaim := { program := "ytcbkaiakdhiloaa", sum := "5f25ed97a2203a4aa0338dbc5972c0d93c000f8d55dcdfcfc57eb45caf0d17b8", func := "netboot/netbootlaw.EtherReads", spec := "etherReads", unfollowed := true, recurses := true, apart := false, narrowed := true }
def EtherReadsUptoSaid : Prop := etherReadsUptoRow.holds Try.pinned (OpenSpec.upto etherReadsSpec)

/-- 'netbootlaw.IPWrites', WHERE WHAT IT READS IS OF BULK AT MOST 1048576: true; the input reads as it did. -/
def iPWritesUptoRow : OpenClaim := { program := "ytcbkaiakdhiloaa", sum := "5f25ed97a2203a4aa0338dbc5972c0d93c000f8d55dcdfcfc57eb45caf0d17b8", func := "netboot/netbootlaw.IPWrites", spec := "iPWrites", unfollowed := true, recurses := true, apart := false, narrowed := true }
def IPWritesUptoSaid : Prop := iPWritesUptoRow.holds Try.pinned (OpenSpec.upto iPWritesSpec)

/-- 'netbootlaw.UDPWrites', WHERE WHAT IT READS IS OF BULK AT MOST 1048576: true; the input reads as it did. -/
def uDPWritesUptoRow : OpenClaim := { program := "ytcbkaiakdhiloaa", sum := "5f25ed97a2203a4aa0338dbc5972c0d93c000f8d55dcdfcfc57eb45caf0d17b8", func := "netboot/netbootlaw.UDPWrites", spec := "uDPWrites", unfollowed := true, recurses := true, apart := false, narrowed := true }
def UDPWritesUptoSaid : Prop := uDPWritesUptoRow.holds Try.pinned (OpenSpec.upto uDPWritesSpec)

/-- 'netbootlaw.IPReads', WHERE WHAT IT READS IS OF BULK AT MOST 1048576: true; the input reads as it did. -/
def iPReadsUptoRow : OpenClaim := { program := "ytcbkaiakdhiloaa", sum := "5f25ed97a2203a4aa0338dbc5972c0d93c000f8d55dcdfcfc57eb45caf0d17b8", func := "netboot/netbootlaw.IPReads", spec := "iPReads", unfollowed := true, recurses := true, apart := false, narrowed := true }
def IPReadsUptoSaid : Prop := iPReadsUptoRow.holds Try.pinned (OpenSpec.upto iPReadsSpec)

end Rows
end Go.Proofs.Ytcbkaiakdhiloaa
