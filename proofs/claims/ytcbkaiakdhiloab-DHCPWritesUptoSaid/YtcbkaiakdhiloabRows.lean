/-
  No cell of these rows narrows 'for every input' (looked for: loops, veiled, ifaces, maps, wideKeys, modest, calm, conditions, laid).
  DERIVED. THE GIVEN ROWS OF THIS SEAT. 4 by the template 'for every input the law returns true; each argument reads behind the call as it read before'; 0 by the template 'total and deterministic' (their statements: YtcbkaiakdhiloabTotals.lean).
  GIVEN WITH THE SEED: the statements are not yours to turn. If you find one false, say at which input.
  Laid BY PROGRAM, IN A SANDBOX (cutbox-rows.mjs): the forced cells as the released guide's own fill.sh prints them over the translation e413e49f01703712… (all of the seat's roots in one cut). By AI agents, Wed Nov 11 2026. No macro, syntax, notation, axiom, sorry.
-/
import Derived.Test.YtcbkaiakdhiloabChecked
import GoSem.Claim
import GoSem.ClaimJoined
import GoSem.ClaimMapViews
import Derived.JoinedTies
import Derived.KernelRfl
namespace Go.Proofs.Ytcbkaiakdhiloab
/- THE CELL 'sum', in the pinned program and in every row, IS THE sha256 OF THE DUMP (.gsa) THAT YtcbkaiakdhiloabProg.lean LOADS. Nothing in Lean hashes anything: it is a label: what it is worth is what the hold of that sum in a sandbox is worth. -/
noncomputable def Try.pinned : Pinned := { name := "ytcbkaiakdhiloab", sum := "e413e49f0170371243b9ac8e7bdbd4917573adebad3bf4a85ee8dd5e8421f672", checked := Try.checked }
namespace Rows
def none {H : Type} : Left H := { results := [], args := [] }

/-- 'netbootlaw.DHCPWrites': WHATEVER THE INPUT: true; the input reads as it did. -/
def dHCPWritesSpec : ChangeSpec := { name := "dHCPWrites", fn := fun _ => fun
  | [d] => { results := [.lit (.bool true)], args := [d] }
  | _ => none }
def dHCPWritesRow : OpenClaim := { program := "ytcbkaiakdhiloab", sum := "e413e49f0170371243b9ac8e7bdbd4917573adebad3bf4a85ee8dd5e8421f672", func := "netboot/netbootlaw.DHCPWrites", spec := "dHCPWrites", apart := false }
def DHCPWritesSaid : Prop := dHCPWritesRow.holds Try.pinned (OpenSpec.ofChange dHCPWritesSpec)

/-- ITS FALSE NEIGHBOUR: 'it returns false'. Refute it at one input. -/
def dHCPWritesWrong : ChangeSpec := { name := "dHCPWrites", fn := fun _ => fun
  | [d] => { results := [.lit (.bool false)], args := [d] }
  | _ => none }
def DHCPWritesWrongFalsely : Prop := dHCPWritesRow.holds Try.pinned (OpenSpec.ofChange dHCPWritesWrong)

/-- 'netbootlaw.UDPReads': WHATEVER THE INPUT: true; the input reads as it did. -/
def uDPReadsSpec : ChangeSpec := { name := "uDPReads", fn := fun _ => fun
  | [d1, d2, d3] => { results := [.lit (.bool true)], args := [d1, d2, d3] }
  | _ => none }
def uDPReadsRow : OpenClaim := { program := "ytcbkaiakdhiloab", sum := "e413e49f0170371243b9ac8e7bdbd4917573adebad3bf4a85ee8dd5e8421f672", func := "netboot/netbootlaw.UDPReads", spec := "uDPReads", unfollowed := true, recurses := true, apart := false }
def UDPReadsSaid : Prop := uDPReadsRow.holds Try.pinned (OpenSpec.ofChange uDPReadsSpec)

/-- ITS FALSE NEIGHBOUR: 'it returns false'. Refute it at one input. -/
def uDPReadsWrong : ChangeSpec := { name := "uDPReads", fn := fun _ => fun
  | [d1, d2, d3] => { results := [.lit (.bool false)], args := [d1, d2, d3] }
  | _ => none }
def UDPReadsWrongFalsely : Prop := uDPReadsRow.holds Try.pinned (OpenSpec.ofChange uDPReadsWrong)

/-- 'netbootlaw.DHCPReads': WHATEVER THE INPUT: true; the input reads as it did. -/
def dHCPReadsSpec : ChangeSpec := { name := "dHCPReads", fn := fun _ => fun
  | [d] => { results := [.lit (.bool true)], args := [d] }
  | _ => none }
def dHCPReadsRow : OpenClaim := { program := "ytcbkaiakdhiloab", sum := "e413e49f0170371243b9ac8e7bdbd4917573adebad3bf4a85ee8dd5e8421f672", func := "netboot/netbootlaw.DHCPReads", spec := "dHCPReads", unfollowed := true, recurses := true, apart := false }
def DHCPReadsSaid : Prop := dHCPReadsRow.holds Try.pinned (OpenSpec.ofChange dHCPReadsSpec)

/-- ITS FALSE NEIGHBOUR: 'it returns false'. Refute it at one input. -/
def dHCPReadsWrong : ChangeSpec := { name := "dHCPReads", fn := fun _ => fun
  | [d] => { results := [.lit (.bool false)], args := [d] }
  | _ => none }
def DHCPReadsWrongFalsely : Prop := dHCPReadsRow.holds Try.pinned (OpenSpec.ofChange dHCPReadsWrong)

/-- 'netbootkeep.Spoilt': WHATEVER THE INPUT: true; the input reads as it did. -/
def spoiltSpec : ChangeSpec := { name := "spoilt", fn := fun _ => fun
  | [d1, d2, d3] => { results := [.lit (.bool true)], args := [d1, d2, d3] }
  | _ => none }
def spoiltRow : OpenClaim := { program := "ytcbkaiakdhiloab", sum := "e413e49f0170371243b9ac8e7bdbd4917573adebad3bf4a85ee8dd5e8421f672", func := "netboot/netbootkeep.Spoilt", spec := "spoilt", unfollowed := true, recurses := true, apart := false }
def SpoiltSaid : Prop := spoiltRow.holds Try.pinned (OpenSpec.ofChange spoiltSpec)

/-- ITS FALSE NEIGHBOUR: 'it returns false'. Refute it at one input. -/
def spoiltWrong : ChangeSpec := { name := "spoilt", fn := fun _ => fun
  | [d1, d2, d3] => { results := [.lit (.bool false)], args := [d1, d2, d3] }
  | _ => none }
def SpoiltWrongFalsely : Prop := spoiltRow.holds Try.pinned (OpenSpec.ofChange spoiltWrong)

/- THE SECOND FORM. 'bulk': how many values and letters a reading holds, each counted each time it is reached (what is shared counts as often as it is met; a slice's spare places count too). A statement '..UptoSaid' is the law's where the arguments, and the package variables that the reading takes, are together of bulk at most 1048576: NARROWER than '..Said'. Prove '..Said' where nothing that the law and all that it calls make is longer than what came in: it says more and counts as full. Else prove '..UptoSaid'. A law counts once. -/
mutual
def uptoBulk {H : Type} : DataW H → Nat
  | .lit (.string bytes) => bytes.length + 1
  | .lit _ => 1
  | .nil => 1
  | .ptr d => uptoBulk d + 1
  | .slice elems spare => uptoBulkAll elems + uptoBulkAll spare + 1
  | .agg parts => uptoBulkAll parts + 1
  | .iface _ d => uptoBulk d + 1
  | .map entries => uptoBulkEntries entries + 1
  | .held _ => 1
def uptoBulkAll {H : Type} : List (DataW H) → Nat
  | [] => 0
  | d :: r => uptoBulk d + uptoBulkAll r
def uptoBulkEntries {H : Type} : List (Lit × DataW H) → Nat
  | [] => 0
  | x :: r => uptoBulkEntry x + uptoBulkEntries r
def uptoBulkEntry {H : Type} : Lit × DataW H → Nat
  | (.string bytes, d) => bytes.length + uptoBulk d + 1
  | (_, d) => uptoBulk d + 1
 end
def uptoSmall : (H : Type) → List (DataW H) → Bool := fun _ ds => decide (uptoBulkAll ds ≤ 1048576)
def OpenSpec.upto (s : _root_.Go.ChangeSpec) : _root_.Go.OpenSpec := { _root_.Go.OpenSpec.ofChange s with cond := some uptoSmall }

/-- 'netbootlaw.DHCPWrites', WHERE WHAT IT READS IS OF BULK AT MOST 1048576: true; the input reads as it did. -/
def dHCPWritesUptoRow : OpenClaim := { program := "ytcbkaiakdhiloab", sum := "e413e49f0170371243b9ac8e7bdbd4917573adebad3bf4a85ee8dd5e8421f672", func := "netboot/netbootlaw.DHCPWrites", spec := "dHCPWrites", apart := false, narrowed := true }
def DHCPWritesUptoSaid : Prop := dHCPWritesUptoRow.holds Try.pinned (OpenSpec.upto dHCPWritesSpec)

/-- 'netbootlaw.UDPReads', WHERE WHAT IT READS IS OF BULK AT MOST 1048576: true; the input reads as it did. -/
def uDPReadsUptoRow : OpenClaim := { program := "ytcbkaiakdhiloab", sum := "e413e49f0170371243b9ac8e7bdbd4917573adebad3bf4a85ee8dd5e8421f672", func := "netboot/netbootlaw.UDPReads", spec := "uDPReads", unfollowed := true, recurses := true, apart := false, narrowed := true }
def UDPReadsUptoSaid : Prop := uDPReadsUptoRow.holds Try.pinned (OpenSpec.upto uDPReadsSpec)

/-- 'netbootlaw.DHCPReads', WHERE WHAT IT READS IS OF BULK AT MOST 1048576: true; the input reads as it did. -/
def dHCPReadsUptoRow : OpenClaim := { program := "ytcbkaiakdhiloab", sum := "e413e49f0170371243b9ac8e7bdbd4917573adebad3bf4a85ee8dd5e8421f672", func := "netboot/netbootlaw.DHCPReads", spec := "dHCPReads", unfollowed := true, recurses := true, apart := false, narrowed := true }
def DHCPReadsUptoSaid : Prop := dHCPReadsUptoRow.holds Try.pinned (OpenSpec.upto dHCPReadsSpec)

/-- 'netbootkeep.Spoilt', WHERE WHAT IT READS IS OF BULK AT MOST 1048576: true; the input reads as it did. -/
def spoiltUptoRow : OpenClaim := { program := "ytcbkaiakdhiloab", sum := "e413e49f0170371243b9ac8e7bdbd4917573adebad3bf4a85ee8dd5e8421f672", func := "netboot/netbootkeep.Spoilt", spec := "spoilt", unfollowed := true, recurses := true, apart := false, narrowed := true }
def SpoiltUptoSaid : Prop := spoiltUptoRow.holds Try.pinned (OpenSpec.upto spoiltSpec)

end Rows
end Go.Proofs.Ytcbkaiakdhiloab
