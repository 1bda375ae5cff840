/- What octets.Read's contracts at every type share. -/
import Derived.Test.YtcbkaiakdhiloabDoorOctR
import Derived.Recover
set_option linter.unusedSimpArgs false
set_option linter.unusedVariables false
namespace Go.Proofs.YtcbkaiakdhiloabDoor
open Go.RowKit Go.Proofs

/-- two blocks: those of Read's results -/
def twoB (a b : Nat) : Nat → Prop := fun k => k = a ∨ k = b
theorem fault_is (er : Int) (w : World) : (Instr.typeAssert (.iface 106 (.agg #[.int .i64 er])) 20 106 true).run Tryd.prog w = .ok (.tuple #[.agg #[.int .i64 er], .bool true]) w := by kernel_rfl
def readPost (z : Array Value) (ok : Array Value → Prop) (bad : Int → Prop) (w : World) (e : Ending) (w' : World) : Prop :=
  ((∃ x, ok x ∧ e = .returned (.tuple #[.agg x, .int .i64 0])) ∨ (∃ er, bad er ∧ e = .returned (.tuple #[.agg z, .int .i64 er]))) ∧ Fr noB w w'
/-- what a reading function (the argument of Read) leaves -/
def byPost (ok : Array Value → Prop) (bad : Int → Prop) (p : Nat) (w : World) (e : Ending) (w' : World) : Prop :=
  ((∃ x, ok x ∧ e = .returned (.agg x)) ∨ (∃ er, bad er ∧ e = .panicked (faultC er))) ∧ Fr (oneB p) w w'
/-- two results in memory: a struct, and a whole number -/
theorem results_row_int {P : Program} {fn : Func} {p q : Tmp} {ty te : TypeId} (h : fn.results = #[.cell p ty, .cell q te]) (tmps : Array Value) (w : World) (g ge : Nat) (t t2 : TypeId) (cs : Array Value) (n : Int) (d : TypeDesc) (k : IntKind)
    (hp : tmps.getD p undef = .pointer (some ⟨g, 0, none⟩)) (hq : tmps.getD q undef = .pointer (some ⟨ge, 0, none⟩)) (hg : Bk w g t cs) (he : Bk w ge t2 #[.int .i64 n])
    (hu : P.underlying ty = some d) (hd : (match d with | .struct _ | .array _ _ => true | _ => false) = true) (hi : (P.info? ty).map (·.size) = some cs.size) (hue : P.underlying te = some (.int k)) :
    (results fn tmps).run P w = .ok (.tuple #[.agg cs, .int .i64 n]) w := by
  have hp' : tmps[p]?.getD undef = .pointer (some ⟨g, 0, none⟩) := by simpa using hp
  have hq' : tmps[q]?.getD undef = .pointer (some ⟨ge, 0, none⟩) := by simpa using hq
  have hc := he.cells
  have h1 := run_loadVar_row w g t ty cs (0, 0) d hg hu hd hi
  have h2 : (loadVar te ⟨ge, 0, none⟩).run P w = .ok (.int .i64 n) w := by
    have hc0 := hc 0
    simp at hc0
    simp [go_sem, isAgg, run_underlying hue, hc0]
  simp [results, h, hp', hq', asAddr, h1, h2]
/-- two results: a struct in memory, and a slot -/
theorem results_row_tmp {P : Program} {fn : Func} {p q : Tmp} {ty : TypeId} (h : fn.results = #[.cell p ty, .tmp q]) (tmps : Array Value) (w : World) (g : Nat) (t : TypeId) (cs : Array Value) (v : Value) (d : TypeDesc)
    (hp : tmps.getD p undef = .pointer (some ⟨g, 0, none⟩)) (hq : tmps.getD q undef = v) (hg : Bk w g t cs)
    (hu : P.underlying ty = some d) (hd : (match d with | .struct _ | .array _ _ => true | _ => false) = true) (hi : (P.info? ty).map (·.size) = some cs.size) :
    (results fn tmps).run P w = .ok (.tuple #[.agg cs, v]) w := by
  have hp' : tmps[p]?.getD undef = .pointer (some ⟨g, 0, none⟩) := by simpa using hp
  have hq' : tmps[q]?.getD undef = v := by simpa using hq
  have h1 := run_loadVar_row w g t ty cs (0, 0) d hg hu hd hi
  simp [results, h, hp', hq', asAddr, h1]
end Go.Proofs.YtcbkaiakdhiloabDoor
