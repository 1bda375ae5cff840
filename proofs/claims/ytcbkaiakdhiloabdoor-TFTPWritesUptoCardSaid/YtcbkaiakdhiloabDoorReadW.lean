/- octets.Read: what a reading function and Read leave, where the result's meaning lies in memory. Written by mkreadw.py. -/
import Derived.Test.YtcbkaiakdhiloabDoorReadBase
set_option linter.unusedSimpArgs false
set_option linter.unusedVariables false
namespace Go.Proofs.YtcbkaiakdhiloabDoor
open Go.RowKit Go.Proofs
/-- a block, and those of S -/
def orB (p : Nat) (S : Nat → Prop) : Nat → Prop := fun k => k = p ∨ S k
def byPostW (S : Nat → Prop) (ok : Value → World → Prop) (bad : Int → Prop) (p : Nat) (w : World) (e : Ending) (w' : World) : Prop :=
  ((∃ x, ok x w' ∧ e = .returned x) ∨ (∃ er, bad er ∧ e = .panicked (faultC er))) ∧ Fr (orB p S) w w'
def readPostW (z : Value) (S : Nat → Prop) (ok : Value → World → Prop) (bad : Int → Prop) (w : World) (e : Ending) (w' : World) : Prop :=
  ((∃ x, ok x w' ∧ e = .returned (.tuple #[x, .int .i64 0])) ∨ (∃ er, bad er ∧ e = .returned (.tuple #[z, .int .i64 er]))) ∧ Fr S w w'
/-- two results in memory: two whole numbers -/
theorem results_int_int {P : Program} {fn : Func} {p q : Tmp} {ty te : TypeId} (h : fn.results = #[.cell p ty, .cell q te]) (tmps : Array Value) (w : World) (g ge : Nat) (t t2 : TypeId) (m n : Int) (k0 k : IntKind)
    (hp : tmps.getD p undef = .pointer (some ⟨g, 0, none⟩)) (hq : tmps.getD q undef = .pointer (some ⟨ge, 0, none⟩)) (hg : Bk w g t #[.int k0 m]) (he : Bk w ge t2 #[.int .i64 n])
    (hu : P.underlying ty = some (.int k0)) (hue : P.underlying te = some (.int k)) :
    (results fn tmps).run P w = .ok (.tuple #[.int k0 m, .int .i64 n]) w := by
  have hp' : tmps[p]?.getD undef = .pointer (some ⟨g, 0, none⟩) := by simpa using hp
  have hq' : tmps[q]?.getD undef = .pointer (some ⟨ge, 0, none⟩) := by simpa using hq
  have hc := he.cells
  have hc1 := hg.cells
  have h1 : (loadVar ty ⟨g, 0, none⟩).run P w = .ok (.int k0 m) w := by
    have hc0 := hc1 0
    simp at hc0
    simp [go_sem, isAgg, run_underlying hu, hc0]
  have h2 : (loadVar te ⟨ge, 0, none⟩).run P w = .ok (.int .i64 n) w := by
    have hc0 := hc 0
    simp at hc0
    simp [go_sem, isAgg, run_underlying hue, hc0]
  simp [results, h, hp', hq', asAddr, h1, h2]
end Go.Proofs.YtcbkaiakdhiloabDoor
