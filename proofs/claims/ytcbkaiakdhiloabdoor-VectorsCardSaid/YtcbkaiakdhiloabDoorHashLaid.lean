/- What the listed variables of the package hash read as: the words that SHA-256 begins with, and those of its rounds. -/
import Derived.Test.YtcbkaiakdhiloabDoorRow
import Derived.Test.YtcbkaiakdhiloabDoorBootHash
import Derived.LaidMore
import Derived.OpenShut
import Derived.Stop.Joined
set_option linter.unusedSimpArgs false
set_option linter.unusedVariables false
namespace Go.Proofs.YtcbkaiakdhiloabDoor
open Go.ChangeShapes Go.WideShapes Go.ChangeAt Go.WideMaps Go.WideElems Go.RowKit Go.Proofs

theorem gBegin : Tryd.prog.globalNamed "netboot/hash.begin" = some 2 := by kernel_rfl
theorem gRounds : Tryd.prog.globalNamed "netboot/hash.rounds" = some 3 := by kernel_rfl
theorem tBegin : (Tryd.prog.globals[2]?).map (·.type) = some 72 := by kernel_rfl
theorem tRounds : (Tryd.prog.globals[3]?).map (·.type) = some 117 := by kernel_rfl
theorem cOf32 : Tryd.prog.cellsOf 25 = 1 := by kernel_rfl
def wordsD {H : Type} (l : List UInt32) : DataW H := .agg (l.map fun x => .lit (.int .u32 (x.toNat : Int)))
theorem begin_words {H : Type} : (Rows.laid_netboot_hash_begin : DataW H) = wordsD h0.list := by rfl
theorem rounds_words {H : Type} : (Rows.laid_netboot_hash_rounds : DataW H) = wordsD kTab := by rfl
theorem at_mid {α : Type} {x : α} (l : List α) (i : Nat) (h : (l.drop i).take 1 = [x]) : l[i]? = some x := by
  have h1 : ((l.drop i).take 1)[0]? = some x := by rw [h]; rfl
  rw [List.getElem?_take, if_pos (by omega), List.getElem?_drop] at h1
  simpa using h1
/-- cells that read as words -/
theorem cells_words {H : Type} {enc : TypeId × Value → H} {W : World} {base : Nat} {spare : Nat → Bool} {held : Bool} {fuel n : Nat} {t : TypeId} {cs : List Value} {l : List UInt32} {ps : List MemPlace}
    (ht : Tryd.prog.underlying t = some (.array n 25)) (hn : l.length = n) (h : DataW.trod enc Tryd.prog W base spare held fuel t cs = some (wordsD l, ps)) :
    ∀ (i : Nat) (x : UInt32), l[i]? = some x → cs[i]? = some (.int .u32 (x.toNat : Int)) := by
  intro i x hx
  obtain ⟨xs, m, rfl, hx1, hlen, hxs, hel⟩ := DataW.trod_array ht h
  simp only [Prod.mk.injEq, wordsD, DataW.agg.injEq] at hx1
  have hil : i < l.length := by
    rcases Nat.lt_or_ge i l.length with h | h
    · exact h
    · rw [List.getElem?_eq_none h] at hx; cases hx
  have h1 := hel i (by omega)
  rw [cOf32, Nat.mul_one] at h1
  obtain ⟨y, hy⟩ : ∃ y, xs[i]? = some y := ⟨_, List.getElem?_eq_getElem (by omega)⟩
  rw [hy] at h1
  obtain ⟨k, e1, e2, _⟩ := DataW.trod_int Tryd.underlying25 h1
  have h2 := congrArg (fun q => q[i]?) hx1.1
  simp only [List.getElem?_map, hx, hy, Option.map_some] at h2
  rw [e2] at h2
  have hk : k = (x.toNat : Int) := by
    have h3 := Option.some.inj h2
    simp only [DataW.lit.injEq, Lit.int.injEq, true_and] at h3
    exact h3.symm
  rw [hk] at e1
  exact at_mid cs i e1
end Go.Proofs.YtcbkaiakdhiloabDoor
