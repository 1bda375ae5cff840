/- A block of bytes that a conversion of a text has made. No statement of the seat is proved here. -/
import Derived.Test.YtcbkaiakdhiloabDoorMem
import Derived.Lib.ConvBytes
set_option linter.unusedSimpArgs false
set_option linter.unusedVariables false
namespace Go.Proofs.YtcbkaiakdhiloabDoor
open Go.RowKit Go.Proofs

/-- Block g is a row of bytes that may be written. -/
structure ByB (w : World) (g : Nat) (l : List UInt8) : Prop where
  lt : g < w.heap.size
  cell : ∀ j (b : UInt8), l[j]? = some b → w.cell? ⟨g, j, none⟩ = some (.int .u8 (b.toNat : Int))
  free : ∀ j, j < l.length → w.frozen? ⟨g, j, none⟩ = false
section
variable {S : Nat → Prop} {w w' : World} {g : Nat} {l : List UInt8}
theorem ByB.new (w : World) (e : TypeId) (l : List UInt8) : ByB (Go.Lib.bytesWorld w e (bs l)) w.heap.size l := by
  refine ⟨by rw [Go.Lib.bytesWorld_size]; omega, fun j b hb => ?_, fun j hj => ?_⟩
  · have hj : j < l.length := by
      rcases Nat.lt_or_ge j l.length with h | h
      · exact h
      · rw [List.getElem?_eq_none h] at hb; cases hb
    have h := Go.Lib.bytesWorld_cell w e (bs l) j (by rw [bs_size]; exact hj)
    rw [bs_list] at h
    rw [h]
    simp [List.getD, hb]
  · have h := Go.Lib.bytesWorld_at_new w e (bs l)
    have hs : l.length ≤ (Go.Lib.bytesCells w e (bs l)).size := by
      unfold Go.Lib.bytesCells
      simp [bs]
    simp [World.frozen?, h]
    omega
theorem ByB.fr (w : World) (e : TypeId) (l : List UInt8) : Fr noB w (Go.Lib.bytesWorld w e (bs l)) :=
  ⟨rfl, rfl, rfl, by rw [Go.Lib.bytesWorld_size]; omega, fun k hk _ => Go.Lib.bytesWorld_at_old w _ _ k hk⟩
theorem ByB.keep (h : ByB w g l) (hf : Fr S w w') (hg : ¬ S g) : ByB w' g l :=
  ⟨Nat.lt_of_lt_of_le h.lt hf.size, fun j b hb => (hf.cell (a := ⟨g, j, none⟩) h.lt hg).trans (h.cell j b hb), fun j hj => (hf.frozen (a := ⟨g, j, none⟩) h.lt hg).trans (h.free j hj)⟩
theorem ByB.set (h : ByB w g l) (k : Nat) (b : UInt8) (hk : k < l.length) : ByB (w.setCell ⟨g, k, none⟩ (.int .u8 (b.toNat : Int))) g (l.set k b) := by
  refine ⟨by simpa [World.setCell] using h.lt, fun j c hc => ?_, fun j hj => ?_⟩
  · by_cases hjk : j = k
    · subst hjk
      rw [List.getElem?_set_self hk] at hc
      injection hc with hc
      subst hc
      obtain ⟨old, ho⟩ : ∃ old, w.cell? ⟨g, j, none⟩ = some old := ⟨_, h.cell j l[j] (List.getElem?_eq_getElem hk)⟩
      exact World.cell?_setCell_same _ _ _ ho
    · rw [List.getElem?_set_ne (fun e => hjk e.symm)] at hc
      exact (World.cell?_setCell_other _ _ _ _ (by intro e; injection e with _ e2; exact hjk e2.symm)).trans (h.cell j c hc)
  · rw [List.length_set] at hj
    have := h.free j hj
    simpa [World.frozen?_setCell] using this
theorem ByB.slr (h : ByB w g l) (hg : ¬ S g) : SlR w S 1 (some ⟨g, 0, none⟩) l.length (u8s l) := by
  refine ⟨by simp [u8s_length], fun _ => ⟨_, rfl, h.lt, hg, fun j u hu => ?_⟩⟩
  rw [addr_add, Nat.zero_add]
  simp only [u8s, List.getElem?_map, Option.map_eq_some_iff] at hu
  obtain ⟨b, hb, rfl⟩ := hu
  exact h.cell j b hb
end
end Go.Proofs.YtcbkaiakdhiloabDoor
