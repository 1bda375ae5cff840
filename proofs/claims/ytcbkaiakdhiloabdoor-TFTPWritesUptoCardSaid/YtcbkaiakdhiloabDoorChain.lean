/- Words for a region that draws its order and holds a chain of calls of one writer, each with a slice made for it: what stands of the writer, and of the slices that are made. -/
import Derived.Test.YtcbkaiakdhiloabDoorRegU
import Derived.Test.YtcbkaiakdhiloabDoorOctW
set_option linter.unusedSimpArgs false
set_option linter.unusedVariables false
namespace Go.Proofs.YtcbkaiakdhiloabDoor
open Go.RowKit Go.Proofs

/-- A slice that was made (if it was), beside the writer's row. -/
def AlS (L : Bool) (v : Value) (n : Nat) (t : TypeId) (cells : Array Value) (B : Nat) (A : Option Addr) (w : World) : Prop :=
  L = true → ∃ g, v = .slice (some ⟨g, 0, none⟩) n n ∧ Bk w g t cells ∧ B ≤ g ∧ ∀ a, A = some a → a.block ≠ g
/-- The writer at p holds l; its row is new since w1; nothing else of w1's has turned. -/
structure Chn (w1 : World) (p B : Nat) (A : Option Addr) (l : List UInt8) (w : World) : Prop where
  wr : Wr w p A l
  row : ∀ a, A = some a → B ≤ a.block
  fr : Fr (oneB p) w1 w
  eB : B = w1.heap.size
  lt : p < B
section
variable {w1 w w' : World} {p B n : Nat} {A : Option Addr} {l l' : List UInt8} {L : Bool} {v : Value} {t : TypeId} {cs : Array Value}
theorem Wr.row_lt (h : Wr w p A l) : ∀ a, A = some a → a.block < w.heap.size := by
  obtain ⟨cap, hb, hown, hne⟩ := h
  rintro a rfl
  exact (hown.lt a.block rfl).2
theorem Wr.alloc (h : Wr w p A l) (o : Obj) : Wr (w.alloc o) p A l := h.keep (S := noB) ((Fr.refl _ _).alloc o) (fun _ _ _ x => x)
theorem Wr.drew (h : Wr w p A l) : Wr w.drew p A l := h.keep (S := noB) ((Fr.refl _ _).drew) (fun _ _ _ x => x)
theorem Chn.start (h : Wr w1 p A l) (hA : A = none) : Chn w1 p w1.heap.size A l w1.drew :=
  ⟨h.drew, (fun a e => by rw [hA] at e; cases e), (Fr.refl _ _).drew, rfl, h.lt⟩
theorem Chn.start0 (h : Wr w1 p A l) (hA : A = none) : Chn w1 p w1.heap.size A l w1 :=
  ⟨h, (fun a e => by rw [hA] at e; cases e), (Fr.refl _ _), rfl, h.lt⟩
theorem Chn.alloc (h : Chn w1 p B A l w) (o : Obj) : Chn w1 p B A l (w.alloc o) := ⟨h.wr.alloc o, h.row, h.fr.alloc o, h.eB, h.lt⟩
/-- a call that leaves all old memory alone -/
theorem Chn.quiet (h : Chn w1 p B A l w) (hf : Fr noB w w') : Chn w1 p B A l w' := ⟨h.wr.keep hf (fun _ _ _ x => x), h.row, h.fr.none hf, h.eB, h.lt⟩
theorem Chn.call (h : Chn w1 p B A l w) (hw : Wto w p A w' l') :
    ∃ A', Chn w1 p B A' l' w' ∧ ∀ (L : Bool) (v : Value) (n : Nat) (t : TypeId) (cs : Array Value), AlS L v n t cs B A w → AlS L v n t cs B A' w' := by
  obtain ⟨A', W', fr', at'⟩ := hw
  have hB := h.eB
  have hp := h.lt
  have hsz := h.fr.size
  refine ⟨A', ⟨W', ?_, h.fr.trans' fr' ?_, hB, hp⟩, ?_⟩
  · intro a' e
    rcases at' a' e with h1 | ⟨a, ea, h1⟩
    · omega
    · rw [← h1]; exact h.row a ea
  · rintro b hb (rfl | ⟨a, ea, rfl⟩)
    · rfl
    · have := h.row a ea; omega
  · intro L v n t cs hal hL
    obtain ⟨g, hv, hb, hg, hne⟩ := hal hL
    have hgl := hb.lt
    refine ⟨g, hv, hb.keep fr' ?_, hg, ?_⟩
    · rintro (e | ⟨a, ea, e⟩)
      · omega
      · exact hne a ea e
    · intro a' e
      rcases at' a' e with h1 | ⟨a, ea, h1⟩
      · omega
      · rw [← h1]; exact hne a ea
theorem AlS.alloc (h : AlS L v n t cs B A w) (o : Obj) : AlS L v n t cs B A (w.alloc o) := fun hL => by
  obtain ⟨g, hv, hb, hg, hne⟩ := h hL
  exact ⟨g, hv, hb.alloc o, hg, hne⟩
theorem AlS.quiet (h : AlS L v n t cs B A w) (hf : Fr noB w w') : AlS L v n t cs B A w' := fun hL => by
  obtain ⟨g, hv, hb, hg, hne⟩ := h hL
  exact ⟨g, hv, hb.keep hf (fun x => x), hg, hne⟩
theorem AlS.new (h : Chn w1 p B A l w) (n : Nat) (t : TypeId) (cs : Array Value) : AlS L (.slice (some ⟨w.heap.size, 0, none⟩) n n) n t cs B A (w.alloc (.cells cs t)) := fun _ =>
  ⟨w.heap.size, rfl, Bk.new w t cs, by have := h.fr.size; have := h.eB; omega, fun a e => by have := h.wr.row_lt a e; omega⟩
theorem AlS.not {g : Nat} (h : Chn w1 p B A l w) (hg : B ≤ g) (hne : ∀ a, A = some a → a.block ≠ g) : ¬ wrS p A g := by
  have := h.lt
  rintro (e | ⟨a, ea, e⟩)
  · omega
  · exact hne a ea e
end
theorem AlS.false {v : Value} {n : Nat} {t : TypeId} {cs : Array Value} {B : Nat} {A : Option Addr} {w : World} : AlS false v n t cs B A w := fun h => by cases h
theorem AlS.new0 {L : Bool} (w : World) (n : Nat) (t : TypeId) (cs : Array Value) : AlS L (.slice (some ⟨w.heap.size, 0, none⟩) n n) n t cs 0 none (w.alloc (.cells cs t)) := fun _ =>
  ⟨w.heap.size, rfl, Bk.new w t cs, Nat.zero_le _, fun a e => by cases e⟩
/-- a writer that has nothing yet -/
theorem Wr.zero {w : World} {p : Nat} (h : Bk w p 89 #[.slice none 0 0]) : Wr w p none [] :=
  ⟨0, h, ⟨by simp [u8s], .inl ⟨rfl, rfl⟩⟩, fun a e => by cases e⟩
/-- a text and an error are handed back -/
def strPost (r : List UInt8 × Nat) (w : World) (e : Ending) (w' : World) : Prop := e = .returned (.tuple #[.string (bs r.1), .int .i64 (r.2 : Int)]) ∧ Fr noB w w'
end Go.Proofs.YtcbkaiakdhiloabDoor
