/- Loops and blocks taken out of a function's code, each a text of its own; a frame as a function of its slots. No statement of the seat is proved here. -/
import Derived.Test.YtcbkaiakdhiloabDoorMem
set_option linter.unusedSimpArgs false
set_option linter.unusedVariables false
namespace Go.Proofs.YtcbkaiakdhiloabDoor
open Go.RowKit Go.Proofs

/-- the block of a number -/
def findBlock (n : Nat) : Code → Option Code
  | .block k c => if k == n then some (.block k c) else findBlock n c
  | .seq a b => match findBlock n a with
    | some c => some c
    | none => findBlock n b
  | .cond _ a b => match findBlock n a with
    | some c => some c
    | none => findBlock n b
  | .loop c => findBlock n c
  | .scope c => findBlock n c
  | _ => none
/-- a slot of a frame -/
def sl (a : Act) (k : Nat) : Value := a.tmps.getD k undef
/-- a frame of n slots, nothing deferred -/
structure Sz (n : Nat) (a : Act) : Prop where
  size : a.tmps.size = n
  defers : a.defers = []
def frN (n : Nat) (u : Nat → Value) : Act := ⟨((List.range n).map u).toArray, []⟩
theorem Sz.eq {n : Nat} {a : Act} (h : Sz n a) : a = frN n (sl a) := by
  obtain ⟨t, d⟩ := a
  obtain ⟨h1, h2⟩ := h
  simp only at h1 h2
  subst h2
  unfold frN
  congr 1
  apply Array.ext
  · simp [h1]
  · intro i h3 h4
    simp [sl, Array.getD, h3]
theorem frN_sl {n : Nat} {u : Nat → Value} {k : Nat} (h : k < n) : sl (frN n u) k = u k := by simp [sl, frN, Array.getD, h]
theorem Sz.fr (n : Nat) (u : Nat → Value) : Sz n (frN n u) := ⟨by simp [frN], rfl⟩
section
variable {P : Program} {Q : Exit → Act → World → Prop} {a : Act} {w : World}
theorem wp_if {k : Nat} {x y : Code} {b : Bool} (h : sl a k = .bool b) (h1 : b = true → x.wp P Q a w) (h2 : b = false → y.wp P Q a w) : (Code.cond (.tmp k) x y).wp P Q a w :=
  wp_cond_split (c := .tmp k) h h1 h2
/-- a loop over frames of n slots -/
theorem wp_loop_sz {c : Code} (n : Nat) (Rel : Act → World → Prop) (mu : Act → World → Nat) (h0 : Sz n a) (h1 : Rel a w)
    (round : ∀ a w, Sz n a → Rel a w → c.wp P (Exit.then (fun a' w' => Sz n a' ∧ Rel a' w' ∧ mu a' w' < mu a w) Q) a w) : (Code.loop c).wp P Q a w := by
  refine wp_loop (fun a' w' => Sz n a' ∧ Rel a' w') mu ⟨h0, h1⟩ ?_
  rintro a' w' ⟨e, hr⟩
  exact wp_mono (round a' w' e hr) fun ex a2 w2 hq => by
    cases ex with
    | normal => exact ⟨⟨hq.1, hq.2.1⟩, hq.2.2⟩
    | _ => exact hq
end
/-- the region of a number -/
def findRegion (n : Nat) : Code → Option Code
  | .region k ops d => if k == n then some (.region k ops d) else none
  | .block _ c => findRegion n c
  | .seq a b => match findRegion n a with
    | some c => some c
    | none => findRegion n b
  | .cond _ a b => match findRegion n a with
    | some c => some c
    | none => findRegion n b
  | .loop c => findRegion n c
  | .scope c => findRegion n c
  | _ => none
noncomputable def regionOf (f : Func) (n : Nat) : Code := (f.body.bind (findRegion n)).getD .skip
noncomputable def blockOf (f : Func) (n : Nat) : Code := (f.body.bind (findBlock n)).getD .skip
/-- the slots of l are as they were -/
def Kp (l : List Nat) (a a' : Act) : Prop := ∀ k ∈ l, sl a' k = sl a k
def KpU (l : List Nat) (u : Nat → Value) (a' : Act) : Prop := ∀ k ∈ l, sl a' k = u k
theorem KpU.nil (u : Nat → Value) (a : Act) : KpU [] u a := fun k h => by cases h
theorem KpU.cons {k : Nat} {l : List Nat} {u : Nat → Value} {a : Act} (h : sl a k = u k) (hl : KpU l u a) : KpU (k :: l) u a := List.forall_mem_cons.2 ⟨h, hl⟩
theorem Kp.trans {l l' : List Nat} {a b c : Act} (h : Kp l a b) (k : Kp l' b c) (hl : ∀ x ∈ l', x ∈ l) : Kp l' a c := fun x hx => (k x hx).trans (h x (hl x hx))
theorem Kp.refl (l : List Nat) (a : Act) : Kp l a a := fun _ _ => rfl
theorem inBlock_self {id : Nat} {Q : Exit → Act → World → Prop} {a : Act} {w : World} (h : Q .normal a w) : Exit.inBlock id Q (.exit id) a w := by simp only [Exit.inBlock, if_true]; exact h
theorem then_exit {id : Nat} {K : Act → World → Prop} {Q : Exit → Act → World → Prop} {a : Act} {w : World} (h : Q (.exit id) a w) : Exit.then K Q (.exit id) a w := h
end Go.Proofs.YtcbkaiakdhiloabDoor
