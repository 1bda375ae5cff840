/- pick of the package netbootkeep; a block of bytes that a text was turned into. -/
import Derived.Test.YtcbkaiakdhiloabMem
import Derived.Test.YtcbkaiakdhiloabRefW
import Derived.Lib.ConvBytes
set_option linter.unusedSimpArgs false
set_option linter.unusedVariables false
namespace Go.Proofs.Ytcbkaiakdhiloab
open Go.RowKit Go.Proofs
attribute [local go_sem] bs_size bs_append bs_sub bs_toList

/-- which of n things the raw number c speaks of -/
def pickI (c : Int) (n : Nat) : Nat := ((if c < 0 then -(c + 1) else c) % (n : Int)).toNat
theorem pickI_lt (c : Int) (n : Nat) (h : 0 < n) : pickI c n < n := by
  unfold pickI
  have h1 := Int.emod_lt_of_pos (if c < 0 then -(c + 1) else c) (by omega : (0 : Int) < (n : Int))
  have h2 := Int.emod_nonneg (if c < 0 then -(c + 1) else c) (by omega : (n : Int) ≠ 0)
  omega
theorem pickI_int (c : Int) (n : Nat) (h : 0 < n) : ((pickI c n : Nat) : Int) = (if c < 0 then -(c + 1) else c) % (n : Int) := by
  unfold pickI
  exact Int.toNat_of_nonneg (Int.emod_nonneg _ (by omega))
set_option maxRecDepth 20000 in
theorem pickFn (c : Int) (n : Nat) (w : World) (h : 0 < n) (hn : n ≤ 1000000000) (h0 : -9223372036854775808 ≤ c) (h1 : c ≤ 9223372036854775807) :
    Calls Try.prog 18 #[.int .i64 c, .int .i64 n] w fun e w' => e = .returned (.int .i64 (pickI c n : Nat)) ∧ w = w' := by
  have hp := Lib.hid (pickI_int c n h)
  have hz : ((n : Int) == 0) = false := by simp; omega
  by_cases hc : c < 0
  · have e1 : IntKind.i64.wrap (c + 1) = c + 1 := IntWalk.i64_in _ (by omega)
    have e2 : IntKind.i64.wrap (-(c + 1)) = -(c + 1) := IntWalk.i64_in _ (by omega)
    have hp2 : Hid (((pickI c n : Nat) : Int) = (-(c + 1)) % (n : Int)) := by unfold Hid; rw [hp.out, if_pos hc]
    obtain ⟨d, hd⟩ : ∃ d : Int, d = -(c + 1) := ⟨_, rfl⟩
    have d0 : 0 ≤ d := by omega
    have d1 : d ≤ 9223372036854775807 := by omega
    have Hd := Lib.hid hd
    go_enter Try.func18, Try.ntmps18
    have hd' := hd.symm
    clear hd
    go_wp2_with fail
    go_ret
    refine ⟨?_, rfl⟩
    rw [hp2.out, ← Hd.out]
    try rfl
  · have hp2 : Hid (((pickI c n : Nat) : Int) = c % (n : Int)) := by unfold Hid; rw [hp.out, if_neg hc]
    have c0 : 0 ≤ c := by omega
    clear hc
    go_enter Try.func18, Try.ntmps18
    go_wp2_with fail
    go_ret
    refine ⟨?_, rfl⟩
    rw [hp2.out]
    try rfl
theorem pickK (c : Int) (n k : Nat) (w : World) (hk : k = pickI c n) (h : 0 < n) (hn : n ≤ 1000000000) (h0 : -9223372036854775808 ≤ c) (h1 : c ≤ 9223372036854775807) :
    Calls Try.prog 18 #[.int .i64 c, .int .i64 n] w fun e w' => e = .returned (.int .i64 (k : Int)) ∧ w' = w := by
  subst hk; exact (pickFn c n w h hn h0 h1).mono fun e w' h => ⟨h.1, h.2.symm⟩

/-- Block g is a row of bytes that may be written. -/
structure ByB (w : World) (g : Nat) (l : List UInt8) : Prop where
  lt : g < w.heap.size
  cell : ∀ j (b : UInt8), l[j]? = some b → w.cell? ⟨g, j, none⟩ = some (.int .u8 (b.toNat : Int))
  free : ∀ j, j < l.length → w.frozen? ⟨g, j, none⟩ = false
section
variable {S : Nat → Prop} {w w' : World} {g : Nat} {l : List UInt8}
theorem ByB.new (w : World) (e : TypeId) (l : List UInt8) : ByB (Go.Lib.bytesWorld w e (bs l)) w.heap.size l := by
  refine ⟨by rw [Go.Lib.bytesWorld_size]; omega, fun j b hb => ?_, fun j hj => ?_⟩
  · have hj : j < l.length := by
      rcases Nat.lt_or_ge j l.length with h | h
      · exact h
      · rw [List.getElem?_eq_none h] at hb; cases hb
    have h := Go.Lib.bytesWorld_cell w e (bs l) j (by rw [bs_size]; exact hj)
    rw [bs_list] at h
    rw [h]
    simp [List.getD, hb]
  · have h := Go.Lib.bytesWorld_at_new w e (bs l)
    have hs : l.length ≤ (Go.Lib.bytesCells w e (bs l)).size := by
      unfold Go.Lib.bytesCells
      simp [bs]
    simp [World.frozen?, h]
    omega
theorem ByB.fr (w : World) (e : TypeId) (l : List UInt8) : Fr noB w (Go.Lib.bytesWorld w e (bs l)) :=
  ⟨rfl, rfl, rfl, by rw [Go.Lib.bytesWorld_size]; omega, fun k hk _ => Go.Lib.bytesWorld_at_old w _ _ k hk⟩
theorem ByB.keep (h : ByB w g l) (hf : Fr S w w') (hg : ¬ S g) : ByB w' g l :=
  ⟨Nat.lt_of_lt_of_le h.lt hf.size, fun j b hb => (hf.cell (a := ⟨g, j, none⟩) h.lt hg).trans (h.cell j b hb), fun j hj => (hf.frozen (a := ⟨g, j, none⟩) h.lt hg).trans (h.free j hj)⟩
theorem ByB.set (h : ByB w g l) (k : Nat) (b : UInt8) (hk : k < l.length) : ByB (w.setCell ⟨g, k, none⟩ (.int .u8 (b.toNat : Int))) g (l.set k b) := by
  refine ⟨by simpa [World.setCell] using h.lt, fun j c hc => ?_, fun j hj => ?_⟩
  · by_cases hjk : j = k
    · subst hjk
      rw [List.getElem?_set_self hk] at hc
      injection hc with hc
      subst hc
      obtain ⟨old, ho⟩ : ∃ old, w.cell? ⟨g, j, none⟩ = some old := ⟨_, h.cell j l[j] (List.getElem?_eq_getElem hk)⟩
      exact World.cell?_setCell_same _ _ _ ho
    · rw [List.getElem?_set_ne (fun e => hjk e.symm)] at hc
      exact (World.cell?_setCell_other _ _ _ _ (by intro e; injection e with _ e2; exact hjk e2.symm)).trans (h.cell j c hc)
  · rw [List.length_set] at hj
    have := h.free j hj
    simpa [World.frozen?_setCell] using this
theorem ByB.slr (h : ByB w g l) (hg : ¬ S g) : SlR w S 1 (some ⟨g, 0, none⟩) l.length (u8s l) := by
  refine ⟨by simp [u8s_length], fun _ => ⟨_, rfl, h.lt, hg, fun j u hu => ?_⟩⟩
  rw [addr_add, Nat.zero_add]
  simp only [u8s, List.getElem?_map, Option.map_eq_some_iff] at hu
  obtain ⟨b, hb, rfl⟩ := hu
  exact h.cell j b hb
end
end Go.Proofs.Ytcbkaiakdhiloab
