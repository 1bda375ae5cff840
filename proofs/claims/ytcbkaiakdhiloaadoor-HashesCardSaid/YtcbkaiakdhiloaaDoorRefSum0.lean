/- The walk of the reference's Sum. -/
import Derived.Test.YtcbkaiakdhiloaaDoorRefS
set_option linter.unusedSimpArgs false
set_option linter.unusedVariables false
namespace Go.Proofs.YtcbkaiakdhiloaaDoor
open Go.RowKit Go.Proofs
attribute [local go_sem] bs_size bs_append bs_extract

theorem byte_at (n j : Nat) : (n : Int) / 2 ^ (8 * j) % 256 = ((UInt8.ofNat (n / 256 ^ j)).toNat : Int) := by
  rw [UInt8.toNat_ofNat', show (2 : Int) ^ (8 * j) = ((2 ^ (8 * j) : Nat) : Int) by simp, show (256 : Nat) ^ j = 2 ^ (8 * j) by rw [show (256 : Nat) = 2 ^ 8 from rfl, ← Nat.pow_mul]]
  omega
/-- a row appended -/
theorem run_app_row (w : World) (base g c n : Nat) (xs : List Nat) (v : Value) (l : List Nat) (h : OI w base v l) (hg : RI w g xs) (hn : xs.length = n) (hb : base ≤ w.heap.size) (hl : l.length + n < 1000000) :
    ∃ v' w', (Builtin.append_ #[30, 30] 30 #[v, .slice (some ⟨g, 0, none⟩) n c]).run Tryd.prog w = .ok v' w' ∧
      OI w' base v' (l ++ xs) ∧ w.grownBy w' v.ownBlock ∧ (v'.ownBlock = v.ownBlock ∨ v'.ownBlock = some w.heap.size) := by
  subst hn
  obtain ⟨i, hi, hz, hs, hbb⟩ := info_parts int_info
  have hS : SlR w noB 1 (some ⟨g, 0, none⟩) xs.length (ints xs) := by
    refine ⟨by rw [ints_length, Nat.mul_one], fun _ => ⟨_, rfl, hg.lt, id, fun j u hu => ?_⟩⟩
    rw [addr_add, Nat.zero_add]
    have hj : j < xs.length := by
      rcases Nat.lt_or_ge j (ints xs).length with h | h
      · rwa [ints_length] at h
      · rw [List.getElem?_eq_none h] at hu; cases hu
    have h1 := hg.get j xs[j] (List.getElem?_eq_getElem hj)
    rw [ints_get xs j xs[j] (List.getElem?_eq_getElem hj)] at hu
    rw [h1]; exact hu
  obtain ⟨v', w', h1, h2, h3, h4⟩ := run_app (P := Tryd.prog) w base 30 30 3 i _ 1 8 Tryd.underlying30 hi hz hs hbb rfl (by omega) v l.length (ints l) h
    noB (some ⟨g, 0, none⟩) xs.length c (ints xs) hS (ints_one _) (by simp only [maxLen]; omega) (by omega) hb
  refine ⟨v', w', h1, ?_, h3, h4⟩
  unfold OI; rw [List.length_append, ints_append]; exact h2
def strLen : Value → Nat
  | .string b => b.size
  | _ => 0
theorem lit128 : (⟨#[128]⟩ : ByteArray) = bs [128] := rfl
theorem lit0 : (⟨#[0]⟩ : ByteArray) = bs [0] := rfl

end Go.Proofs.YtcbkaiakdhiloaaDoor
