/- The reference's low: a text with small letters. -/
import Derived.Test.YtcbkaiakdhiloabDoorMem
import Derived.BigQuiet
set_option linter.unusedSimpArgs false
set_option linter.unusedVariables false
namespace Go.Proofs.YtcbkaiakdhiloabDoor
open Go.RowKit Go.Proofs
attribute [local go_sem] bs_size bs_append bs_extract

def lowC (c : UInt8) : UInt8 := if 65 ≤ c.toNat ∧ c.toNat ≤ 90 then c + 32 else c
def lowL (l : List UInt8) : List UInt8 := l.map lowC

set_option maxRecDepth 20000 in
set_option maxHeartbeats 1000000 in
theorem refLow (l : List UInt8) (w : World) (hl : l.length ≤ 4611686018427387904) :
    Calls Tryd.prog 30 #[.string (bs l)] w fun e w' => e = .returned (.string (bs (lowL l))) ∧ Fr noB w w' := by
  go_enter Tryd.func30, Tryd.ntmps30
  go_wp2_with fail
  go_loopw [3, 4] (fun ov iv wr => ∃ (i : Nat) (o : List UInt8), i ≤ l.length ∧ iv = .int .i64 (i : Int) ∧ o = lowL (l.take i) ∧ ov = .string (bs o) ∧ Fr noB w wr) (fun _ iv _ => l.length - (intOf iv).toNat)
  case atStart => exact ⟨0, [], by omega, rfl, rfl, rfl, Fr.refl _ _⟩
  case round =>
    obtain ⟨i, o, hi, rfl, ho, rfl, hf⟩ := hrel
    by_cases hlt : i < l.length
    · obtain ⟨c, hc⟩ : ∃ c, l[i]? = some c := ⟨_, List.getElem?_eq_getElem hlt⟩
      have hgi : ∀ h : i < (bs l).size, (bs l)[i]'h = c := fun h => by rw [bs_get l i h]; rw [List.getElem?_eq_getElem hlt] at hc; injection hc
      have hcl := c.toNat_lt
      have hol : o.length = i := by rw [ho]; simp [lowL, List.length_take]; omega
      have hln : ¬ 9223372036854775807 < o.length + 1 := by omega
      obtain ⟨y, hy⟩ : ∃ y, y = lowC c := ⟨_, rfl⟩
      have hnx : o ++ [y] = lowL (l.take (i + 1)) := by rw [List.take_add_one, hc, ho, hy]; simp [lowL]
      have hcv := run_str_of (P := Tryd.prog) (wr.alloc (.cells #[.int .u8 (y.toNat : Int)] 5)) 43 9 5 Tryd.underlying43 Tryd.underlying5 Tryd.underlying9 noB (some ⟨wr.heap.size, 0, none⟩) 1 1 [y] (SlR.of_bk (n := 1) (size := 1) (Bk.new wr 5 #[.int .u8 (y.toNat : Int)]) (fun x => x) rfl) (.inr ⟨_, _, rfl⟩)
      have hf2 : Fr noB w (wr.alloc (.cells #[.int .u8 (y.toNat : Int)] 5)) := hf.alloc _
      have Hnx := Lib.hid hnx
      have Hol := Lib.hid hol
      have Hy := Lib.hid hy
      clear hnx hol ho hy hc
      by_cases h1 : 65 ≤ c.toNat
      · by_cases h2 : c.toNat ≤ 90
        · have e1 : (c.toNat : Int) + 32 = (y.toNat : Int) := by
            have h := Hy.out; unfold lowC at h; rw [if_pos ⟨h1, h2⟩] at h; rw [h, UInt8.toNat_add, show (32 : UInt8).toNat = 32 from rfl]; omega
          have e2 : ((c.toNat : Int) + 32) % 256 = (y.toNat : Int) := by have := y.toNat_lt; omega
          have h1i : (65 : Int) ≤ (c.toNat : Int) := by omega
          have h2i : (c.toNat : Int) ≤ 90 := by omega
          go_wp2_with fail
          exact ⟨⟨i + 1, o ++ [y], by omega, by rw [Int.natCast_add]; rfl, Hnx.out, rfl, hf2⟩, by simp only [intOf]; omega⟩
        · have e1 : (c.toNat : Int) = (y.toNat : Int) := by
            have h := Hy.out; unfold lowC at h; rw [if_neg (by omega)] at h; rw [h]
          have h1i : (65 : Int) ≤ (c.toNat : Int) := by omega
          have h2i : ¬ (c.toNat : Int) ≤ 90 := by omega
          go_wp2_with fail
          exact ⟨⟨i + 1, o ++ [y], by omega, by rw [Int.natCast_add]; rfl, Hnx.out, rfl, hf2⟩, by simp only [intOf]; omega⟩
      · have e1 : (c.toNat : Int) = (y.toNat : Int) := by
          have h := Hy.out; unfold lowC at h; rw [if_neg (by omega)] at h; rw [h]
        have h1i : ¬ (65 : Int) ≤ (c.toNat : Int) := by omega
        go_wp2_with fail
        exact ⟨⟨i + 1, o ++ [y], by omega, by rw [Int.natCast_add]; rfl, Hnx.out, rfl, hf2⟩, by simp only [intOf]; omega⟩
    · obtain rfl : i = l.length := by omega
      rw [List.take_length] at ho
      subst ho
      go_wp2_with fail
      go_ret
      exact ⟨rfl, hf⟩
end Go.Proofs.YtcbkaiakdhiloabDoor
