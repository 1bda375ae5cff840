/- netbootkeep.hex: bytes of digits of base 16. -/
import Derived.Test.YtcbkaiakdhiloabDoorByB
import Derived.BigQuiet
set_option linter.unusedSimpArgs false
set_option linter.unusedVariables false
namespace Go.Proofs.YtcbkaiakdhiloabDoor
open Go.RowKit Go.Proofs
attribute [local go_sem] bs_size bs_append bs_extract

def hexD (c : UInt8) : Nat := if 97 ≤ c.toNat then c.toNat - 87 else c.toNat - 48
structure HxS where
  out : List UInt8
  n : Nat
  half : Bool
def hexStep (st : HxS) (c : UInt8) : HxS :=
  if c.toNat = 32 then st
  else if st.half then ⟨st.out ++ [UInt8.ofNat (16 * st.n + hexD c)], 0, false⟩
  else ⟨st.out, 16 * st.n + hexD c, true⟩
def hexL (l : List UInt8) : List UInt8 := (l.foldl hexStep ⟨[], 0, false⟩).out
def hexOk (c : UInt8) : Prop := c.toNat = 32 ∨ (48 ≤ c.toNat ∧ c.toNat ≤ 57) ∨ (97 ≤ c.toNat ∧ c.toNat ≤ 102)
structure HxI (st : HxS) (i : Nat) : Prop where
  n : st.n ≤ 15
  z : st.half = false → st.n = 0
  len : st.out.length ≤ i
theorem HxI.step {st : HxS} {i : Nat} (h : HxI st i) (c : UInt8) (hc : hexOk c) : HxI (hexStep st c) (i + 1) := by
  have h1 := h.n; have h2 := h.z; have h3 := h.len
  have hd : c.toNat ≠ 32 → hexD c ≤ 15 := by
    intro hne; unfold hexD; unfold hexOk at hc; split <;> omega
  unfold hexStep
  split
  · exact ⟨h1, h2, by omega⟩
  · rename_i hne
    split
    · exact ⟨by simp, fun _ => rfl, by simp; omega⟩
    · rename_i hh
      have hz := h2 (by simpa using hh)
      have := hd hne
      exact ⟨by show 16 * st.n + hexD c ≤ 15; omega, (fun h => absurd h (by simp)), by show st.out.length ≤ i + 1; omega⟩

set_option maxRecDepth 20000 in
set_option maxHeartbeats 1000000 in
theorem keepHex (l : List UInt8) (w : World) (hl : l.length ≤ 1000000) (hok : ∀ c ∈ l, hexOk c) :
    Calls Tryd.prog 7 #[.string (bs l)] w fun e w' => e = .returned (.string (bs (hexL l))) ∧ Fr noB w w' := by
  go_enter Tryd.func7, Tryd.ntmps7
  go_wp2_with fail
  go_loopw [3, 4, 5, 6] (fun ov nv hv iv wr => ∃ (i : Nat) (st : HxS), i ≤ l.length ∧ st = (l.take i).foldl hexStep ⟨[], 0, false⟩ ∧ HxI st i ∧ ov = .string (bs st.out) ∧ nv = .int .i64 (st.n : Int) ∧ hv = .bool st.half ∧ iv = .int .i64 (i : Int) ∧ Fr noB w wr) (fun _ _ _ iv _ => l.length - (intOf iv).toNat)
  case atStart => exact ⟨0, ⟨[], 0, false⟩, by omega, rfl, ⟨by decide, fun _ => rfl, by decide⟩, rfl, rfl, rfl, rfl, Fr.refl _ _⟩
  case round =>
    obtain ⟨i, st, hi, hst, hI, rfl, rfl, rfl, rfl, hf⟩ := hrel
    by_cases hlt : i < l.length
    · obtain ⟨c, hc⟩ : ∃ c, l[i]? = some c := ⟨_, List.getElem?_eq_getElem hlt⟩
      have hcok : hexOk c := hok c (List.mem_of_getElem? hc)
      have hI2 := hI.step c hcok
      have hst2 : hexStep st c = (l.take (i + 1)).foldl hexStep ⟨[], 0, false⟩ := by
        rw [List.take_add_one, hc]; simp [List.foldl_append, ← hst]
      have hgi : ∀ h : i < (bs l).size, (bs l)[i]'h = c := fun h => by rw [bs_get l i h]; rw [List.getElem?_eq_getElem hlt] at hc; injection hc
      have hn := hI.n
      have hol := hI.len
      have hz := hI.z
      obtain ⟨o, n, hb⟩ := st
      simp only at hn hol hz
      have Hst2 := Lib.hid hst2
      have HI2 := Lib.hid hI2
      have Hok := Lib.hid hok
      have Hcok := Lib.hid hcok
      have hcl := c.toNat_lt
      clear hst hst2 hI hI2 hc hok hcok
      have hln : ¬ 9223372036854775807 < o.length + 1 := by omega
      by_cases h32 : c.toNat = 32
      · have hs : hexStep ⟨o, n, hb⟩ c = ⟨o, n, hb⟩ := by unfold hexStep; rw [if_pos h32]
        have h32i : (c.toNat : Int) = 32 := by omega
        have Hs := Lib.hid hs
        clear hs hz
        go_wp2_with fail
        exact ⟨⟨i + 1, hexStep ⟨o, n, hb⟩ c, by omega, Hst2.out, HI2.out, by rw [Hs.out], by rw [Hs.out], by rw [Hs.out], by rw [Int.natCast_add]; rfl, hf⟩, by simp only [intOf]; omega⟩
      · obtain ⟨d, hd⟩ : ∃ d, d = hexD c := ⟨_, rfl⟩
        obtain ⟨m, hm⟩ : ∃ m, m = 16 * n + d := ⟨_, rfl⟩
        have hdl : d ≤ 15 := by rw [hd]; have := Hcok.out; unfold hexOk at this; unfold hexD; split <;> omega
        have e1 : 16 * (n : Int) + (d : Int) = (m : Int) := by omega
        have hml : m ≤ 255 := by omega
        have h32i : ¬ (c.toNat : Int) = 32 := by omega
        cases hb with
        | false =>
          have hs : hexStep ⟨o, n, false⟩ c = ⟨o, m, true⟩ := by unfold hexStep; rw [if_neg h32, hm, hd]; rfl
          have Hs := Lib.hid hs
          have Hd := Lib.hid hd
          clear hs hz hd hm
          by_cases h97 : 97 ≤ c.toNat
          · have e2 : (c.toNat : Int) - 87 = (d : Int) := by have := Hd.out; unfold hexD at this; rw [if_pos h97] at this; omega
            go_wp2_with fail
            exact ⟨⟨i + 1, hexStep ⟨o, n, false⟩ c, by omega, Hst2.out, HI2.out, by rw [Hs.out], by rw [Hs.out], by rw [Hs.out], by rw [Int.natCast_add]; rfl, hf⟩, by simp only [intOf]; omega⟩
          · have e2 : (c.toNat : Int) - 48 = (d : Int) := by have := Hd.out; have h3 := Hcok.out; unfold hexOk at h3; unfold hexD at this; rw [if_neg h97] at this; omega
            go_wp2_with fail
            exact ⟨⟨i + 1, hexStep ⟨o, n, false⟩ c, by omega, Hst2.out, HI2.out, by rw [Hs.out], by rw [Hs.out], by rw [Hs.out], by rw [Int.natCast_add]; rfl, hf⟩, by simp only [intOf]; omega⟩
        | true =>
          obtain ⟨y, hy⟩ : ∃ y, y = UInt8.ofNat m := ⟨_, rfl⟩
          have hs : hexStep ⟨o, n, true⟩ c = ⟨o ++ [y], 0, false⟩ := by unfold hexStep; rw [if_neg h32, hy, hm, hd]; rfl
          have e3 : (m : Int) = (y.toNat : Int) := by rw [hy, UInt8.toNat_ofNat']; omega
          have e4 : IntKind.u8.wrap (m : Int) = (y.toNat : Int) := by rw [IntKind.wrap_u8']; omega
          have Hs := Lib.hid hs
          have Hd := Lib.hid hd
          clear hs hz hd hm hy
          have hcv := run_str_of (P := Tryd.prog) (wr.alloc (.cells #[.int .u8 (y.toNat : Int)] 5)) 43 9 5 Tryd.underlying43 Tryd.underlying5 Tryd.underlying9 noB (some ⟨wr.heap.size, 0, none⟩) 1 1 [y] (SlR.of_bk (n := 1) (size := 1) (Bk.new wr 5 #[.int .u8 (y.toNat : Int)]) (fun x => x) rfl) (.inr ⟨_, _, rfl⟩)
          have hf2 : Fr noB w (wr.alloc (.cells #[.int .u8 (y.toNat : Int)] 5)) := hf.alloc _
          by_cases h97 : 97 ≤ c.toNat
          · have e2 : (c.toNat : Int) - 87 = (d : Int) := by have := Hd.out; unfold hexD at this; rw [if_pos h97] at this; omega
            go_wp2_with fail
            exact ⟨⟨i + 1, hexStep ⟨o, n, true⟩ c, by omega, Hst2.out, HI2.out, by rw [Hs.out], by rw [Hs.out]; rfl, by rw [Hs.out], by rw [Int.natCast_add]; rfl, hf2⟩, by simp only [intOf]; omega⟩
          · have e2 : (c.toNat : Int) - 48 = (d : Int) := by have := Hd.out; have h3 := Hcok.out; unfold hexOk at h3; unfold hexD at this; rw [if_neg h97] at this; omega
            go_wp2_with fail
            exact ⟨⟨i + 1, hexStep ⟨o, n, true⟩ c, by omega, Hst2.out, HI2.out, by rw [Hs.out], by rw [Hs.out]; rfl, by rw [Hs.out], by rw [Int.natCast_add]; rfl, hf2⟩, by simp only [intOf]; omega⟩
    · obtain rfl : i = l.length := by omega
      have hfin : bs st.out = bs (hexL l) := by rw [hst, List.take_length]; rfl
      have Hfin := Lib.hid hfin
      clear hst hI hfin hok
      go_wp2_with fail
      go_ret
      exact ⟨by rw [Hfin.out]; rfl, hf⟩
end Go.Proofs.YtcbkaiakdhiloabDoor
