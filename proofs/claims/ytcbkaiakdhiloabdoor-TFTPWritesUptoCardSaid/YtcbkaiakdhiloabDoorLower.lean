/- tftp.lower, by the library's contract for strings.Map at this dump. -/
import Derived.Test.YtcbkaiakdhiloabDoorLowD
import Derived.Test.YtcbkaiakdhiloabDoorShelf
set_option linter.unusedSimpArgs false
set_option linter.unusedVariables false
namespace Go.Proofs.YtcbkaiakdhiloabDoor
open Go.RowKit Go.Proofs
attribute [local go_sem] bs_size bs_append bs_extract

/-- the tables of utf8, as they were laid -/
def Tabs (w : World) : Prop := Lib.Utf8Tabs 5 6 w
theorem cell_lt' {w : World} {a : Addr} {v : Value} (h : w.cell? a = some v) : a.block < w.heap.size := by
  rcases Nat.lt_or_ge a.block w.heap.size with h1 | h1
  · exact h1
  · unfold World.cell? at h; rw [Array.getElem?_eq_none h1] at h; cases h
theorem Tabs.keep {w w' : World} {S : Nat → Prop} (h : Tabs w) (hf : Fr S w w') (h1 : ¬ S 5) (h2 : ¬ S 6) : Tabs w' := by
  refine ⟨fun c hc => ?_, fun i hi => ⟨?_, ?_⟩⟩
  · have := h.1 c hc; exact (hf.cell (cell_lt' this) h1).trans this
  · have := (h.2 i hi).1; exact (hf.cell (cell_lt' this) h2).trans this
  · have := (h.2 i hi).2; exact (hf.cell (cell_lt' this) h2).trans this
theorem Tabs.none {w w' : World} (h : Tabs w) (hf : Fr noB w w') : Tabs w' := h.keep hf (fun x => x) (fun x => x)
theorem Tabs.lt {w : World} (h : Tabs w) : 5 < w.heap.size ∧ 6 < w.heap.size := ⟨cell_lt' (h.1 0 (by omega)), cell_lt' (h.2 0 (by omega)).1⟩
theorem lower1 (W : World) (x : Nat) (hx : x ≤ 1114111) : FnGives Tryd.prog 69 #[] #[encR x] (.int .i32 (lowF x)) W := by
  unfold FnGives
  have e : (#[encR x] ++ #[] : Array Value) = #[.int .i32 (x : Int)] := rfl
  rw [e]
  obtain ⟨r, hr⟩ : ∃ r, lowF (x : Int) = r := ⟨_, rfl⟩
  rw [hr]
  have Hr := Lib.hid hr
  clear hr e
  go_enter Tryd.func69, Tryd.ntmps69
  by_cases h1 : 65 ≤ x
  · by_cases h2 : x ≤ 90
    · have h1i : (65 : Int) ≤ (x : Int) := by omega
      have h2i : (x : Int) ≤ 90 := by omega
      have e1 : IntKind.i32.wrap ((x : Int) + 97) = (x : Int) + 97 := IntWalk.i32_in ((x : Int) + 97) ⟨by omega, by omega⟩
      have e2 : IntKind.i32.wrap ((x : Int) + 97 - 65) = (x : Int) + 32 := (IntWalk.i32_in ((x : Int) + 97 - 65) ⟨by omega, by omega⟩).trans (by omega)
      go_wp2_with fail
      go_ret
      exact ⟨by rw [← Hr.out]; unfold lowF; rw [if_pos ⟨h1i, h2i⟩]; rfl, 0, rfl⟩
    · have h1i : (65 : Int) ≤ (x : Int) := by omega
      have h2i : ¬ (x : Int) ≤ 90 := by omega
      go_wp2_with fail
      go_ret
      exact ⟨by rw [← Hr.out]; unfold lowF; rw [if_neg (by omega)]; rfl, 0, rfl⟩
  · have h1i : ¬ (65 : Int) ≤ (x : Int) := by omega
    go_wp2_with fail
    go_ret
    exact ⟨by rw [← Hr.out]; unfold lowF; rw [if_neg (by omega)]; rfl, 0, rfl⟩
theorem tftLower (l : List UInt8) (w : World) (hl : l.length ≤ 1099511627776) (hT : Tabs w) :
    Calls Tryd.prog 56 #[.string (bs l)] w fun e w' => e = .returned (.string (bs (lowD l))) ∧ Fr noB w w' := by
  have hm := Tryd.strings_Map_runes 69 #[] (enters_of Tryd.func69 (by kernel_rfl) rfl) lowF (bs l) w (by rw [bs_size]; omega) (fun W x hx _ => lower1 W x hx)
    (fun x hx => by unfold lowF; split <;> omega) hT
  rw [bs_list] at hm
  go_enter Tryd.func56, Tryd.ntmps56
  go_wp2_with fail
  refine hm.mono ?_
  rintro e w1 ⟨rfl, hb⟩
  have hf := Fr.ofBelowAll hb
  go_wp2_with fail
  go_ret
  exact ⟨rfl, hf⟩
end Go.Proofs.YtcbkaiakdhiloabDoor
