/- The reference's word and the program's ascii: is a text of bytes from 33 to 126, one at the least? -/
import Derived.Test.YtcbkaiakdhiloabDoorMem
import Derived.BigQuiet
set_option linter.unusedSimpArgs false
set_option linter.unusedVariables false
namespace Go.Proofs.YtcbkaiakdhiloabDoor
open Go.RowKit Go.Proofs
attribute [local go_sem] bs_size bs_append bs_extract

def chrOk (c : UInt8) : Bool := decide (33 ≤ c.toNat) && decide (c.toNat ≤ 126)
def wordB (l : List UInt8) : Bool := l.all chrOk && decide (0 < l.length)
theorem wordB_bad {l : List UInt8} {i : Nat} {c : UInt8} (h : l[i]? = some c) (hc : chrOk c = false) : wordB l = false := by
  unfold wordB
  have : l.all chrOk = false := by
    rw [List.all_eq_false]
    exact ⟨c, List.mem_of_getElem? h, by rw [hc]; decide⟩
  rw [this]; rfl
theorem take_all {l : List UInt8} {i : Nat} {c : UInt8} (h : l[i]? = some c) (ha : (l.take i).all chrOk = true) (hc : chrOk c = true) : (l.take (i + 1)).all chrOk = true := by
  rw [List.take_add_one, h]; simp [List.all_append, ha, hc]

set_option maxRecDepth 20000 in
set_option maxHeartbeats 1000000 in
theorem refWord (l : List UInt8) (w : World) (hl : l.length ≤ 4611686018427387904) :
    Calls Tryd.prog 29 #[.string (bs l)] w fun e w' => e = .returned (.bool (wordB l)) ∧ w' = w := by
  go_enter Tryd.func29, Tryd.ntmps29
  go_wp2_with fail
  go_loopw [3] (fun iv wr => ∃ (i : Nat), i ≤ l.length ∧ iv = .int .i64 (i : Int) ∧ (l.take i).all chrOk = true ∧ wr = w) (fun iv _ => l.length - (intOf iv).toNat)
  case atStart => exact ⟨0, by omega, rfl, rfl, rfl⟩
  case round =>
    obtain ⟨i, hi, rfl, ha, hw⟩ := hrel
    subst hw
    by_cases hlt : i < l.length
    · obtain ⟨c, hc⟩ : ∃ c, l[i]? = some c := ⟨_, List.getElem?_eq_getElem hlt⟩
      have hgi : ∀ h : i < (bs l).size, (bs l)[i]'h = c := fun h => by rw [bs_get l i h]; rw [List.getElem?_eq_getElem hlt] at hc; injection hc
      have hcl := c.toNat_lt
      have Hc := Lib.hid hc
      clear hc
      by_cases h1 : c.toNat < 33
      · have hbad : wordB l = false := wordB_bad Hc.out (by unfold chrOk; simp; omega)
        have Hbad := Lib.hid hbad
        clear hbad
        have h1i : (c.toNat : Int) < 33 := by omega
        go_wp2_with fail
        go_ret
        exact ⟨congrArg (fun b => Ending.returned (.bool b)) Hbad.out.symm, rfl⟩
      · have h1i : ¬ (c.toNat : Int) < 33 := by omega
        by_cases h2 : 126 < c.toNat
        · have hbad : wordB l = false := wordB_bad Hc.out (by unfold chrOk; simp; omega)
          have Hbad := Lib.hid hbad
          clear hbad
          have h2i : 126 < (c.toNat : Int) := by omega
          go_wp2_with fail
          go_ret
          exact ⟨congrArg (fun b => Ending.returned (.bool b)) Hbad.out.symm, rfl⟩
        · have h2i : ¬ 126 < (c.toNat : Int) := by omega
          have ha2 := take_all Hc.out ha (by unfold chrOk; simp; omega)
          have Ha2 := Lib.hid ha2
          clear ha2 ha
          go_wp2_with fail
          exact ⟨⟨i + 1, by omega, by rw [Int.natCast_add]; rfl, Ha2.out, trivial⟩, by simp only [intOf]; omega⟩
    · obtain rfl : i = l.length := by omega
      rw [List.take_length] at ha
      have hfin : wordB l = decide (0 < l.length) := by unfold wordB; rw [ha]; rfl
      have Hfin := Lib.hid hfin
      clear ha hfin
      go_wp2_with fail
      go_ret
      exact ⟨congrArg (fun b => Ending.returned (.bool b)) (by rw [Hfin.out]; try simp), rfl⟩

set_option maxRecDepth 20000 in
set_option maxHeartbeats 1000000 in
theorem tftpAscii (l : List UInt8) (w : World) (hl : l.length ≤ 4611686018427387904) :
    Calls Tryd.prog 55 #[.string (bs l)] w fun e w' => e = .returned (.bool (wordB l)) ∧ w' = w := by
  go_enter Tryd.func55, Tryd.ntmps55
  go_wp2_with fail
  go_loopw [6] (fun iv wr => ∃ (i : Nat), i ≤ l.length ∧ iv = .int .i64 (i : Int) ∧ (l.take i).all chrOk = true ∧ wr = w) (fun iv _ => l.length - (intOf iv).toNat)
  case atStart => exact ⟨0, by omega, rfl, rfl, rfl⟩
  case round =>
    obtain ⟨i, hi, rfl, ha, hw⟩ := hrel
    subst hw
    by_cases hlt : i < l.length
    · obtain ⟨c, hc⟩ : ∃ c, l[i]? = some c := ⟨_, List.getElem?_eq_getElem hlt⟩
      have hgi : ∀ h : i < (bs l).size, (bs l)[i]'h = c := fun h => by rw [bs_get l i h]; rw [List.getElem?_eq_getElem hlt] at hc; injection hc
      have hcl := c.toNat_lt
      have Hc := Lib.hid hc
      clear hc
      by_cases h1 : c.toNat < 33
      · have hbad : wordB l = false := wordB_bad Hc.out (by unfold chrOk; simp; omega)
        have Hbad := Lib.hid hbad
        clear hbad
        have h1i : (c.toNat : Int) < 33 := by omega
        go_wp2_with fail
        go_ret
        exact ⟨congrArg (fun b => Ending.returned (.bool b)) Hbad.out.symm, rfl⟩
      · have h1i : ¬ (c.toNat : Int) < 33 := by omega
        by_cases h2 : 126 < c.toNat
        · have hbad : wordB l = false := wordB_bad Hc.out (by unfold chrOk; simp; omega)
          have Hbad := Lib.hid hbad
          clear hbad
          have h2i : 126 < (c.toNat : Int) := by omega
          go_wp2_with fail
          go_ret
          exact ⟨congrArg (fun b => Ending.returned (.bool b)) Hbad.out.symm, rfl⟩
        · have h2i : ¬ 126 < (c.toNat : Int) := by omega
          have ha2 := take_all Hc.out ha (by unfold chrOk; simp; omega)
          have Ha2 := Lib.hid ha2
          clear ha2 ha
          go_wp2_with fail
          exact ⟨⟨i + 1, by omega, by rw [Int.natCast_add]; rfl, Ha2.out, trivial⟩, by simp only [intOf]; omega⟩
    · obtain rfl : i = l.length := by omega
      rw [List.take_length] at ha
      have hfin : wordB l = decide (0 < l.length) := by unfold wordB; rw [ha]; rfl
      have Hfin := Lib.hid hfin
      clear ha hfin
      rcases Nat.eq_zero_or_pos l.length with h0 | h0
      · have hln : bs l = ⟨#[]⟩ := by rw [List.eq_nil_of_length_eq_zero h0]; rfl
        rw [hln]
        go_wp2_with fail
        go_ret
        exact ⟨congrArg (fun b => Ending.returned (.bool b)) (by rw [Hfin.out]; simp [h0]), rfl⟩
      · have hne : ¬ bs l = ⟨#[]⟩ := fun h => by have h2 := congrArg ByteArray.size h; rw [bs_size] at h2; have h3 : l.length = 0 := h2; omega
        go_wp2_with fail
        go_ret
        exact ⟨congrArg (fun b => Ending.returned (.bool b)) (by rw [Hfin.out, decide_eq_true h0]; simp [bs_toList]; intro h; simp [h] at h0), rfl⟩
end Go.Proofs.YtcbkaiakdhiloabDoor
