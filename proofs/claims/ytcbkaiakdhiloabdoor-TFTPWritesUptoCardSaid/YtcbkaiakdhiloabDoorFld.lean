/- Fields in memory; looking for a name among them. -/
import Derived.Test.YtcbkaiakdhiloabDoorTftQ
import Derived.Test.YtcbkaiakdhiloabDoorReg
set_option linter.unusedSimpArgs false
set_option linter.unusedVariables false
namespace Go.Proofs.YtcbkaiakdhiloabDoor
open Go.RowKit Go.Proofs
attribute [local go_sem] bs_size bs_append bs_extract bs_toList

/-- fields as cells -/
def fldC : List FldD → List Value
  | [] => []
  | o :: r => .string (bs o.name) :: .string (bs o.value) :: fldC r
theorem fldC_length : ∀ os : List FldD, (fldC os).length = os.length * 2
  | [] => rfl
  | o :: r => by simp only [fldC, List.length_cons, fldC_length r]; omega
theorem fldC_append : ∀ a b : List FldD, fldC (a ++ b) = fldC a ++ fldC b
  | [], _ => rfl
  | o :: r, b => by simp only [List.cons_append, fldC, fldC_append r b]
theorem fldC_name : ∀ (os : List FldD) (k : Nat) (o : FldD), os[k]? = some o → (fldC os)[k * 2]? = some (.string (bs o.name))
  | [], _, _, h => by cases h
  | o :: r, 0, o', h => by cases h; rfl
  | o :: r, k + 1, o', h => by
    rw [show (k + 1) * 2 = k * 2 + 1 + 1 by omega]
    exact fldC_name r k o' h
theorem fldC_value : ∀ (os : List FldD) (k : Nat) (o : FldD), os[k]? = some o → (fldC os)[k * 2 + 1]? = some (.string (bs o.value))
  | [], _, _, h => by cases h
  | o :: r, 0, o', h => by cases h; rfl
  | o :: r, k + 1, o', h => by
    rw [show (k + 1) * 2 + 1 = k * 2 + 1 + 1 + 1 by omega]
    exact fldC_value r k o' h
theorem fldC_one {os : List FldD} : ∀ u ∈ fldC os, u.oneCell' = true := by
  induction os with
  | nil => intro u h; cases h
  | cons o r ih =>
    intro u h
    simp only [fldC, List.mem_cons] at h
    rcases h with rfl | rfl | h
    · rfl
    · rfl
    · exact ih u h
theorem SlR.fld {w : World} {S : Nat → Prop} {A : Option Addr} {n : Nat} {os : List FldD} (h : SlR w S 2 A n (fldC os)) : os.length = n := by
  have := h.1; rw [fldC_length] at this; omega
theorem SlR.fldAt {w : World} {S : Nat → Prop} {A : Option Addr} {n k : Nat} {os : List FldD} {o : FldD} (h : SlR w S 2 A n (fldC os)) (hk : os[k]? = some o) :
    ∃ ad, A = some ad ∧ w.cell? (ad.add (k * 2)) = some (.string (bs o.name)) ∧ w.cell? ⟨(ad.add (k * 2)).block, (ad.add (k * 2)).off + 1, none⟩ = some (.string (bs o.value)) := by
  have hl : k < os.length := by
    rcases Nat.lt_or_ge k os.length with h1 | h1
    · exact h1
    · rw [List.getElem?_eq_none h1] at hk; cases hk
  have hn := h.fld
  obtain ⟨ad, e, _, _, hc⟩ := h.2 (by omega)
  exact ⟨ad, e, hc _ _ (fldC_name os k o hk), by
    have := hc _ _ (fldC_value os k o hk)
    rw [← add_add] at this
    exact this⟩
theorem fld_info : (Tryd.prog.info? 66).map (fun i => (i.zero, i.size, i.bytes)) = some (some (.agg #[.string ⟨#[]⟩, .string ⟨#[]⟩]), 2, 32) := by kernel_rfl
/-- a message as cells; its fields lie at A -/
def tftC (d : TftD) (A : Option Addr) (cap : Nat) : Array Value := #[.int .u16 (d.op : Int), .int .u16 (d.block : Int), .string (bs d.text), .string (bs d.data), .slice A d.fs.length cap]
theorem tftC_size (d : TftD) (A : Option Addr) (cap : Nat) : (tftC d A cap).size = 5 := rfl
theorem tftC_one (d : TftD) (A : Option Addr) (cap : Nat) : (tftC d A cap).all (·.oneCell') = true := by simp [tftC, Value.oneCell']
theorem tft_info (d : TftD) (A : Option Addr) (cap : Nat) : (Tryd.prog.info? 47).map (·.size) = some (tftC d A cap).size := by rw [tftC_size]; kernel_rfl
def tftPost (l : List UInt8) (w : World) (e : Ending) (w' : World) : Prop :=
  (∃ A cap, e = .returned (.tuple #[.agg (tftC (readTFTP l).1 A cap), .int .i64 ((readTFTP l).2 : Int)]) ∧ SlR w' (fun k => k < w.heap.size) 2 A (readTFTP l).1.fs.length (fldC (readTFTP l).1.fs)) ∧ Fr noB w w'
theorem bs_nil' : bs [] = (⟨#[]⟩ : ByteArray) := rfl
/-- how much fields are -/
def wtF : List FldD → Nat
  | [] => 0
  | o :: r => o.name.length + o.value.length + 1 + wtF r
theorem wtF_len : ∀ os : List FldD, os.length ≤ wtF os
  | [] => Nat.le_refl _
  | o :: r => by have := wtF_len r; simp only [List.length_cons, wtF]; omega
theorem wtF_at : ∀ (os : List FldD) (k : Nat) (o : FldD), os[k]? = some o → o.name.length + o.value.length ≤ wtF os
  | [], _, _, h => by cases h
  | o :: r, 0, o', h => by cases h; simp only [wtF]; omega
  | o :: r, k + 1, o', h => by have := wtF_at r k o' h; simp only [wtF]; omega
theorem wtF_append : ∀ (a b : List FldD), wtF (a ++ b) = wtF a + wtF b
  | [], b => by simp [wtF]
  | o :: r, b => by simp only [List.cons_append, wtF, wtF_append r b]; omega
theorem named_at {os : List FldD} {i : Nat} {o : FldD} {n : List UInt8} (h : os[i]? = some o) (hn : o.name = n) : named os n = true := by
  unfold named
  rw [List.any_eq_true]
  exact ⟨o, List.mem_of_getElem? h, by simpa using hn⟩
theorem named_no {os : List FldD} {n : List UInt8} (h : ∀ j o, j < os.length → os[j]? = some o → o.name ≠ n) : named os n = false := by
  unfold named
  rw [List.any_eq_false]
  intro o ho
  obtain ⟨j, hj, e⟩ := List.getElem_of_mem ho
  have := h j o hj (by rw [List.getElem?_eq_getElem hj, e])
  simpa using this
set_option maxRecDepth 20000 in
set_option maxHeartbeats 1000000 in
theorem tftHas (A : Option Addr) (n cap : Nat) (os : List FldD) (c : List UInt8) (w : World) (hA : SlR w noB 2 A n (fldC os)) (hn : n ≤ 4611686018427387904) :
    Calls Tryd.prog 61 #[.slice A n cap, .string (bs c)] w fun e w' => e = .returned (.bool (named os c)) ∧ Fr noB w w' := by
  have hlen := hA.fld
  go_enter Tryd.func61, Tryd.ntmps61
  go_wp2_with fail
  go_loopw [9] (fun iv wr => ∃ (i : Nat), i ≤ n ∧ iv = .int .i64 (i : Int) ∧ (∀ j o, j < i → os[j]? = some o → o.name ≠ c) ∧ Fr noB w wr) (fun iv _ => n - (intOf iv).toNat)
  case atStart => exact ⟨0, by omega, rfl, fun j o h => absurd h (by omega), Fr.refl _ _⟩
  case round =>
    obtain ⟨i, hi, rfl, ha, hw⟩ := hrel
    by_cases hlt : i < n
    · obtain ⟨o, ho⟩ : ∃ o, os[i]? = some o := ⟨_, List.getElem?_eq_getElem (by omega)⟩
      obtain ⟨ad, rfl, c1, c2⟩ := (hA.keep hw).fldAt ho
      have hne := hw.alloc (.cells #[.string (bs o.name), .string (bs o.value)] 66)
      by_cases he : o.name = c
      · have hb : (o.name == c) = true := by simpa using he
        have H := Lib.hid (named_at ho he)
        clear ho he ha
        go_wp2_with fail
        go_ret
        exact ⟨congrArg (fun b => Ending.returned (.bool b)) H.out.symm, hne⟩
      · have hb : (o.name == c) = false := by simpa using he
        have Ha : Hid (∀ j o, j < i + 1 → os[j]? = some o → o.name ≠ c) := Lib.hid (by
          intro j o' hj h2
          rcases Nat.lt_or_ge j i with h3 | h3
          · exact ha j o' h3 h2
          · obtain rfl : j = i := by omega
            rw [ho] at h2; cases h2; exact he)
        clear ho he ha
        go_wp2_with fail
        exact ⟨⟨i + 1, by omega, by rw [Int.natCast_add]; rfl, Ha.out, hne⟩, by simp only [intOf]; omega⟩
    · obtain rfl : i = n := by omega
      have H := Lib.hid (named_no (os := os) (n := c) (fun j o h => ha j o (by omega)))
      clear ha
      go_wp2_with fail
      go_ret
      exact ⟨congrArg (fun b => Ending.returned (.bool b)) H.out.symm, hw⟩
set_option maxRecDepth 20000 in
set_option maxHeartbeats 1000000 in
theorem refNamed (A : Option Addr) (n cap : Nat) (os : List FldD) (c : List UInt8) (w : World) (hA : SlR w noB 2 A n (fldC os)) (hn : n ≤ 4611686018427387904) :
    Calls Tryd.prog 34 #[.slice A n cap, .string (bs c)] w fun e w' => e = .returned (.bool (named os c)) ∧ Fr noB w w' := by
  have hlen := hA.fld
  go_enter Tryd.func34, Tryd.ntmps34
  go_wp2_with fail
  go_loopw [9] (fun iv wr => ∃ (i : Nat), i ≤ n ∧ iv = .int .i64 (i : Int) ∧ (∀ j o, j < i → os[j]? = some o → o.name ≠ c) ∧ Fr noB w wr) (fun iv _ => n - (intOf iv).toNat)
  case atStart => exact ⟨0, by omega, rfl, fun j o h => absurd h (by omega), Fr.refl _ _⟩
  case round =>
    obtain ⟨i, hi, rfl, ha, hw⟩ := hrel
    by_cases hlt : i < n
    · obtain ⟨o, ho⟩ : ∃ o, os[i]? = some o := ⟨_, List.getElem?_eq_getElem (by omega)⟩
      obtain ⟨ad, rfl, c1, c2⟩ := (hA.keep hw).fldAt ho
      have hne := hw.alloc (.cells #[.string (bs o.name), .string (bs o.value)] 66)
      by_cases he : o.name = c
      · have hb : (o.name == c) = true := by simpa using he
        have H := Lib.hid (named_at ho he)
        clear ho he ha
        go_wp2_with fail
        go_ret
        exact ⟨congrArg (fun b => Ending.returned (.bool b)) H.out.symm, hne⟩
      · have hb : (o.name == c) = false := by simpa using he
        have Ha : Hid (∀ j o, j < i + 1 → os[j]? = some o → o.name ≠ c) := Lib.hid (by
          intro j o' hj h2
          rcases Nat.lt_or_ge j i with h3 | h3
          · exact ha j o' h3 h2
          · obtain rfl : j = i := by omega
            rw [ho] at h2; cases h2; exact he)
        clear ho he ha
        go_wp2_with fail
        exact ⟨⟨i + 1, by omega, by rw [Int.natCast_add]; rfl, Ha.out, hne⟩, by simp only [intOf]; omega⟩
    · obtain rfl : i = n := by omega
      have H := Lib.hid (named_no (os := os) (n := c) (fun j o h => ha j o (by omega)))
      clear ha
      go_wp2_with fail
      go_ret
      exact ⟨congrArg (fun b => Ending.returned (.bool b)) H.out.symm, hw⟩
end Go.Proofs.YtcbkaiakdhiloabDoor
