/- The reference's word and the program's ascii: is a text of bytes from 33 to 126, one at the least? -/
import Derived.Test.YtcbkaiakdhiloabGreatDoorMaa
import Derived.BigQuiet
import Derived.Test.YtcbkaiakdhiloabGreatDoorMac
set_option linter.unusedSimpArgs false
set_option linter.unusedVariables false
namespace Go.Proofs.YtcbkaiakdhiloabGreatDoor
open Go.RowKit Go.Proofs
attribute [local go_sem] bs_size bs_append bs_extract

def chrOk (c : UInt8) : Bool := decide (33 ≤ c.toNat) && decide (c.toNat ≤ 126)
def wordB (l : List UInt8) : Bool := l.all chrOk && decide (0 < l.length)
theorem wordB_bad {l : List UInt8} {i : Nat} {c : UInt8} (h : l[i]? = some c) (hc : chrOk c = false) : wordB l = false := by
  unfold wordB
  have : l.all chrOk = false := by
    rw [List.all_eq_false]
    exact ⟨c, List.mem_of_getElem? h, by rw [hc]; decide⟩
  rw [this]; rfl
theorem take_all {l : List UInt8} {i : Nat} {c : UInt8} (h : l[i]? = some c) (ha : (l.take i).all chrOk = true) (hc : chrOk c = true) : (l.take (i + 1)).all chrOk = true := by
  rw [List.take_add_one, h]; simp [List.all_append, ha, hc]

set_option maxRecDepth 20000 in
set_option maxHeartbeats 1000000 in
theorem refWord (l : List UInt8) (w : World) (hl : l.length ≤ 4611686018427387904) :
    Calls Tryz.prog 144 #[.string (bs l)] w fun e w' => e = .returned (.bool (wordB l)) ∧ w' = w := by
  go_enter Tryz.func144, Tryz.ntmps144
  go_wp2_with fail
  go_loopw [3] (fun iv wr => ∃ (i : Nat), i ≤ l.length ∧ iv = .int .i64 (i : Int) ∧ (l.take i).all chrOk = true ∧ wr = w) (fun iv _ => l.length - (intOf iv).toNat)
  case atStart => exact ⟨0, by omega, rfl, rfl, rfl⟩
  case round =>
    obtain ⟨i, hi, rfl, ha, hw⟩ := hrel
    subst hw
    by_cases hlt : i < l.length
    · obtain ⟨c, hc⟩ : ∃ c, l[i]? = some c := ⟨_, List.getElem?_eq_getElem hlt⟩
      have hgi : ∀ h : i < (bs l).size, (bs l)[i]'h = c := fun h => by rw [bs_get l i h]; rw [List.getElem?_eq_getElem hlt] at hc; injection hc
      have hcl := c.toNat_lt
      have Hc := Lib.hid hc
      clear hc
      by_cases h1 : c.toNat < 33
      · have hbad : wordB l = false := wordB_bad Hc.out (by unfold chrOk; simp; omega)
        have Hbad := Lib.hid hbad
        clear hbad
        have h1i : (c.toNat : Int) < 33 := by omega
        go_wp2_with fail
        go_ret
        exact ⟨congrArg (fun b => Ending.returned (.bool b)) Hbad.out.symm, rfl⟩
      · have h1i : ¬ (c.toNat : Int) < 33 := by omega
        by_cases h2 : 126 < c.toNat
        · have hbad : wordB l = false := wordB_bad Hc.out (by unfold chrOk; simp; omega)
          have Hbad := Lib.hid hbad
          clear hbad
          have h2i : 126 < (c.toNat : Int) := by omega
          go_wp2_with fail
          go_ret
          exact ⟨congrArg (fun b => Ending.returned (.bool b)) Hbad.out.symm, rfl⟩
        · have h2i : ¬ 126 < (c.toNat : Int) := by omega
          have ha2 := take_all Hc.out ha (by unfold chrOk; simp; omega)
          have Ha2 := Lib.hid ha2
          clear ha2 ha
          go_wp2_with fail
          exact ⟨⟨i + 1, by omega, by rw [Int.natCast_add]; rfl, Ha2.out, trivial⟩, by simp only [intOf]; omega⟩
    · obtain rfl : i = l.length := by omega
      rw [List.take_length] at ha
      have hfin : wordB l = decide (0 < l.length) := by unfold wordB; rw [ha]; rfl
      have Hfin := Lib.hid hfin
      clear ha hfin
      go_wp2_with fail
      go_ret
      exact ⟨congrArg (fun b => Ending.returned (.bool b)) (by rw [Hfin.out]; try simp), rfl⟩

set_option maxRecDepth 20000 in
set_option maxHeartbeats 1000000 in
theorem tftpAscii (l : List UInt8) (w : World) (hl : l.length ≤ 4611686018427387904) :
    Calls Tryz.prog 121 #[.string (bs l)] w fun e w' => e = .returned (.bool (wordB l)) ∧ w' = w := by
  go_enter Tryz.func121, Tryz.ntmps121
  go_wp2_with fail
  go_loopw [6] (fun iv wr => ∃ (i : Nat), i ≤ l.length ∧ iv = .int .i64 (i : Int) ∧ (l.take i).all chrOk = true ∧ wr = w) (fun iv _ => l.length - (intOf iv).toNat)
  case atStart => exact ⟨0, by omega, rfl, rfl, rfl⟩
  case round =>
    obtain ⟨i, hi, rfl, ha, hw⟩ := hrel
    subst hw
    by_cases hlt : i < l.length
    · obtain ⟨c, hc⟩ : ∃ c, l[i]? = some c := ⟨_, List.getElem?_eq_getElem hlt⟩
      have hgi : ∀ h : i < (bs l).size, (bs l)[i]'h = c := fun h => by rw [bs_get l i h]; rw [List.getElem?_eq_getElem hlt] at hc; injection hc
      have hcl := c.toNat_lt
      have Hc := Lib.hid hc
      clear hc
      by_cases h1 : c.toNat < 33
      · have hbad : wordB l = false := wordB_bad Hc.out (by unfold chrOk; simp; omega)
        have Hbad := Lib.hid hbad
        clear hbad
        have h1i : (c.toNat : Int) < 33 := by omega
        go_wp2_with fail
        go_ret
        exact ⟨congrArg (fun b => Ending.returned (.bool b)) Hbad.out.symm, rfl⟩
      · have h1i : ¬ (c.toNat : Int) < 33 := by omega
        by_cases h2 : 126 < c.toNat
        · have hbad : wordB l = false := wordB_bad Hc.out (by unfold chrOk; simp; omega)
          have Hbad := Lib.hid hbad
          clear hbad
          have h2i : 126 < (c.toNat : Int) := by omega
          go_wp2_with fail
          go_ret
          exact ⟨congrArg (fun b => Ending.returned (.bool b)) Hbad.out.symm, rfl⟩
        · have h2i : ¬ 126 < (c.toNat : Int) := by omega
          have ha2 := take_all Hc.out ha (by unfold chrOk; simp; omega)
          have Ha2 := Lib.hid ha2
          clear ha2 ha
          go_wp2_with fail
          exact ⟨⟨i + 1, by omega, by rw [Int.natCast_add]; rfl, Ha2.out, trivial⟩, by simp only [intOf]; omega⟩
    · obtain rfl : i = l.length := by omega
      rw [List.take_length] at ha
      have hfin : wordB l = decide (0 < l.length) := by unfold wordB; rw [ha]; rfl
      have Hfin := Lib.hid hfin
      clear ha hfin
      rcases Nat.eq_zero_or_pos l.length with h0 | h0
      · have hln : bs l = ⟨#[]⟩ := by rw [List.eq_nil_of_length_eq_zero h0]; rfl
        rw [hln]
        go_wp2_with fail
        go_ret
        exact ⟨congrArg (fun b => Ending.returned (.bool b)) (by rw [Hfin.out]; simp [h0]), rfl⟩
      · have hne : ¬ bs l = ⟨#[]⟩ := fun h => by have h2 := congrArg ByteArray.size h; rw [bs_size] at h2; have h3 : l.length = 0 := h2; omega
        go_wp2_with fail
        go_ret
        exact ⟨congrArg (fun b => Ending.returned (.bool b)) (by rw [Hfin.out, decide_eq_true h0]; simp [bs_toList]; intro h; simp [h] at h0), rfl⟩
end Go.Proofs.YtcbkaiakdhiloabGreatDoor
namespace Go.Proofs.YtcbkaiakdhiloabGreatDoor
open Go.RowKit Go.Proofs
attribute [local go_sem] bs_size bs_append bs_extract

def lowC (c : UInt8) : UInt8 := if 65 ≤ c.toNat ∧ c.toNat ≤ 90 then c + 32 else c
def lowL (l : List UInt8) : List UInt8 := l.map lowC

set_option maxRecDepth 20000 in
set_option maxHeartbeats 1000000 in
theorem refLow (l : List UInt8) (w : World) (hl : l.length ≤ 4611686018427387904) :
    Calls Tryz.prog 235 #[.string (bs l)] w fun e w' => e = .returned (.string (bs (lowL l))) ∧ Fr noB w w' := by
  go_enter Tryz.func235, Tryz.ntmps235
  go_wp2_with fail
  go_loopw [3, 4] (fun ov iv wr => ∃ (i : Nat) (o : List UInt8), i ≤ l.length ∧ iv = .int .i64 (i : Int) ∧ o = lowL (l.take i) ∧ ov = .string (bs o) ∧ Fr noB w wr) (fun _ iv _ => l.length - (intOf iv).toNat)
  case atStart => exact ⟨0, [], by omega, rfl, rfl, rfl, Fr.refl _ _⟩
  case round =>
    obtain ⟨i, o, hi, rfl, ho, rfl, hf⟩ := hrel
    by_cases hlt : i < l.length
    · obtain ⟨c, hc⟩ : ∃ c, l[i]? = some c := ⟨_, List.getElem?_eq_getElem hlt⟩
      have hgi : ∀ h : i < (bs l).size, (bs l)[i]'h = c := fun h => by rw [bs_get l i h]; rw [List.getElem?_eq_getElem hlt] at hc; injection hc
      have hcl := c.toNat_lt
      have hol : o.length = i := by rw [ho]; simp [lowL, List.length_take]; omega
      have hln : ¬ 9223372036854775807 < o.length + 1 := by omega
      obtain ⟨y, hy⟩ : ∃ y, y = lowC c := ⟨_, rfl⟩
      have hnx : o ++ [y] = lowL (l.take (i + 1)) := by rw [List.take_add_one, hc, ho, hy]; simp [lowL]
      have hcv := run_str_of (P := Tryz.prog) (wr.alloc (.cells #[.int .u8 (y.toNat : Int)] 5)) 98 9 5 Tryz.underlying98 Tryz.underlying5 Tryz.underlying9 noB (some ⟨wr.heap.size, 0, none⟩) 1 1 [y] (SlR.of_bk (n := 1) (size := 1) (Bk.new wr 5 #[.int .u8 (y.toNat : Int)]) (fun x => x) rfl) (.inr ⟨_, _, rfl⟩)
      have hf2 : Fr noB w (wr.alloc (.cells #[.int .u8 (y.toNat : Int)] 5)) := hf.alloc _
      have Hnx := Lib.hid hnx
      have Hol := Lib.hid hol
      have Hy := Lib.hid hy
      clear hnx hol ho hy hc
      by_cases h1 : 65 ≤ c.toNat
      · by_cases h2 : c.toNat ≤ 90
        · have e1 : (c.toNat : Int) + 32 = (y.toNat : Int) := by
            have h := Hy.out; unfold lowC at h; rw [if_pos ⟨h1, h2⟩] at h; rw [h, UInt8.toNat_add, show (32 : UInt8).toNat = 32 from rfl]; omega
          have e2 : ((c.toNat : Int) + 32) % 256 = (y.toNat : Int) := by have := y.toNat_lt; omega
          have h1i : (65 : Int) ≤ (c.toNat : Int) := by omega
          have h2i : (c.toNat : Int) ≤ 90 := by omega
          go_wp2_with fail
          exact ⟨⟨i + 1, o ++ [y], by omega, by rw [Int.natCast_add]; rfl, Hnx.out, rfl, hf2⟩, by simp only [intOf]; omega⟩
        · have e1 : (c.toNat : Int) = (y.toNat : Int) := by
            have h := Hy.out; unfold lowC at h; rw [if_neg (by omega)] at h; rw [h]
          have h1i : (65 : Int) ≤ (c.toNat : Int) := by omega
          have h2i : ¬ (c.toNat : Int) ≤ 90 := by omega
          go_wp2_with fail
          exact ⟨⟨i + 1, o ++ [y], by omega, by rw [Int.natCast_add]; rfl, Hnx.out, rfl, hf2⟩, by simp only [intOf]; omega⟩
      · have e1 : (c.toNat : Int) = (y.toNat : Int) := by
          have h := Hy.out; unfold lowC at h; rw [if_neg (by omega)] at h; rw [h]
        have h1i : ¬ (65 : Int) ≤ (c.toNat : Int) := by omega
        go_wp2_with fail
        exact ⟨⟨i + 1, o ++ [y], by omega, by rw [Int.natCast_add]; rfl, Hnx.out, rfl, hf2⟩, by simp only [intOf]; omega⟩
    · obtain rfl : i = l.length := by omega
      rw [List.take_length] at ho
      subst ho
      go_wp2_with fail
      go_ret
      exact ⟨rfl, hf⟩
end Go.Proofs.YtcbkaiakdhiloabGreatDoor
namespace Go.Proofs.YtcbkaiakdhiloabGreatDoor

/-- a field -/
structure FldD where
  name : List UInt8
  value : List UInt8
/-- a message -/
structure TftD where
  op : Nat
  block : Nat
  text : List UInt8
  data : List UInt8
  fs : List FldD
def tft0 : TftD := ⟨0, 0, [], [], []⟩
/-- a text that ends with a byte 0, and what is behind it -/
def lineOf : List UInt8 → Option (List UInt8 × List UInt8)
  | [] => none
  | c :: r => if c = 0 then some ([], r) else (lineOf r).map fun x => (c :: x.1, x.2)
theorem lineOf_len : ∀ (l a r : List UInt8), lineOf l = some (a, r) → l.length = a.length + r.length + 1
  | [], _, _, h => by cases h
  | c :: l, a, r, h => by
    unfold lineOf at h
    split at h
    · cases h; simp
    · cases hl : lineOf l with
      | none => rw [hl] at h; cases h
      | some x =>
        rw [hl] at h
        simp at h
        obtain ⟨rfl, rfl⟩ := h
        have := lineOf_len l x.1 x.2 hl
        simp only [List.length_cons]; omega
theorem lineOf_at : ∀ (l : List UInt8) (i : Nat), l[i]? = some 0 → (∀ j, j < i → l[j]? ≠ some 0) → lineOf l = some (l.take i, l.drop (i + 1))
  | [], i, h, _ => by simp at h
  | c :: l, 0, h, _ => by
    simp at h; subst h; rfl
  | c :: l, i + 1, h, hn => by
    have hc : c ≠ 0 := fun e => hn 0 (by omega) (by simp [e])
    unfold lineOf
    rw [if_neg hc, lineOf_at l i (by simpa using h) (fun j hj e => hn (j + 1) (by omega) (by simpa using e))]
    simp
theorem lineOf_none : ∀ (l : List UInt8), (∀ j, j < l.length → l[j]? ≠ some 0) → lineOf l = none
  | [], _ => rfl
  | c :: l, hn => by
    have hc : c ≠ 0 := fun e => hn 0 (by simp) (by simp [e])
    unfold lineOf
    rw [if_neg hc, lineOf_none l (fun j hj e => hn (j + 1) (by simpa using hj) (by simpa using e))]
    rfl
def named (fs : List FldD) (n : List UInt8) : Bool := fs.any fun f => f.name == n
/-- fields, up to the end -/
def fldRead : Nat → List FldD → List UInt8 → Option (List FldD)
  | 0, _, _ => none
  | _ + 1, fs, [] => some fs
  | n + 1, fs, c :: l => match lineOf (c :: l) with
    | none => none
    | some (a, r) => match lineOf r with
      | none => none
      | some (b, r2) => if wordB a && wordB b && !(named fs (lowL a)) then fldRead n (fs ++ [⟨lowL a, b⟩]) r2 else none
def fldRd (fs : List FldD) (l : List UInt8) : Option (List FldD) := fldRead (l.length + 1) fs l
theorem fldRead_fuel : ∀ (n m : Nat) (fs : List FldD) (l : List UInt8), l.length < n → l.length < m → fldRead n fs l = fldRead m fs l
  | 0, _, _, _, h, _ => absurd h (Nat.not_lt_zero _)
  | _, 0, _, _, _, h => absurd h (Nat.not_lt_zero _)
  | n + 1, m + 1, fs, [], _, _ => rfl
  | n + 1, m + 1, fs, c :: l, h1, h2 => by
    unfold fldRead
    cases hl : lineOf (c :: l) with
    | none => rfl
    | some x =>
      obtain ⟨a, r⟩ := x
      have e1 := lineOf_len _ _ _ hl
      simp only
      cases hr : lineOf r with
      | none => rfl
      | some y =>
        obtain ⟨b, r2⟩ := y
        have e2 := lineOf_len _ _ _ hr
        simp only
        split
        · simp only [List.length_cons] at h1 h2 e1
          exact fldRead_fuel n m _ r2 (by omega) (by omega)
        · rfl
theorem fldRd_nil (fs : List FldD) : fldRd fs [] = some fs := rfl
theorem fldRd_none1 (fs : List FldD) (l : List UInt8) (hne : l ≠ []) (h : lineOf l = none) : fldRd fs l = none := by
  cases l with
  | nil => exact absurd rfl hne
  | cons c l => unfold fldRd fldRead; rw [h]
theorem fldRd_none2 (fs : List FldD) (l a r : List UInt8) (h : lineOf l = some (a, r)) (h2 : lineOf r = none) : fldRd fs l = none := by
  cases l with
  | nil => cases h
  | cons c l => unfold fldRd fldRead; rw [h]; simp only; rw [h2]
theorem fldRd_bad (fs : List FldD) (l a r b r2 : List UInt8) (h : lineOf l = some (a, r)) (h2 : lineOf r = some (b, r2)) (hb : (wordB a && wordB b && !(named fs (lowL a))) = false) : fldRd fs l = none := by
  cases l with
  | nil => cases h
  | cons c l => unfold fldRd fldRead; rw [h]; simp only; rw [h2]; simp only; rw [hb]; rfl
theorem fldRd_ok (fs : List FldD) (l a r b r2 : List UInt8) (h : lineOf l = some (a, r)) (h2 : lineOf r = some (b, r2)) (hb : (wordB a && wordB b && !(named fs (lowL a))) = true) :
    fldRd fs l = fldRd (fs ++ [⟨lowL a, b⟩]) r2 := by
  cases l with
  | nil => cases h
  | cons c l =>
    have e1 := lineOf_len _ _ _ h
    have e2 := lineOf_len _ _ _ h2
    unfold fldRd
    rw [fldRead.eq_3, h]; simp only; rw [h2]; simp only; rw [hb]
    simp only [if_true]
    exact fldRead_fuel _ _ _ _ (by omega) (by omega)
def octet : List UInt8 := [111, 99, 116, 101, 116]
def readTFTP (l : List UInt8) : TftD × Nat :=
  if l.length < 2 then (tft0, 1)
  else if num (sub l 0 2) = 1 then match lineOf (l.drop 2) with
    | none => (tft0, 2)
    | some (a, r) => if wordB a = false then (tft0, 2) else match lineOf r with
      | none => (tft0, 2)
      | some (b, r2) => if lowL b = octet then (match fldRd [] r2 with
        | none => (tft0, 2)
        | some fs => (⟨1, 0, a, [], fs⟩, 0)) else (tft0, 2)
  else if num (sub l 0 2) = 6 then match fldRd [] (l.drop 2) with
    | none => (tft0, 2)
    | some fs => (⟨6, 0, [], [], fs⟩, 0)
  else if num (sub l 0 2) = 3 then if l.length < 4 then (tft0, 1) else if 1024 < (l.drop 4).length then (tft0, 7) else (⟨3, num (sub l 2 4), [], l.drop 4, []⟩, 0)
  else if num (sub l 0 2) = 4 then if l.length < 4 then (tft0, 1) else if l.drop 4 ≠ [] then (tft0, 2) else (⟨4, num (sub l 2 4), [], [], []⟩, 0)
  else if num (sub l 0 2) = 5 then if l.length < 4 then (tft0, 1) else match lineOf (l.drop 4) with
    | some (a, []) => (⟨5, num (sub l 2 4), a, [], []⟩, 0)
    | _ => (tft0, 2)
  else (tft0, 2)
end Go.Proofs.YtcbkaiakdhiloabGreatDoor
namespace Go.Proofs.YtcbkaiakdhiloabGreatDoor
open Go.RowKit Go.Proofs
attribute [local go_sem] bs_size bs_append bs_extract bs_toList

/-- fields as cells -/
def fldC : List FldD → List Value
  | [] => []
  | o :: r => .string (bs o.name) :: .string (bs o.value) :: fldC r
theorem fldC_length : ∀ os : List FldD, (fldC os).length = os.length * 2
  | [] => rfl
  | o :: r => by simp only [fldC, List.length_cons, fldC_length r]; omega
theorem fldC_append : ∀ a b : List FldD, fldC (a ++ b) = fldC a ++ fldC b
  | [], _ => rfl
  | o :: r, b => by simp only [List.cons_append, fldC, fldC_append r b]
theorem fldC_name : ∀ (os : List FldD) (k : Nat) (o : FldD), os[k]? = some o → (fldC os)[k * 2]? = some (.string (bs o.name))
  | [], _, _, h => by cases h
  | o :: r, 0, o', h => by cases h; rfl
  | o :: r, k + 1, o', h => by
    rw [show (k + 1) * 2 = k * 2 + 1 + 1 by omega]
    exact fldC_name r k o' h
theorem fldC_value : ∀ (os : List FldD) (k : Nat) (o : FldD), os[k]? = some o → (fldC os)[k * 2 + 1]? = some (.string (bs o.value))
  | [], _, _, h => by cases h
  | o :: r, 0, o', h => by cases h; rfl
  | o :: r, k + 1, o', h => by
    rw [show (k + 1) * 2 + 1 = k * 2 + 1 + 1 + 1 by omega]
    exact fldC_value r k o' h
theorem fldC_one {os : List FldD} : ∀ u ∈ fldC os, u.oneCell' = true := by
  induction os with
  | nil => intro u h; cases h
  | cons o r ih =>
    intro u h
    simp only [fldC, List.mem_cons] at h
    rcases h with rfl | rfl | h
    · rfl
    · rfl
    · exact ih u h
theorem SlR.fld {w : World} {S : Nat → Prop} {A : Option Addr} {n : Nat} {os : List FldD} (h : SlR w S 2 A n (fldC os)) : os.length = n := by
  have := h.1; rw [fldC_length] at this; omega
theorem SlR.fldAt {w : World} {S : Nat → Prop} {A : Option Addr} {n k : Nat} {os : List FldD} {o : FldD} (h : SlR w S 2 A n (fldC os)) (hk : os[k]? = some o) :
    ∃ ad, A = some ad ∧ w.cell? (ad.add (k * 2)) = some (.string (bs o.name)) ∧ w.cell? ⟨(ad.add (k * 2)).block, (ad.add (k * 2)).off + 1, none⟩ = some (.string (bs o.value)) := by
  have hl : k < os.length := by
    rcases Nat.lt_or_ge k os.length with h1 | h1
    · exact h1
    · rw [List.getElem?_eq_none h1] at hk; cases hk
  have hn := h.fld
  obtain ⟨ad, e, _, _, hc⟩ := h.2 (by omega)
  exact ⟨ad, e, hc _ _ (fldC_name os k o hk), by
    have := hc _ _ (fldC_value os k o hk)
    rw [← add_add] at this
    exact this⟩
theorem fld_info : (Tryz.prog.info? 83).map (fun i => (i.zero, i.size, i.bytes)) = some (some (.agg #[.string ⟨#[]⟩, .string ⟨#[]⟩]), 2, 32) := by kernel_rfl
/-- a message as cells; its fields lie at A -/
def tftC (d : TftD) (A : Option Addr) (cap : Nat) : Array Value := #[.int .u16 (d.op : Int), .int .u16 (d.block : Int), .string (bs d.text), .string (bs d.data), .slice A d.fs.length cap]
theorem tftC_size (d : TftD) (A : Option Addr) (cap : Nat) : (tftC d A cap).size = 5 := rfl
theorem tftC_one (d : TftD) (A : Option Addr) (cap : Nat) : (tftC d A cap).all (·.oneCell') = true := by simp [tftC, Value.oneCell']
theorem tft_info (d : TftD) (A : Option Addr) (cap : Nat) : (Tryz.prog.info? 81).map (·.size) = some (tftC d A cap).size := by rw [tftC_size]; kernel_rfl
def tftPost (l : List UInt8) (w : World) (e : Ending) (w' : World) : Prop :=
  (∃ A cap, e = .returned (.tuple #[.agg (tftC (readTFTP l).1 A cap), .int .i64 ((readTFTP l).2 : Int)]) ∧ SlR w' (fun k => k < w.heap.size) 2 A (readTFTP l).1.fs.length (fldC (readTFTP l).1.fs)) ∧ Fr noB w w'
theorem bs_nil' : bs [] = (⟨#[]⟩ : ByteArray) := rfl
/-- how much fields are -/
def wtF : List FldD → Nat
  | [] => 0
  | o :: r => o.name.length + o.value.length + 1 + wtF r
theorem wtF_len : ∀ os : List FldD, os.length ≤ wtF os
  | [] => Nat.le_refl _
  | o :: r => by have := wtF_len r; simp only [List.length_cons, wtF]; omega
theorem wtF_at : ∀ (os : List FldD) (k : Nat) (o : FldD), os[k]? = some o → o.name.length + o.value.length ≤ wtF os
  | [], _, _, h => by cases h
  | o :: r, 0, o', h => by cases h; simp only [wtF]; omega
  | o :: r, k + 1, o', h => by have := wtF_at r k o' h; simp only [wtF]; omega
theorem wtF_append : ∀ (a b : List FldD), wtF (a ++ b) = wtF a + wtF b
  | [], b => by simp [wtF]
  | o :: r, b => by simp only [List.cons_append, wtF, wtF_append r b]; omega
theorem named_at {os : List FldD} {i : Nat} {o : FldD} {n : List UInt8} (h : os[i]? = some o) (hn : o.name = n) : named os n = true := by
  unfold named
  rw [List.any_eq_true]
  exact ⟨o, List.mem_of_getElem? h, by simpa using hn⟩
theorem named_no {os : List FldD} {n : List UInt8} (h : ∀ j o, j < os.length → os[j]? = some o → o.name ≠ n) : named os n = false := by
  unfold named
  rw [List.any_eq_false]
  intro o ho
  obtain ⟨j, hj, e⟩ := List.getElem_of_mem ho
  have := h j o hj (by rw [List.getElem?_eq_getElem hj, e])
  simpa using this
set_option maxRecDepth 20000 in
set_option maxHeartbeats 1000000 in
theorem tftHas (A : Option Addr) (n cap : Nat) (os : List FldD) (c : List UInt8) (w : World) (hA : SlR w noB 2 A n (fldC os)) (hn : n ≤ 4611686018427387904) :
    Calls Tryz.prog 123 #[.slice A n cap, .string (bs c)] w fun e w' => e = .returned (.bool (named os c)) ∧ Fr noB w w' := by
  have hlen := hA.fld
  go_enter Tryz.func123, Tryz.ntmps123
  go_wp2_with fail
  go_loopw [9] (fun iv wr => ∃ (i : Nat), i ≤ n ∧ iv = .int .i64 (i : Int) ∧ (∀ j o, j < i → os[j]? = some o → o.name ≠ c) ∧ Fr noB w wr) (fun iv _ => n - (intOf iv).toNat)
  case atStart => exact ⟨0, by omega, rfl, fun j o h => absurd h (by omega), Fr.refl _ _⟩
  case round =>
    obtain ⟨i, hi, rfl, ha, hw⟩ := hrel
    by_cases hlt : i < n
    · obtain ⟨o, ho⟩ : ∃ o, os[i]? = some o := ⟨_, List.getElem?_eq_getElem (by omega)⟩
      obtain ⟨ad, rfl, c1, c2⟩ := (hA.keep hw).fldAt ho
      have hne := hw.alloc (.cells #[.string (bs o.name), .string (bs o.value)] 83)
      by_cases he : o.name = c
      · have hb : (o.name == c) = true := by simpa using he
        have H := Lib.hid (named_at ho he)
        clear ho he ha
        go_wp2_with fail
        go_ret
        exact ⟨congrArg (fun b => Ending.returned (.bool b)) H.out.symm, hne⟩
      · have hb : (o.name == c) = false := by simpa using he
        have Ha : Hid (∀ j o, j < i + 1 → os[j]? = some o → o.name ≠ c) := Lib.hid (by
          intro j o' hj h2
          rcases Nat.lt_or_ge j i with h3 | h3
          · exact ha j o' h3 h2
          · obtain rfl : j = i := by omega
            rw [ho] at h2; cases h2; exact he)
        clear ho he ha
        go_wp2_with fail
        exact ⟨⟨i + 1, by omega, by rw [Int.natCast_add]; rfl, Ha.out, hne⟩, by simp only [intOf]; omega⟩
    · obtain rfl : i = n := by omega
      have H := Lib.hid (named_no (os := os) (n := c) (fun j o h => ha j o (by omega)))
      clear ha
      go_wp2_with fail
      go_ret
      exact ⟨congrArg (fun b => Ending.returned (.bool b)) H.out.symm, hw⟩
set_option maxRecDepth 20000 in
set_option maxHeartbeats 1000000 in
theorem refNamed (A : Option Addr) (n cap : Nat) (os : List FldD) (c : List UInt8) (w : World) (hA : SlR w noB 2 A n (fldC os)) (hn : n ≤ 4611686018427387904) :
    Calls Tryz.prog 272 #[.slice A n cap, .string (bs c)] w fun e w' => e = .returned (.bool (named os c)) ∧ Fr noB w w' := by
  have hlen := hA.fld
  go_enter Tryz.func272, Tryz.ntmps272
  go_wp2_with fail
  go_loopw [9] (fun iv wr => ∃ (i : Nat), i ≤ n ∧ iv = .int .i64 (i : Int) ∧ (∀ j o, j < i → os[j]? = some o → o.name ≠ c) ∧ Fr noB w wr) (fun iv _ => n - (intOf iv).toNat)
  case atStart => exact ⟨0, by omega, rfl, fun j o h => absurd h (by omega), Fr.refl _ _⟩
  case round =>
    obtain ⟨i, hi, rfl, ha, hw⟩ := hrel
    by_cases hlt : i < n
    · obtain ⟨o, ho⟩ : ∃ o, os[i]? = some o := ⟨_, List.getElem?_eq_getElem (by omega)⟩
      obtain ⟨ad, rfl, c1, c2⟩ := (hA.keep hw).fldAt ho
      have hne := hw.alloc (.cells #[.string (bs o.name), .string (bs o.value)] 83)
      by_cases he : o.name = c
      · have hb : (o.name == c) = true := by simpa using he
        have H := Lib.hid (named_at ho he)
        clear ho he ha
        go_wp2_with fail
        go_ret
        exact ⟨congrArg (fun b => Ending.returned (.bool b)) H.out.symm, hne⟩
      · have hb : (o.name == c) = false := by simpa using he
        have Ha : Hid (∀ j o, j < i + 1 → os[j]? = some o → o.name ≠ c) := Lib.hid (by
          intro j o' hj h2
          rcases Nat.lt_or_ge j i with h3 | h3
          · exact ha j o' h3 h2
          · obtain rfl : j = i := by omega
            rw [ho] at h2; cases h2; exact he)
        clear ho he ha
        go_wp2_with fail
        exact ⟨⟨i + 1, by omega, by rw [Int.natCast_add]; rfl, Ha.out, hne⟩, by simp only [intOf]; omega⟩
    · obtain rfl : i = n := by omega
      have H := Lib.hid (named_no (os := os) (n := c) (fun j o h => ha j o (by omega)))
      clear ha
      go_wp2_with fail
      go_ret
      exact ⟨congrArg (fun b => Ending.returned (.bool b)) H.out.symm, hw⟩
end Go.Proofs.YtcbkaiakdhiloabGreatDoor
namespace Go.Proofs.YtcbkaiakdhiloabGreatDoor

/-- what a field must be, behind those before it -/
def fldOk (b4 : List FldD) (o : FldD) : Bool := wordB o.name && wordB o.value && (o.name == lowL o.name) && !(named b4 o.name)
/-- fields as bytes; none where one is not as it must be -/
def fldW : List FldD → List FldD → Option (List UInt8)
  | _, [] => some []
  | b4, o :: r => if fldOk b4 o then (fldW (b4 ++ [o]) r).map fun t => o.name ++ 0 :: o.value ++ 0 :: t else none
def fldB (fs : List FldD) : List UInt8 := fs.flatMap fun o => o.name ++ 0 :: o.value ++ [0]
theorem fldB_len : ∀ fs : List FldD, (fldB fs).length ≤ 2 * wtF fs
  | [] => Nat.le_refl _
  | o :: r => by
    have h2 := fldB_len r
    unfold fldB at h2 ⊢
    rw [List.flatMap_cons, List.length_append]
    simp only [List.length_append, List.length_cons, List.length_nil, wtF]; omega
theorem wtF_take : ∀ (fs : List FldD) (i : Nat), wtF (fs.take i) ≤ wtF fs
  | [], i => by simp
  | o :: r, 0 => Nat.zero_le _
  | o :: r, i + 1 => by have := wtF_take r i; simp only [List.take_succ_cons, wtF]; omega
theorem fldB_succ {fs : List FldD} {i : Nat} {o : FldD} (h : fs[i]? = some o) : fldB (fs.take (i + 1)) = fldB (fs.take i) ++ (o.name ++ 0 :: o.value ++ [0]) := by
  have hi : i < fs.length := by
    rcases Nat.lt_or_ge i fs.length with h1 | h1
    · exact h1
    · rw [List.getElem?_eq_none h1] at h; cases h
  rw [List.getElem?_eq_getElem hi] at h
  cases h
  unfold fldB
  rw [List.take_succ_eq_append_getElem hi, List.flatMap_append]; simp
theorem fldW_good : ∀ (fs b4 : List FldD), (∀ j o, fs[j]? = some o → fldOk (b4 ++ fs.take j) o = true) → fldW b4 fs = some (fldB fs)
  | [], _, _ => rfl
  | x :: r, b4, h => by
    have h0 := h 0 x rfl
    simp only [List.take_zero, List.append_nil] at h0
    have hr := fldW_good r (b4 ++ [x]) (fun j o hj => by
      have := h (j + 1) o (by simpa using hj)
      rwa [List.take_succ_cons, List.append_cons] at this)
    unfold fldW
    rw [h0, hr]
    simp [fldB]
theorem fldW_bad : ∀ (fs b4 : List FldD) (j : Nat) (o : FldD), fs[j]? = some o → fldOk (b4 ++ fs.take j) o = false → fldW b4 fs = none
  | [], _, _, _, h, _ => by cases h
  | x :: r, b4, 0, o, h, hb => by
    cases h
    simp only [List.take_zero, List.append_nil] at hb
    unfold fldW; rw [hb]; rfl
  | x :: r, b4, j + 1, o, h, hb => by
    rw [List.take_succ_cons, List.append_cons] at hb
    have := fldW_bad r (b4 ++ [x]) j o (by simpa using h) hb
    unfold fldW
    rw [this]
    simp
/-- the first i fields are as they must be -/
def fldTo (fs : List FldD) (i : Nat) : Prop := ∀ j o, j < i → fs[j]? = some o → fldOk (fs.take j) o = true
theorem fldTo_all {fs : List FldD} (h : fldTo fs fs.length) : fldW [] fs = some (fldB fs) := fldW_good fs [] (fun j o hj => by
  refine h j o ?_ hj
  rcases Nat.lt_or_ge j fs.length with h1 | h1
  · exact h1
  · rw [List.getElem?_eq_none h1] at hj; cases hj)
theorem fldTo_bad {fs : List FldD} {i : Nat} {o : FldD} (h : fs[i]? = some o) (hb : fldOk (fs.take i) o = false) : fldW [] fs = none := fldW_bad fs [] i o h hb
theorem fldTo_succ {fs : List FldD} {i : Nat} {o : FldD} (h : fldTo fs i) (ho : fs[i]? = some o) (hb : fldOk (fs.take i) o = true) : fldTo fs (i + 1) := by
  intro j o' hj h2
  rcases Nat.lt_or_ge j i with h3 | h3
  · exact h j o' h3 h2
  · obtain rfl : j = i := by omega
    rw [ho] at h2; cases h2; exact hb
def capT (l : List UInt8) : List UInt8 × Nat := if 1472 < l.length then ([], 7) else (l, 0)
def wrTFTP (d : TftD) : List UInt8 × Nat :=
  if d.op = 1 then if wordB d.text then (match fldW [] d.fs with
    | none => ([], 2)
    | some t => capT (big 2 d.op ++ d.text ++ [0, 111, 99, 116, 101, 116, 0] ++ t)) else ([], 2)
  else if d.op = 6 then (match fldW [] d.fs with
    | none => ([], 2)
    | some t => capT (big 2 d.op ++ t))
  else if d.op = 3 then if 1024 < d.data.length then ([], 7) else capT (big 2 d.op ++ big 2 d.block ++ d.data)
  else if d.op = 4 then capT (big 2 d.op ++ big 2 d.block)
  else if d.op = 5 then if d.text.contains 0 then ([], 2) else capT (big 2 d.op ++ big 2 d.block ++ d.text ++ [0])
  else ([], 2)
theorem fldC_take : ∀ (fs : List FldD) (k : Nat), fldC (fs.take k) = (fldC fs).take (k * 2)
  | [], k => by simp [fldC]
  | o :: r, 0 => rfl
  | o :: r, k + 1 => by
    rw [show (k + 1) * 2 = k * 2 + 1 + 1 by omega]
    simp only [List.take_succ_cons, fldC, fldC_take r k]
theorem SlR.fldTake {w : World} {S : Nat → Prop} {A : Option Addr} {n k : Nat} {fs : List FldD} (h : SlR w S 2 A n (fldC fs)) (hk : k ≤ n) : SlR w S 2 A k (fldC (fs.take k)) := by
  refine ⟨by rw [fldC_take, List.length_take, h.1]; omega, fun h0 => ?_⟩
  obtain ⟨ad, e, hb, hS, hc⟩ := h.2 (by omega)
  refine ⟨ad, e, hb, hS, fun j u hu => hc j u ?_⟩
  rw [fldC_take, List.getElem?_take] at hu
  split at hu
  · exact hu
  · cases hu
end Go.Proofs.YtcbkaiakdhiloabGreatDoor
