/- Options in memory, and looking for one: the program's Of and the reference's Option. -/
import Derived.Test.YtcbkaiakdhiloabMem
import Derived.Test.YtcbkaiakdhiloabDhcP
set_option linter.unusedSimpArgs false
set_option linter.unusedVariables false
namespace Go.Proofs.Ytcbkaiakdhiloab
open Go.RowKit Go.Proofs
attribute [local go_sem] bs_size bs_append bs_extract

/-- options as cells -/
def optC : List OptD → List Value
  | [] => []
  | o :: r => .int .u8 (o.code.toNat : Int) :: .string (bs o.data) :: optC r
theorem optC_length : ∀ os : List OptD, (optC os).length = os.length * 2
  | [] => rfl
  | o :: r => by simp only [optC, List.length_cons, optC_length r]; omega
theorem optC_append : ∀ a b : List OptD, optC (a ++ b) = optC a ++ optC b
  | [], _ => rfl
  | o :: r, b => by simp only [List.cons_append, optC, optC_append r b]
theorem optC_code : ∀ (os : List OptD) (k : Nat) (o : OptD), os[k]? = some o → (optC os)[k * 2]? = some (.int .u8 (o.code.toNat : Int))
  | [], _, _, h => by cases h
  | o :: r, 0, o', h => by cases h; rfl
  | o :: r, k + 1, o', h => by
    rw [show (k + 1) * 2 = k * 2 + 1 + 1 by omega]
    exact optC_code r k o' h
theorem optC_data : ∀ (os : List OptD) (k : Nat) (o : OptD), os[k]? = some o → (optC os)[k * 2 + 1]? = some (.string (bs o.data))
  | [], _, _, h => by cases h
  | o :: r, 0, o', h => by cases h; rfl
  | o :: r, k + 1, o', h => by
    rw [show (k + 1) * 2 + 1 = k * 2 + 1 + 1 + 1 by omega]
    exact optC_data r k o' h
/-- looked for from the k-th on -/
theorem optOf_drop {os : List OptD} {k : Nat} {o : OptD} (h : os[k]? = some o) (c : UInt8) : optOf (os.drop k) c = if o.code = c then some o.data else optOf (os.drop (k + 1)) c := by
  have hk : k < os.length := by
    rcases Nat.lt_or_ge k os.length with h1 | h1
    · exact h1
    · rw [List.getElem?_eq_none h1] at h; cases h
  rw [List.drop_eq_getElem_cons hk]
  rw [List.getElem?_eq_getElem hk] at h
  cases h
  rfl
theorem SlR.opt {w : World} {S : Nat → Prop} {A : Option Addr} {n : Nat} {os : List OptD} (h : SlR w S 2 A n (optC os)) : os.length = n := by
  have := h.1; rw [optC_length] at this; omega
theorem SlR.optAt {w : World} {S : Nat → Prop} {A : Option Addr} {n k : Nat} {os : List OptD} {o : OptD} (h : SlR w S 2 A n (optC os)) (hk : os[k]? = some o) :
    ∃ ad, A = some ad ∧ w.cell? (ad.add (k * 2)) = some (.int .u8 (o.code.toNat : Int)) ∧ w.cell? ⟨(ad.add (k * 2)).block, (ad.add (k * 2)).off + 1, none⟩ = some (.string (bs o.data)) := by
  have hl : k < os.length := by
    rcases Nat.lt_or_ge k os.length with h1 | h1
    · exact h1
    · rw [List.getElem?_eq_none h1] at hk; cases hk
  have hn := h.opt
  obtain ⟨ad, e, _, _, hc⟩ := h.2 (by omega)
  exact ⟨ad, e, hc _ _ (optC_code os k o hk), by
    have := hc _ _ (optC_data os k o hk)
    rw [← add_add] at this
    exact this⟩
theorem u8_ne {a b : UInt8} (h : a ≠ b) : ((a.toNat : Int) == (b.toNat : Int)) = false := by
  rw [beq_eq_false_iff_ne]
  intro e
  exact h (UInt8.toNat.inj (by omega))

set_option maxRecDepth 20000 in
set_option maxHeartbeats 1000000 in
theorem dhcOf (S : Nat → Prop) (A : Option Addr) (n cap : Nat) (os : List OptD) (c : UInt8) (w : World) (hA : SlR w S 2 A n (optC os)) (hn : n ≤ 4611686018427387904) :
    Calls Try.prog 70 #[.slice A n cap, .int .u8 (c.toNat : Int)] w fun e w' =>
      e = .returned (.tuple #[.string (bs ((optOf os c).getD [])), .bool (optOf os c).isSome]) ∧ Fr noB w w' := by
  have hlen := hA.opt
  go_enter Try.func70, Try.ntmps70
  go_wp2_with fail
  go_loopw [10] (fun iv wr => ∃ (i : Nat), i ≤ n ∧ iv = .int .i64 (i : Int) ∧ optOf os c = optOf (os.drop i) c ∧ Fr noB w wr) (fun iv _ => n - (intOf iv).toNat)
  case atStart => exact ⟨0, by omega, rfl, rfl, Fr.refl _ _⟩
  case round =>
    obtain ⟨i, hi, rfl, ha, hw⟩ := hrel
    by_cases hlt : i < n
    · obtain ⟨o, ho⟩ : ∃ o, os[i]? = some o := ⟨_, List.getElem?_eq_getElem (by omega)⟩
      obtain ⟨ad, rfl, c1, c2⟩ := ((hA.sub (T := noB) (fun _ _ x => x.elim)).keep hw).optAt ho
      have ha2 := ha.trans (optOf_drop ho c)
      have Ha := Lib.hid ha2
      clear ha ha2 ho
      have hne := Lib.hid (Fr.alloc hw (.cells #[.int .u8 (o.code.toNat : Int), .string (bs o.data)] 56))
      by_cases he : o.code = c
      · subst he
        have H1 : Hid (optOf os o.code = some o.data) := Lib.hid (by have := Ha.out; rw [if_pos rfl] at this; exact this)
        clear Ha
        go_wp2_with fail
        go_ret2
        rw [H1.out]
        exact ⟨rfl, hne.out⟩
      · have hb := u8_ne he
        have H1 : Hid (optOf os c = optOf (os.drop (i + 1)) c) := Lib.hid (by have := Ha.out; rw [if_neg he] at this; exact this)
        have hbi : ¬ (o.code.toNat : Int) = (c.toNat : Int) := by simpa using hb
        clear Ha he
        go_wp2_with fail
        exact ⟨⟨i + 1, by omega, by rw [Int.natCast_add]; rfl, H1.out, hne.out⟩, by simp only [intOf]; omega⟩
    · obtain rfl : i = n := by omega
      have H1 : Hid (optOf os c = none) := Lib.hid (by rw [ha, List.drop_of_length_le (by omega)]; rfl)
      clear ha
      go_wp2_with fail
      go_ret2
      rw [H1.out]
      exact ⟨rfl, hw⟩

set_option maxRecDepth 20000 in
set_option maxHeartbeats 1000000 in
theorem refOption (S : Nat → Prop) (A : Option Addr) (n cap : Nat) (os : List OptD) (c : UInt8) (w : World) (hA : SlR w S 2 A n (optC os)) (hn : n ≤ 4611686018427387904) :
    Calls Try.prog 33 #[.slice A n cap, .int .u8 (c.toNat : Int)] w fun e w' =>
      e = .returned (.tuple #[.string (bs ((optOf os c).getD [])), .bool (optOf os c).isSome]) ∧ Fr noB w w' := by
  have hlen := hA.opt
  go_enter Try.func33, Try.ntmps33
  go_wp2_with fail
  go_loopw [10] (fun iv wr => ∃ (i : Nat), i ≤ n ∧ iv = .int .i64 (i : Int) ∧ optOf os c = optOf (os.drop i) c ∧ Fr noB w wr) (fun iv _ => n - (intOf iv).toNat)
  case atStart => exact ⟨0, by omega, rfl, rfl, Fr.refl _ _⟩
  case round =>
    obtain ⟨i, hi, rfl, ha, hw⟩ := hrel
    by_cases hlt : i < n
    · obtain ⟨o, ho⟩ : ∃ o, os[i]? = some o := ⟨_, List.getElem?_eq_getElem (by omega)⟩
      obtain ⟨ad, rfl, c1, c2⟩ := ((hA.sub (T := noB) (fun _ _ x => x.elim)).keep hw).optAt ho
      have ha2 := ha.trans (optOf_drop ho c)
      have Ha := Lib.hid ha2
      clear ha ha2 ho
      have hne := Lib.hid (Fr.alloc hw (.cells #[.int .u8 (o.code.toNat : Int), .string (bs o.data)] 56))
      by_cases he : o.code = c
      · subst he
        have H1 : Hid (optOf os o.code = some o.data) := Lib.hid (by have := Ha.out; rw [if_pos rfl] at this; exact this)
        clear Ha
        go_wp2_with fail
        go_ret2
        rw [H1.out]
        exact ⟨rfl, hne.out⟩
      · have hb := u8_ne he
        have H1 : Hid (optOf os c = optOf (os.drop (i + 1)) c) := Lib.hid (by have := Ha.out; rw [if_neg he] at this; exact this)
        have hbi : ¬ (o.code.toNat : Int) = (c.toNat : Int) := by simpa using hb
        clear Ha he
        go_wp2_with fail
        exact ⟨⟨i + 1, by omega, by rw [Int.natCast_add]; rfl, H1.out, hne.out⟩, by simp only [intOf]; omega⟩
    · obtain rfl : i = n := by omega
      have H1 : Hid (optOf os c = none) := Lib.hid (by rw [ha, List.drop_of_length_le (by omega)]; rfl)
      clear ha
      go_wp2_with fail
      go_ret2
      rw [H1.out]
      exact ⟨rfl, hw⟩
end Go.Proofs.Ytcbkaiakdhiloab
