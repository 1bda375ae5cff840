/- Options in memory, and looking for one: the program's Of and the reference's Option. -/
import Derived.Test.YtcbkaiakdhiloabGreatDoorMaa
import Derived.Test.YtcbkaiakdhiloabGreatDoorMai
import Derived.Test.YtcbkaiakdhiloabGreatDoorMac
set_option linter.unusedSimpArgs false
set_option linter.unusedVariables false
namespace Go.Proofs.YtcbkaiakdhiloabGreatDoor
open Go.RowKit Go.Proofs
attribute [local go_sem] bs_size bs_append bs_extract

/-- options as cells -/
def optC : List OptD → List Value
  | [] => []
  | o :: r => .int .u8 (o.code.toNat : Int) :: .string (bs o.data) :: optC r
theorem optC_length : ∀ os : List OptD, (optC os).length = os.length * 2
  | [] => rfl
  | o :: r => by simp only [optC, List.length_cons, optC_length r]; omega
theorem optC_append : ∀ a b : List OptD, optC (a ++ b) = optC a ++ optC b
  | [], _ => rfl
  | o :: r, b => by simp only [List.cons_append, optC, optC_append r b]
theorem optC_code : ∀ (os : List OptD) (k : Nat) (o : OptD), os[k]? = some o → (optC os)[k * 2]? = some (.int .u8 (o.code.toNat : Int))
  | [], _, _, h => by cases h
  | o :: r, 0, o', h => by cases h; rfl
  | o :: r, k + 1, o', h => by
    rw [show (k + 1) * 2 = k * 2 + 1 + 1 by omega]
    exact optC_code r k o' h
theorem optC_data : ∀ (os : List OptD) (k : Nat) (o : OptD), os[k]? = some o → (optC os)[k * 2 + 1]? = some (.string (bs o.data))
  | [], _, _, h => by cases h
  | o :: r, 0, o', h => by cases h; rfl
  | o :: r, k + 1, o', h => by
    rw [show (k + 1) * 2 + 1 = k * 2 + 1 + 1 + 1 by omega]
    exact optC_data r k o' h
/-- looked for from the k-th on -/
theorem optOf_drop {os : List OptD} {k : Nat} {o : OptD} (h : os[k]? = some o) (c : UInt8) : optOf (os.drop k) c = if o.code = c then some o.data else optOf (os.drop (k + 1)) c := by
  have hk : k < os.length := by
    rcases Nat.lt_or_ge k os.length with h1 | h1
    · exact h1
    · rw [List.getElem?_eq_none h1] at h; cases h
  rw [List.drop_eq_getElem_cons hk]
  rw [List.getElem?_eq_getElem hk] at h
  cases h
  rfl
theorem SlR.opt {w : World} {S : Nat → Prop} {A : Option Addr} {n : Nat} {os : List OptD} (h : SlR w S 2 A n (optC os)) : os.length = n := by
  have := h.1; rw [optC_length] at this; omega
theorem SlR.optAt {w : World} {S : Nat → Prop} {A : Option Addr} {n k : Nat} {os : List OptD} {o : OptD} (h : SlR w S 2 A n (optC os)) (hk : os[k]? = some o) :
    ∃ ad, A = some ad ∧ w.cell? (ad.add (k * 2)) = some (.int .u8 (o.code.toNat : Int)) ∧ w.cell? ⟨(ad.add (k * 2)).block, (ad.add (k * 2)).off + 1, none⟩ = some (.string (bs o.data)) := by
  have hl : k < os.length := by
    rcases Nat.lt_or_ge k os.length with h1 | h1
    · exact h1
    · rw [List.getElem?_eq_none h1] at hk; cases hk
  have hn := h.opt
  obtain ⟨ad, e, _, _, hc⟩ := h.2 (by omega)
  exact ⟨ad, e, hc _ _ (optC_code os k o hk), by
    have := hc _ _ (optC_data os k o hk)
    rw [← add_add] at this
    exact this⟩
theorem u8_ne {a b : UInt8} (h : a ≠ b) : ((a.toNat : Int) == (b.toNat : Int)) = false := by
  rw [beq_eq_false_iff_ne]
  intro e
  exact h (UInt8.toNat.inj (by omega))

set_option maxRecDepth 20000 in
set_option maxHeartbeats 1000000 in
theorem dhcOf (S : Nat → Prop) (A : Option Addr) (n cap : Nat) (os : List OptD) (c : UInt8) (w : World) (hA : SlR w S 2 A n (optC os)) (hn : n ≤ 4611686018427387904) :
    Calls Tryz.prog 158 #[.slice A n cap, .int .u8 (c.toNat : Int)] w fun e w' =>
      e = .returned (.tuple #[.string (bs ((optOf os c).getD [])), .bool (optOf os c).isSome]) ∧ Fr noB w w' := by
  have hlen := hA.opt
  go_enter Tryz.func158, Tryz.ntmps158
  go_wp2_with fail
  go_loopw [10] (fun iv wr => ∃ (i : Nat), i ≤ n ∧ iv = .int .i64 (i : Int) ∧ optOf os c = optOf (os.drop i) c ∧ Fr noB w wr) (fun iv _ => n - (intOf iv).toNat)
  case atStart => exact ⟨0, by omega, rfl, rfl, Fr.refl _ _⟩
  case round =>
    obtain ⟨i, hi, rfl, ha, hw⟩ := hrel
    by_cases hlt : i < n
    · obtain ⟨o, ho⟩ : ∃ o, os[i]? = some o := ⟨_, List.getElem?_eq_getElem (by omega)⟩
      obtain ⟨ad, rfl, c1, c2⟩ := ((hA.sub (T := noB) (fun _ _ x => x.elim)).keep hw).optAt ho
      have ha2 := ha.trans (optOf_drop ho c)
      have Ha := Lib.hid ha2
      clear ha ha2 ho
      have hne := Lib.hid (Fr.alloc hw (.cells #[.int .u8 (o.code.toNat : Int), .string (bs o.data)] 72))
      by_cases he : o.code = c
      · subst he
        have H1 : Hid (optOf os o.code = some o.data) := Lib.hid (by have := Ha.out; rw [if_pos rfl] at this; exact this)
        clear Ha
        go_wp2_with fail
        go_ret2
        rw [H1.out]
        exact ⟨rfl, hne.out⟩
      · have hb := u8_ne he
        have H1 : Hid (optOf os c = optOf (os.drop (i + 1)) c) := Lib.hid (by have := Ha.out; rw [if_neg he] at this; exact this)
        have hbi : ¬ (o.code.toNat : Int) = (c.toNat : Int) := by simpa using hb
        clear Ha he
        go_wp2_with fail
        exact ⟨⟨i + 1, by omega, by rw [Int.natCast_add]; rfl, H1.out, hne.out⟩, by simp only [intOf]; omega⟩
    · obtain rfl : i = n := by omega
      have H1 : Hid (optOf os c = none) := Lib.hid (by rw [ha, List.drop_of_length_le (by omega)]; rfl)
      clear ha
      go_wp2_with fail
      go_ret2
      rw [H1.out]
      exact ⟨rfl, hw⟩

set_option maxRecDepth 20000 in
set_option maxHeartbeats 1000000 in
theorem refOption (S : Nat → Prop) (A : Option Addr) (n cap : Nat) (os : List OptD) (c : UInt8) (w : World) (hA : SlR w S 2 A n (optC os)) (hn : n ≤ 4611686018427387904) :
    Calls Tryz.prog 231 #[.slice A n cap, .int .u8 (c.toNat : Int)] w fun e w' =>
      e = .returned (.tuple #[.string (bs ((optOf os c).getD [])), .bool (optOf os c).isSome]) ∧ Fr noB w w' := by
  have hlen := hA.opt
  go_enter Tryz.func231, Tryz.ntmps231
  go_wp2_with fail
  go_loopw [10] (fun iv wr => ∃ (i : Nat), i ≤ n ∧ iv = .int .i64 (i : Int) ∧ optOf os c = optOf (os.drop i) c ∧ Fr noB w wr) (fun iv _ => n - (intOf iv).toNat)
  case atStart => exact ⟨0, by omega, rfl, rfl, Fr.refl _ _⟩
  case round =>
    obtain ⟨i, hi, rfl, ha, hw⟩ := hrel
    by_cases hlt : i < n
    · obtain ⟨o, ho⟩ : ∃ o, os[i]? = some o := ⟨_, List.getElem?_eq_getElem (by omega)⟩
      obtain ⟨ad, rfl, c1, c2⟩ := ((hA.sub (T := noB) (fun _ _ x => x.elim)).keep hw).optAt ho
      have ha2 := ha.trans (optOf_drop ho c)
      have Ha := Lib.hid ha2
      clear ha ha2 ho
      have hne := Lib.hid (Fr.alloc hw (.cells #[.int .u8 (o.code.toNat : Int), .string (bs o.data)] 72))
      by_cases he : o.code = c
      · subst he
        have H1 : Hid (optOf os o.code = some o.data) := Lib.hid (by have := Ha.out; rw [if_pos rfl] at this; exact this)
        clear Ha
        go_wp2_with fail
        go_ret2
        rw [H1.out]
        exact ⟨rfl, hne.out⟩
      · have hb := u8_ne he
        have H1 : Hid (optOf os c = optOf (os.drop (i + 1)) c) := Lib.hid (by have := Ha.out; rw [if_neg he] at this; exact this)
        have hbi : ¬ (o.code.toNat : Int) = (c.toNat : Int) := by simpa using hb
        clear Ha he
        go_wp2_with fail
        exact ⟨⟨i + 1, by omega, by rw [Int.natCast_add]; rfl, H1.out, hne.out⟩, by simp only [intOf]; omega⟩
    · obtain rfl : i = n := by omega
      have H1 : Hid (optOf os c = none) := Lib.hid (by rw [ha, List.drop_of_length_le (by omega)]; rfl)
      clear ha
      go_wp2_with fail
      go_ret2
      rw [H1.out]
      exact ⟨rfl, hw⟩
end Go.Proofs.YtcbkaiakdhiloabGreatDoor
namespace Go.Proofs.YtcbkaiakdhiloabGreatDoor
open Go.RowKit Go.Proofs
attribute [local go_sem] bs_size bs_append bs_extract

theorem own_set {w : World} {base : Nat} {e : TypeId} {size n cap g j : Nat} {xs : List Value} {u : Value} (h : w.ownsRow base e size (.slice (some ⟨g, 0, none⟩) n cap) n xs) (hj : j < n * size) :
    (w.setCell ⟨g, j, none⟩ u).ownsRow base e size (.slice (some ⟨g, 0, none⟩) n cap) n (xs.set j u) := by
  obtain ⟨h1, ⟨h2, _⟩ | ⟨g', cap', cur, hv, hb, hg, hn, hm, hc, ht⟩⟩ := h
  · cases h2
  · cases hv
    refine ⟨by simpa using h1, .inr ⟨g, cap, cur.setIfInBounds j u, rfl, hb, Bk.set hg j u, hn, hm, by simpa using hc, ?_⟩⟩
    rw [Array.toList_setIfInBounds, List.take_set, ht]
theorem own_keep {w w' : World} {S : Nat → Prop} {base : Nat} {e : TypeId} {size n : Nat} {v : Value} {xs : List Value} (h : w.ownsRow base e size v n xs) (hf : Fr S w w') (hS : ∀ k, base ≤ k → ¬ S k) :
    w'.ownsRow base e size v n xs := by
  obtain ⟨h1, h2 | ⟨g', cap', cur, hv, hb, hg, hn, hm, hc, ht⟩⟩ := h
  · exact ⟨h1, .inl h2⟩
  · exact ⟨h1, .inr ⟨g', cap', cur, hv, hb, Bk.keep hg hf (hS g' hb), hn, hm, hc, ht⟩⟩
theorem own_far {w : World} {base : Nat} {e t : TypeId} {size n : Nat} {v : Value} {xs : List Value} {cs : Array Value} {p : Addr} (h : w.ownsRow base e size v n xs) (hp : Bk w p.block t cs) (ht : t ≠ e) (u : Value) :
    (w.setCell p u).ownsRow base e size v n xs := by
  obtain ⟨h1, h2 | ⟨g', cap', cur, hv, hb, hg, hn, hm, hc, ht'⟩⟩ := h
  · exact ⟨h1, .inl h2⟩
  · refine ⟨h1, .inr ⟨g', cap', cur, hv, hb, Bk.far hg (fun e1 => ?_) u, hn, hm, hc, ht'⟩⟩
    rw [← e1, Bk, hg] at hp
    injection hp with hp; injection hp with _ hp; exact ht hp.symm
theorem own_at {w : World} {base : Nat} {e : TypeId} {size n g cap j : Nat} {xs : List Value} {u : Value} (h : w.ownsRow base e size (.slice (some ⟨g, 0, none⟩) n cap) n xs) (hj : xs[j]? = some u) : w.cell? ⟨g, j, none⟩ = some u := by
  obtain ⟨h1, ⟨h2, _⟩ | ⟨g', cap', cur, hv, hb, hg, hn, hm, hc, ht⟩⟩ := h
  · cases h2
  · cases hv
    rw [Bk.cell hg j]
    have hl : j < xs.length := by
      rcases Nat.lt_or_ge j xs.length with h1 | h1
      · exact h1
      · rw [List.getElem?_eq_none h1] at hj; cases hj
    rw [← ht, List.getElem?_take, if_pos (by omega)] at hj
    simpa using hj
theorem own_free {w : World} {base : Nat} {e : TypeId} {size n g cap j : Nat} {xs : List Value} (h : w.ownsRow base e size (.slice (some ⟨g, 0, none⟩) n cap) n xs) : w.frozen? ⟨g, j, none⟩ = false := by
  obtain ⟨h1, ⟨h2, _⟩ | ⟨g', cap', cur, hv, hb, hg, hn, hm, hc, ht⟩⟩ := h
  · cases h2
  · cases hv; exact Bk.free hg j
theorem own_base {w : World} {base : Nat} {e : TypeId} {size n g cap : Nat} {xs : List Value} (h : w.ownsRow base e size (.slice (some ⟨g, 0, none⟩) n cap) n xs) : base ≤ g := by
  obtain ⟨h1, ⟨h2, _⟩ | ⟨g', cap', cur, hv, hb, _⟩⟩ := h
  · cases h2
  · cases hv; exact hb
theorem optC_one {os : List OptD} : ∀ u ∈ optC os, u.oneCell' = true := by
  induction os with
  | nil => intro u h; cases h
  | cons o r ih =>
    intro u h
    simp only [optC, List.mem_cons] at h
    rcases h with rfl | rfl | h
    · rfl
    · rfl
    · exact ih u h
theorem opt_info : (Tryz.prog.info? 72).map (fun i => (i.zero, i.size, i.bytes)) = some (some (.agg #[.int .u8 0, .string ⟨#[]⟩]), 2, 24) := by kernel_rfl
/-- the list of options that a cell holds; the cell's block and the row's are of F -/
def LsA (w : World) (pl : Nat) (F : Nat → Prop) (os : List OptD) : Prop :=
  F pl ∧ ∃ A cap, Bk w pl 191 #[.slice A os.length cap] ∧ w.ownsRow 0 72 2 (.slice A os.length cap) os.length (optC os) ∧ ∀ a, A = some a → F a.block
theorem own_keepAt {w w' : World} {S : Nat → Prop} {base : Nat} {e : TypeId} {size n cap : Nat} {A : Option Addr} {xs : List Value} (h : w.ownsRow base e size (.slice A n cap) n xs) (hf : Fr S w w') (hS : ∀ a, A = some a → ¬ S a.block) :
    w'.ownsRow base e size (.slice A n cap) n xs := by
  obtain ⟨h1, h2 | ⟨g', cap', cur, hv, hb, hg, hn, hm, hc, ht⟩⟩ := h
  · exact ⟨h1, .inl h2⟩
  · cases hv
    exact ⟨h1, .inr ⟨g', cap, cur, rfl, hb, Bk.keep hg hf (hS _ rfl), hn, hm, hc, ht⟩⟩
theorem LsA.keep {w w' : World} {S F : Nat → Prop} {pl : Nat} {os : List OptD} (h : LsA w pl F os) (hf : Fr S w w') (hS : ∀ k, F k → ¬ S k) : LsA w' pl F os := by
  obtain ⟨h1, A, cap, h2, h3, h4⟩ := h
  exact ⟨h1, A, cap, h2.keep hf (hS pl h1), own_keepAt h3 hf (fun a e => hS _ (h4 a e)), h4⟩
theorem LsA.mono {w : World} {F F' : Nat → Prop} {pl : Nat} {os : List OptD} (h : LsA w pl F os) (hF : ∀ k, F k → F' k) : LsA w pl F' os := by
  obtain ⟨h1, A, cap, h2, h3, h4⟩ := h
  exact ⟨hF _ h1, A, cap, h2, h3, fun a e => hF _ (h4 a e)⟩
theorem own_blk {w : World} {base : Nat} {e : TypeId} {size n cap : Nat} {A : Option Addr} {xs : List Value} (h : w.ownsRow base e size (.slice A n cap) n xs) : ∀ a, A = some a → base ≤ a.block := by
  rintro a rfl
  obtain ⟨h1, ⟨h2, _⟩ | ⟨g', cap', cur, hv, hb, _⟩⟩ := h
  · cases h2
  · cases hv; exact hb
/-- how much a list of options is -/
def wtO : List OptD → Nat
  | [] => 0
  | o :: r => o.data.length + 1 + wtO r
theorem wtO_len : ∀ os : List OptD, os.length ≤ wtO os
  | [] => Nat.le_refl _
  | o :: r => by have := wtO_len r; simp only [List.length_cons, wtO]; omega
theorem wtO_at : ∀ (os : List OptD) (k : Nat) (o : OptD), os[k]? = some o → o.data.length ≤ wtO os
  | [], _, _, h => by cases h
  | o :: r, 0, o', h => by cases h; simp only [wtO]; omega
  | o :: r, k + 1, o', h => by have := wtO_at r k o' h; simp only [wtO]; omega
theorem wtO_add : ∀ (os : List OptD) (c : UInt8) (d : List UInt8), wtO (optAdd os c d) ≤ wtO os + d.length + 1
  | [], c, d => by simp only [optAdd, wtO]; omega
  | o :: r, c, d => by
    simp only [optAdd]
    split
    · simp only [wtO, List.length_append]; omega
    · have := wtO_add r c d; simp only [wtO]; omega
theorem optC_set : ∀ (os : List OptD) (k : Nat) (o : OptD) (d : List UInt8), os[k]? = some o → (optC os).set (k * 2 + 1) (.string (bs d)) = optC (os.set k ⟨o.code, d⟩)
  | [], _, _, _, h => by cases h
  | o :: r, 0, o', d, h => by cases h; rfl
  | o :: r, k + 1, o', d, h => by
    rw [show (k + 1) * 2 + 1 = k * 2 + 1 + 1 + 1 by omega]
    simp only [optC, List.set_cons_succ]
    rw [optC_set r k o' d h]
theorem optAdd_at : ∀ (os : List OptD) (k : Nat) (o : OptD) (c : UInt8) (d : List UInt8), os[k]? = some o → o.code = c → (∀ j o', j < k → os[j]? = some o' → o'.code ≠ c) → optAdd os c d = os.set k ⟨o.code, o.data ++ d⟩
  | [], _, _, _, _, h, _, _ => by cases h
  | o :: r, 0, o', c, d, h, hc, _ => by cases h; simp only [optAdd, if_pos hc, List.set_cons_zero]
  | o :: r, k + 1, o', c, d, h, hc, hn => by
    simp only [optAdd, List.set_cons_succ]
    rw [if_neg (hn 0 o (by omega) rfl), optAdd_at r k o' c d h hc fun j o2 hj h2 => hn (j + 1) o2 (by omega) h2]
theorem optAdd_new : ∀ (os : List OptD) (c : UInt8) (d : List UInt8), (∀ j o', j < os.length → os[j]? = some o' → o'.code ≠ c) → optAdd os c d = os ++ [⟨c, d⟩]
  | [], c, d, _ => rfl
  | o :: r, c, d, hn => by
    simp only [optAdd, List.cons_append]
    rw [if_neg (hn 0 o (by simp) rfl), optAdd_new r c d fun j o2 hj h2 => hn (j + 1) o2 (by simpa using hj) h2]

set_option maxRecDepth 20000 in
set_option maxHeartbeats 1000000 in
theorem dhcAdd (pl : Nat) (F : Nat → Prop) (os : List OptD) (c : UInt8) (d : List UInt8) (w : World) (hL : LsA w pl F os) (hwt : wtO os + d.length + 1 ≤ 1099511627776) (hF : ∀ k, w.heap.size ≤ k → F k) :
    Calls Tryz.prog 157 #[.pointer (some ⟨pl, 0, none⟩), .int .u8 (c.toNat : Int), .string (bs d)] w fun e w' =>
      e = .returned (.tuple #[]) ∧ LsA w' pl F (optAdd os c d) ∧ Fr F w w' := by
  obtain ⟨hbp, A, cap, hB, hO, hAF⟩ := hL
  have HF := Lib.hid hF
  have HAF := Lib.hid hAF
  clear hF hAF
  have hlw := wtO_len os
  have hc0 := hB.cells
  have hf0 := hB.frees
  have hAp : ∀ a, A = some a → a.block ≠ pl := by
    rintro a rfl e
    obtain ⟨_, ⟨h2, _⟩ | ⟨g, _, cur, h2, _, hg, _⟩⟩ := hO
    · cases h2
    · cases h2
      rw [show g = pl from e, hB] at hg
      cases hg
  obtain ⟨i0, hi0, hz0, hz1, hz2⟩ := info_parts opt_info
  obtain ⟨n, hn⟩ : ∃ n, n = os.length := ⟨_, rfl⟩
  rw [← hn] at hc0 hB hO
  go_enter Tryz.func157, Tryz.ntmps157
  go_wp2_with fail
  go_loopw [11] (fun iv wr => ∃ (i : Nat), i ≤ n ∧ iv = .int .i64 (i : Int) ∧ (∀ j o', j < i → os[j]? = some o' → o'.code ≠ c) ∧ wr = w) (fun iv _ => n - (intOf iv).toNat)
  case atStart => exact ⟨0, by omega, rfl, fun j o' h => absurd h (by omega), rfl⟩
  case round =>
    obtain ⟨i, hi, rfl, ha, hw⟩ := hrel
    subst hw
    by_cases hlt : i < n
    · obtain ⟨o, ho⟩ : ∃ o, os[i]? = some o := ⟨_, List.getElem?_eq_getElem (by omega)⟩
      obtain ⟨g, rfl⟩ : ∃ g, A = some ⟨g, 0, none⟩ := by
        obtain ⟨A', cap', e, h1⟩ := own_slice hO
        cases e
        rcases h1 with rfl | ⟨g, rfl⟩
        · obtain ⟨_, ⟨h2, h3⟩ | ⟨g, _, _, h2, _⟩⟩ := hO
          · omega
          · cases h2
        · exact ⟨g, rfl⟩
      have c1 := own_at hO (optC_code os i o ho)
      have c2 := own_at hO (optC_data os i o ho)
      have f2 : ∀ x : Nat, wr.frozen? ⟨g, x, none⟩ = false := fun x => own_free hO
      have hol := wtO_at os i o ho
      have Ha := Lib.hid ha
      have Ho := Lib.hid ho
      clear ha ho
      by_cases he : o.code = c
      · subst he
        go_wp2_with fail
        refine bodyPost_ret (v := .tuple #[]) ?_ ?_ ?_
        · exact results_none rfl _ _ _
        · rfl
        rw [optAdd_at os i o o.code d Ho.out rfl Ha.out]
        refine ⟨rfl, ⟨hbp, some ⟨g, 0, none⟩, cap, ?_, ?_, HAF.out⟩, (Fr.refl _ _).setCell (fun _ => ?_) _⟩
        · rw [List.length_set, ← hn]; exact hB.far (p := ⟨g, i * 2 + 1, none⟩) (fun e => hAp _ rfl e.symm) _
        · rw [List.length_set, ← hn, ← optC_set os i o _ Ho.out]; exact own_set hO (by omega)
        · exact HAF.out ⟨g, 0, none⟩ rfl
      · have hbi : ¬ (o.code.toNat : Int) = (c.toNat : Int) := fun e => he (UInt8.toNat.inj (by omega))
        have H1 : Hid (∀ j o', j < i + 1 → os[j]? = some o' → o'.code ≠ c) := Lib.hid (by
          intro j o' hj h2
          rcases Nat.lt_or_ge j i with h3 | h3
          · exact Ha.out j o' h3 h2
          · obtain rfl : j = i := by omega
            rw [Ho.out] at h2; cases h2; exact he)
        clear Ha he
        go_wp2_with fail
        exact ⟨⟨i + 1, by omega, by rw [Int.natCast_add]; rfl, H1.out, trivial⟩, by simp only [intOf]; omega⟩
    · obtain rfl : i = n := by omega
      subst hn
      have H1 : Hid _ := Lib.hid (optAdd_new os c d ha)
      clear ha
      have hb2 := (hB.alloc (.cells #[.int .u8 (c.toNat : Int), .string (bs d)] 72))
      have hsr : SlR (wr.alloc (.cells #[.int .u8 (c.toNat : Int), .string (bs d)] 72)) noB 2 (some ⟨wr.heap.size, 0, none⟩) 1 (optC [⟨c, d⟩]) :=
        SlR.of_bk (n := 1) (size := 2) (S := noB) (Bk.new wr 72 #[.int .u8 (c.toNat : Int), .string (bs d)]) (fun x => x) rfl
      have hO2 : (wr.alloc (.cells #[.int .u8 (c.toNat : Int), .string (bs d)] 72)).ownsRow 0 72 2 (.slice A os.length cap) os.length (optC os) :=
        own_keep hO (((Fr.refl noB wr).alloc _)) (fun _ _ x => x)
      go_wp2_with (at_builtin
                   go_must (refine wpList_app rfl (.tmp 38) (.tmp 42) _ rfl 0 72 i0 _ 2 24 Tryz.underlying191 hi0 hz0 hz1 hz2 rfl (by omega) A _ _ _ rfl hO2 noB _ 1 1 _ rfl hsr optC_one (by unfold maxLen; omega) (by omega) (Nat.zero_le _) ?_)
                   intro A1 cap1 w1 hap
                   have hb3 := hb2.keep hap.fr (by rintro ⟨a, e, e2⟩; exact hAp a e e2)
                   have hc3 := hb3.cells
                   have hf3 := hb3.frees)
      refine bodyPost_end (results_none rfl _ _ _) rfl ?_
      rw [H1.out]
      refine ⟨rfl, ⟨hbp, A1, cap1, ?_, ?_, ?_⟩, ?_⟩
      · rw [List.length_append]; exact (by simpa using hb3.set 0 (.slice A1 (os.length + 1) cap1))
      · rw [List.length_append, optC_append]; exact own_far hap.own hb3 (by decide) _
      · intro a e
        rcases hap.at_ a e with h | ⟨a0, e0, h⟩
        · exact HF.out _ (by simp at h; omega)
        · rw [← h]; exact HAF.out _ e0
      · refine ((((Fr.refl noB wr).alloc _).of_no _).trans' hap.fr ?_).setCell (fun _ => hbp) _
        rintro b hb ⟨a, e, rfl⟩
        exact HAF.out a e
end Go.Proofs.YtcbkaiakdhiloabGreatDoor
namespace Go.Proofs.YtcbkaiakdhiloabGreatDoor
open Go.RowKit Go.Proofs
attribute [local go_sem] bs_size bs_append bs_extract

/-- how much a reader still holds -/
def leftR (p : Nat) (w : World) : Nat := match w.cell? ⟨p, 0, none⟩ with
  | some (.string s) => s.size
  | _ => 0
theorem leftR_of {p : Nat} {w : World} {l : List UInt8} (h : Rd w p l) : leftR p w = l.length := by
  unfold leftR
  rw [Bk.cell h 0]
  exact bs_size l
def prB (p : Nat) (F : Nat → Prop) : Nat → Prop := fun k => k = p ∨ F k
/-- what from leaves -/
def FromP (pl : Nat) (F : Nat → Prop) (p : Nat) (os : List OptD) (l : List UInt8) (w : World) (e : Ending) (w' : World) : Prop :=
  (∃ os' r, optRd os l = some os' ∧ e = .returned (.tuple #[]) ∧ LsA w' pl F os' ∧ Rd w' p r ∧ wtO os' ≤ wtO os + l.length ∧ Fr (prB p F) w w') ∨
  (optRd os l = none ∧ e = .panicked (faultC 1) ∧ Fr (prB p F) w w')
theorem u8_num1 {a : List UInt8} (h : a.length = 1) : ∃ c : UInt8, a = [c] ∧ num a = c.toNat := by
  match a, h with
  | [c], _ => exact ⟨c, rfl, by simp [num]⟩

set_option maxRecDepth 20000 in
set_option maxHeartbeats 1000000 in
theorem dhcFrom (pl : Nat) (F : Nat → Prop) (p : Nat) (os : List OptD) (l : List UInt8) (w : World) (hL : LsA w pl F os) (hR : Rd w p l) (hpb : ¬ F p) (hF : ∀ k, w.heap.size ≤ k → F k) (hwt : wtO os + l.length ≤ 1099511627000) :
    Calls Tryz.prog 119 #[.pointer (some ⟨pl, 0, none⟩), .pointer (some ⟨p, 0, none⟩)] w (FromP pl F p os l w) := by
  have HF := Lib.hid hF
  clear hF
  go_enter Tryz.func119, Tryz.ntmps119
  go_wp2_with fail
  go_loopw [] (fun wr => ∃ os1 l1, optRd os l = optRd os1 l1 ∧ LsA wr pl F os1 ∧ Rd wr p l1 ∧ wtO os1 + l1.length ≤ wtO os + l.length ∧ Fr (prB p F) w wr) (fun wr => leftR p wr)
  case atStart => exact ⟨os, l, rfl, hL, hR, by omega, Fr.refl _ _⟩
  case round =>
    obtain ⟨os1, l1, e1, hL1, hR1, hw1, hf1⟩ := hrel
    have hno : ∀ k, F k → ¬ oneB p k := fun k hk e => by unfold oneB at e; exact hpb (e ▸ hk)
    have hone : ∀ {x y : World}, Fr (oneB p) x y → Fr (prB p F) x y := fun h => h.mono fun b _ e => .inl e
    go_wp2_with fail
    refine (tU8 p l1 _ hR1 (by omega)).mono ?_
    rintro e w2 (⟨a1, r1, c1, b1, rfl, hR2, hf2⟩ | ⟨hlt, rfl, hf2⟩)
    rotate_left
    · refine ⟨rfl, .inr ⟨?_, rfl, hf1.trans (hone hf2)⟩⟩
      rw [e1, List.eq_nil_of_length_eq_zero (by omega : l1.length = 0)]; rfl
    obtain ⟨c, rfl, hn1⟩ := u8_num1 c1.2
    have hl1 : l1 = c :: r1 := c1.1
    have hL2 := hL1.keep hf2 hno
    have hf3 := hf1.trans (hone hf2)
    have hlen : l1.length = r1.length + 1 := by rw [hl1]; rfl
    have hmu := leftR_of hR1
    have hmu2 := leftR_of hR2
    have hv : (fun a => Value.int .u8 (num a)) [c] = .int .u8 (c.toNat : Int) := by simp only [hn1]
    rw [hv]
    clear hv
    have E1 := Lib.hid e1
    have HL1 := Lib.hid hl1
    clear e1 hl1 c1 hn1 hR1 hL1
    by_cases h0 : c = 0
    · subst h0
      have hrel2 : Hid (optRd os l = optRd os1 r1) := Lib.hid (by rw [E1.out, HL1.out, optRd_pad])
      go_wp2_with fail
      exact ⟨⟨os1, r1, hrel2.out, hL2, hR2, by omega, hf3⟩, by omega⟩
    · have h0i : ¬ (c.toNat : Int) = 0 := fun e => h0 (UInt8.toNat.inj (by simpa using e))
      by_cases h5 : c = 255
      · subst h5
        have hrel2 : Hid (optRd os l = some os1) := Lib.hid (by rw [E1.out, HL1.out, optRd_end])
        go_wp2_with fail
        refine bodyPost_ret (v := .tuple #[]) ?_ ?_ ?_
        · exact results_none rfl _ _ _
        · rfl
        exact .inl ⟨os1, r1, hrel2.out, rfl, hL2, hR2, by omega, hf3⟩
      · have h5i : ¬ (c.toNat : Int) = 255 := fun e => h5 (UInt8.toNat.inj (show c.toNat = 255 by omega))
        have H0 := Lib.hid h0
        have H5 := Lib.hid h5
        clear h0 h5
        go_wp2_with fail
        refine (tU8 p r1 _ hR2 (by omega)).mono ?_
        rintro e w3 (⟨a2, r2, c2, b2, rfl, hR3, hf4⟩ | ⟨hlt, rfl, hf4⟩)
        rotate_left
        · refine ⟨rfl, .inr ⟨?_, rfl, hf3.trans (hone hf4)⟩⟩
          rw [E1.out, HL1.out, List.eq_nil_of_length_eq_zero (by omega : r1.length = 0)]
          exact optRd_one _ _ H5.out H0.out
        obtain ⟨k, rfl, hn2⟩ := u8_num1 c2.2
        have hl2 : r1 = k :: r2 := c2.1
        have hL3 := hL2.keep hf4 hno
        have hf5 := hf3.trans (hone hf4)
        have hlen2 : r1.length = r2.length + 1 := by rw [hl2]; rfl
        have hmu3 := leftR_of hR3
        have hv : (fun a => Value.int .u8 (num a)) [k] = .int .u8 (k.toNat : Int) := by simp only [hn2]
        rw [hv]
        clear hv
        have HL2 := Lib.hid hl2
        have hk := k.toNat_lt
        clear hl2 c2 hn2 hR2 hL2
        go_wp2_with fail
        refine (tTake k.toNat p r2 _ hR3 (by omega) (by omega)).mono ?_
        rintro e w4 (⟨a3, r3, c3, b3, rfl, hR4, hf6⟩ | ⟨hlt, rfl, hf6⟩)
        rotate_left
        · refine ⟨rfl, .inr ⟨?_, rfl, hf5.trans (hone hf6)⟩⟩
          rw [E1.out, HL1.out, HL2.out]
          exact optRd_short _ _ _ _ H5.out H0.out hlt
        have hL4 := hL3.keep hf6 hno
        have hf7 := hf5.trans (hone hf6)
        have hl3 : r2 = a3 ++ r3 := c3.1
        have hla : a3.length = k.toNat := c3.2
        have hlen3 : r2.length = a3.length + r3.length := by rw [hl3, List.length_append]
        have hmu4 := leftR_of hR4
        have HL3 := Lib.hid hl3
        clear hl3 c3 hR3 hL3
        go_wp2_with fail
        refine (dhcAdd pl F os1 c a3 _ hL4 (by omega) (fun k hk => HF.out k (Nat.le_trans hf7.size hk))).mono ?_
        rintro e w5 ⟨rfl, hL5, hf8⟩
        have hwa := wtO_add os1 c a3
        have hR5 : Rd w5 p r3 := Bk.keep hR4 hf8 hpb
        have hmu5 := leftR_of hR5
        have hf9 : Fr (prB p F) w w5 := hf7.trans (hf8.mono fun b _ e => .inr e)
        have hrel2 : Hid (optRd os l = optRd (optAdd os1 c a3) r3) := Lib.hid (by
          rw [E1.out, HL1.out, HL2.out, optRd_opt _ _ _ _ H5.out H0.out (by omega), HL3.out, ← hla, List.take_left, List.drop_left])
        go_wp2_with fail
        exact ⟨⟨_, r3, hrel2.out, hL5, hR5, by omega, hf9⟩, by omega⟩
end Go.Proofs.YtcbkaiakdhiloabGreatDoor
namespace Go.Proofs.YtcbkaiakdhiloabGreatDoor
open Go.RowKit Go.Proofs
attribute [local go_sem] bs_size bs_append bs_extract

theorem own_slr {w : World} {base : Nat} {e : TypeId} {size n cap : Nat} {A : Option Addr} {xs : List Value} (h : w.ownsRow base e size (.slice A n cap) n xs) : SlR w noB size A n xs := by
  refine ⟨h.1, fun hn => ?_⟩
  obtain ⟨h1, ⟨h2, h3⟩ | ⟨g, cap', cur, hv, hb, hg, _⟩⟩ := id h
  · omega
  · cases hv
    exact ⟨_, rfl, Bk.lt hg, fun x => x, fun j u hu => by rw [addr_add, Nat.zero_add]; exact own_at h hu⟩

theorem own_slrS {w : World} {S : Nat → Prop} {base : Nat} {e : TypeId} {size n cap : Nat} {A : Option Addr} {xs : List Value} (h : w.ownsRow base e size (.slice A n cap) n xs) (hS : ∀ a, A = some a → ¬ S a.block) : SlR w S size A n xs := by
  have h1 := own_slr h
  refine ⟨h1.1, fun hn => ?_⟩
  obtain ⟨ad, e, hb, _, hc⟩ := h1.2 hn
  exact ⟨ad, e, hb, hS _ e, hc⟩
set_option maxRecDepth 20000 in
set_option maxHeartbeats 1000000 in
theorem refMore (A0 : Option Addr) (cap0 : Nat) (os : List OptD) (c : UInt8) (d : List UInt8) (w : World) (hA : SlR w noB 2 A0 os.length (optC os)) (hwt : wtO os + d.length + 1 ≤ 1099511627776) :
    Calls Tryz.prog 271 #[.slice A0 os.length cap0, .int .u8 (c.toNat : Int), .string (bs d)] w fun e w' =>
      ∃ A' cap', e = .returned (.slice A' (optAdd os c d).length cap') ∧ SlR w' (fun k => k < w.heap.size) 2 A' (optAdd os c d).length (optC (optAdd os c d)) ∧ Fr noB w w' := by
  have hlw := wtO_len os
  obtain ⟨i0, hi0, hz0, hz1, hz2⟩ := info_parts opt_info
  have hO0 : w.ownsRow w.heap.size 72 2 (.slice none 0 0) 0 [] := ⟨rfl, .inl ⟨rfl, rfl⟩⟩
  obtain ⟨n, hn⟩ : ∃ n, n = os.length := ⟨_, rfl⟩
  rw [← hn] at hA ⊢
  go_enter Tryz.func271, Tryz.ntmps271
  go_wp2_with (at_builtin
               go_must (refine wpList_app rfl (.const (.slice none 0 0)) (.tmp 9) _ rfl w.heap.size 72 i0 _ 2 24 Tryz.underlying73 hi0 hz0 hz1 hz2 rfl (by omega) none 0 0 _ rfl hO0 noB A0 n _ _ rfl hA optC_one (by unfold maxLen; omega) (by omega) (Nat.le_refl _) ?_)
               intro A cap w1 hap)
  have hO : w1.ownsRow w.heap.size 72 2 (.slice A n cap) n (optC os) := by have := hap.own; rwa [Nat.zero_add, List.nil_append] at this
  have hf1 : Fr noB w w1 := hap.fr.mono (by rintro b _ ⟨a, e, _⟩; cases e)
  clear hap hO0
  go_loopw [13] (fun iv wr => ∃ (i : Nat), i ≤ n ∧ iv = .int .i64 (i : Int) ∧ (∀ j o', j < i → os[j]? = some o' → o'.code ≠ c) ∧ wr = w1) (fun iv _ => n - (intOf iv).toNat)
  case atStart => exact ⟨0, by omega, rfl, fun j o' h => absurd h (by omega), rfl⟩
  case round =>
    obtain ⟨i, hi, rfl, ha, hw⟩ := hrel
    subst hw
    have hbw := hf1.size
    by_cases hlt : i < n
    · obtain ⟨o, ho⟩ : ∃ o, os[i]? = some o := ⟨_, List.getElem?_eq_getElem (by omega)⟩
      obtain ⟨g, rfl⟩ : ∃ g, A = some ⟨g, 0, none⟩ := by
        obtain ⟨A', cap', e, h1⟩ := own_slice hO
        cases e
        rcases h1 with rfl | ⟨g, rfl⟩
        · obtain ⟨_, ⟨h2, h3⟩ | ⟨g, _, _, h2, _⟩⟩ := hO
          · omega
          · cases h2
        · exact ⟨g, rfl⟩
      have c1 := own_at hO (optC_code os i o ho)
      have c2 := own_at hO (optC_data os i o ho)
      have f2 : ∀ x : Nat, wr.frozen? ⟨g, x, none⟩ = false := fun x => own_free hO
      have hol := wtO_at os i o ho
      have Ha := Lib.hid ha
      have Ho := Lib.hid ho
      clear ha ho
      by_cases he : o.code = c
      · subst he
        go_wp2_with fail
        go_ret
        rw [optAdd_at os i o o.code d Ho.out rfl Ha.out, List.length_set, ← hn]
        refine ⟨_, _, rfl, ?_, hf1.setCell (p := ⟨g, i * 2 + 1, none⟩) (fun h => absurd (own_base hO) (by simp at h; omega)) _⟩
        rw [← optC_set os i o _ Ho.out]; exact own_slrS (own_set hO (by omega)) (fun a e h => by have := own_blk hO a e; omega)
      · have hbi : ¬ (o.code.toNat : Int) = (c.toNat : Int) := fun e => he (UInt8.toNat.inj (by omega))
        have H1 : Hid (∀ j o', j < i + 1 → os[j]? = some o' → o'.code ≠ c) := Lib.hid (by
          intro j o' hj h2
          rcases Nat.lt_or_ge j i with h3 | h3
          · exact Ha.out j o' h3 h2
          · obtain rfl : j = i := by omega
            rw [Ho.out] at h2; cases h2; exact he)
        clear Ha he
        go_wp2_with fail
        exact ⟨⟨i + 1, by omega, by rw [Int.natCast_add]; rfl, H1.out, trivial⟩, by simp only [intOf]; omega⟩
    · obtain rfl : i = n := by omega
      subst hn
      have H1 : Hid _ := Lib.hid (optAdd_new os c d ha)
      clear ha
      have hsr : SlR (wr.alloc (.cells #[.int .u8 (c.toNat : Int), .string (bs d)] 72)) noB 2 (some ⟨wr.heap.size, 0, none⟩) 1 (optC [⟨c, d⟩]) :=
        SlR.of_bk (n := 1) (size := 2) (S := noB) (Bk.new wr 72 #[.int .u8 (c.toNat : Int), .string (bs d)]) (fun x => x) rfl
      have hO2 : (wr.alloc (.cells #[.int .u8 (c.toNat : Int), .string (bs d)] 72)).ownsRow w.heap.size 72 2 (.slice A os.length cap) os.length (optC os) :=
        own_keep hO (((Fr.refl noB wr).alloc _)) (fun _ _ x => x)
      go_wp2_with (at_builtin
                   go_must (refine wpList_app rfl (.tmp 34) (.tmp 38) _ rfl w.heap.size 72 i0 _ 2 24 Tryz.underlying73 hi0 hz0 hz1 hz2 rfl (by omega) A _ _ _ rfl hO2 noB _ 1 1 _ rfl hsr optC_one (by unfold maxLen; omega) (by omega) (by simp; omega) ?_)
                   intro A1 cap1 w2 hap)
      go_ret
      rw [H1.out]
      refine ⟨A1, cap1, ?_, ?_, (hf1.alloc _).trans' hap.fr ?_⟩
      · rw [List.length_append]; rfl
      · rw [List.length_append, optC_append]; exact own_slrS hap.own (fun a e h => by have := own_blk hap.own a e; omega)
      · rintro b hb ⟨a, e, rfl⟩
        exact absurd (own_blk hO a e) (by omega)
end Go.Proofs.YtcbkaiakdhiloabGreatDoor
namespace Go.Proofs.YtcbkaiakdhiloabGreatDoor
open Go.RowKit Go.Proofs
/-- a block, and those of S -/
def orB (p : Nat) (S : Nat → Prop) : Nat → Prop := fun k => k = p ∨ S k
def byPostW (S : Nat → Prop) (ok : Value → World → Prop) (bad : Int → Prop) (p : Nat) (w : World) (e : Ending) (w' : World) : Prop :=
  ((∃ x, ok x w' ∧ e = .returned x) ∨ (∃ er, bad er ∧ e = .panicked (faultC er))) ∧ Fr (orB p S) w w'
def readPostW (z : Value) (S : Nat → Prop) (ok : Value → World → Prop) (bad : Int → Prop) (w : World) (e : Ending) (w' : World) : Prop :=
  ((∃ x, ok x w' ∧ e = .returned (.tuple #[x, .int .i64 0])) ∨ (∃ er, bad er ∧ e = .returned (.tuple #[z, .int .i64 er]))) ∧ Fr S w w'
/-- two results in memory: two whole numbers -/
theorem results_int_int {P : Program} {fn : Func} {p q : Tmp} {ty te : TypeId} (h : fn.results = #[.cell p ty, .cell q te]) (tmps : Array Value) (w : World) (g ge : Nat) (t t2 : TypeId) (m n : Int) (k0 k : IntKind)
    (hp : tmps.getD p undef = .pointer (some ⟨g, 0, none⟩)) (hq : tmps.getD q undef = .pointer (some ⟨ge, 0, none⟩)) (hg : Bk w g t #[.int k0 m]) (he : Bk w ge t2 #[.int .i64 n])
    (hu : P.underlying ty = some (.int k0)) (hue : P.underlying te = some (.int k)) :
    (results fn tmps).run P w = .ok (.tuple #[.int k0 m, .int .i64 n]) w := by
  have hp' : tmps[p]?.getD undef = .pointer (some ⟨g, 0, none⟩) := by simpa using hp
  have hq' : tmps[q]?.getD undef = .pointer (some ⟨ge, 0, none⟩) := by simpa using hq
  have hc := he.cells
  have hc1 := hg.cells
  have h1 : (loadVar ty ⟨g, 0, none⟩).run P w = .ok (.int k0 m) w := by
    have hc0 := hc1 0
    simp at hc0
    simp [go_sem, isAgg, run_underlying hu, hc0]
  have h2 : (loadVar te ⟨ge, 0, none⟩).run P w = .ok (.int .i64 n) w := by
    have hc0 := hc 0
    simp at hc0
    simp [go_sem, isAgg, run_underlying hue, hc0]
  simp [results, h, hp', hq', asAddr, h1, h2]
end Go.Proofs.YtcbkaiakdhiloabGreatDoor
