/- A list of options in memory, and more of an option: the program's add. -/
import Derived.Test.YtcbkaiakdhiloabOpt
import Derived.Test.YtcbkaiakdhiloabReg
set_option linter.unusedSimpArgs false
set_option linter.unusedVariables false
namespace Go.Proofs.Ytcbkaiakdhiloab
open Go.RowKit Go.Proofs
attribute [local go_sem] bs_size bs_append bs_extract

theorem own_set {w : World} {base : Nat} {e : TypeId} {size n cap g j : Nat} {xs : List Value} {u : Value} (h : w.ownsRow base e size (.slice (some ⟨g, 0, none⟩) n cap) n xs) (hj : j < n * size) :
    (w.setCell ⟨g, j, none⟩ u).ownsRow base e size (.slice (some ⟨g, 0, none⟩) n cap) n (xs.set j u) := by
  obtain ⟨h1, ⟨h2, _⟩ | ⟨g', cap', cur, hv, hb, hg, hn, hm, hc, ht⟩⟩ := h
  · cases h2
  · cases hv
    refine ⟨by simpa using h1, .inr ⟨g, cap, cur.setIfInBounds j u, rfl, hb, Bk.set hg j u, hn, hm, by simpa using hc, ?_⟩⟩
    rw [Array.toList_setIfInBounds, List.take_set, ht]
theorem own_keep {w w' : World} {S : Nat → Prop} {base : Nat} {e : TypeId} {size n : Nat} {v : Value} {xs : List Value} (h : w.ownsRow base e size v n xs) (hf : Fr S w w') (hS : ∀ k, base ≤ k → ¬ S k) :
    w'.ownsRow base e size v n xs := by
  obtain ⟨h1, h2 | ⟨g', cap', cur, hv, hb, hg, hn, hm, hc, ht⟩⟩ := h
  · exact ⟨h1, .inl h2⟩
  · exact ⟨h1, .inr ⟨g', cap', cur, hv, hb, Bk.keep hg hf (hS g' hb), hn, hm, hc, ht⟩⟩
theorem own_far {w : World} {base : Nat} {e t : TypeId} {size n : Nat} {v : Value} {xs : List Value} {cs : Array Value} {p : Addr} (h : w.ownsRow base e size v n xs) (hp : Bk w p.block t cs) (ht : t ≠ e) (u : Value) :
    (w.setCell p u).ownsRow base e size v n xs := by
  obtain ⟨h1, h2 | ⟨g', cap', cur, hv, hb, hg, hn, hm, hc, ht'⟩⟩ := h
  · exact ⟨h1, .inl h2⟩
  · refine ⟨h1, .inr ⟨g', cap', cur, hv, hb, Bk.far hg (fun e1 => ?_) u, hn, hm, hc, ht'⟩⟩
    rw [← e1, Bk, hg] at hp
    injection hp with hp; injection hp with _ hp; exact ht hp.symm
theorem own_at {w : World} {base : Nat} {e : TypeId} {size n g cap j : Nat} {xs : List Value} {u : Value} (h : w.ownsRow base e size (.slice (some ⟨g, 0, none⟩) n cap) n xs) (hj : xs[j]? = some u) : w.cell? ⟨g, j, none⟩ = some u := by
  obtain ⟨h1, ⟨h2, _⟩ | ⟨g', cap', cur, hv, hb, hg, hn, hm, hc, ht⟩⟩ := h
  · cases h2
  · cases hv
    rw [Bk.cell hg j]
    have hl : j < xs.length := by
      rcases Nat.lt_or_ge j xs.length with h1 | h1
      · exact h1
      · rw [List.getElem?_eq_none h1] at hj; cases hj
    rw [← ht, List.getElem?_take, if_pos (by omega)] at hj
    simpa using hj
theorem own_free {w : World} {base : Nat} {e : TypeId} {size n g cap j : Nat} {xs : List Value} (h : w.ownsRow base e size (.slice (some ⟨g, 0, none⟩) n cap) n xs) : w.frozen? ⟨g, j, none⟩ = false := by
  obtain ⟨h1, ⟨h2, _⟩ | ⟨g', cap', cur, hv, hb, hg, hn, hm, hc, ht⟩⟩ := h
  · cases h2
  · cases hv; exact Bk.free hg j
theorem own_base {w : World} {base : Nat} {e : TypeId} {size n g cap : Nat} {xs : List Value} (h : w.ownsRow base e size (.slice (some ⟨g, 0, none⟩) n cap) n xs) : base ≤ g := by
  obtain ⟨h1, ⟨h2, _⟩ | ⟨g', cap', cur, hv, hb, _⟩⟩ := h
  · cases h2
  · cases hv; exact hb
theorem optC_one {os : List OptD} : ∀ u ∈ optC os, u.oneCell' = true := by
  induction os with
  | nil => intro u h; cases h
  | cons o r ih =>
    intro u h
    simp only [optC, List.mem_cons] at h
    rcases h with rfl | rfl | h
    · rfl
    · rfl
    · exact ih u h
theorem opt_info : (Try.prog.info? 56).map (fun i => (i.zero, i.size, i.bytes)) = some (some (.agg #[.int .u8 0, .string ⟨#[]⟩]), 2, 24) := by kernel_rfl
/-- the list of options that a cell holds; the cell's block and the row's are of F -/
def LsA (w : World) (pl : Nat) (F : Nat → Prop) (os : List OptD) : Prop :=
  F pl ∧ ∃ A cap, Bk w pl 95 #[.slice A os.length cap] ∧ w.ownsRow 0 56 2 (.slice A os.length cap) os.length (optC os) ∧ ∀ a, A = some a → F a.block
theorem own_keepAt {w w' : World} {S : Nat → Prop} {base : Nat} {e : TypeId} {size n cap : Nat} {A : Option Addr} {xs : List Value} (h : w.ownsRow base e size (.slice A n cap) n xs) (hf : Fr S w w') (hS : ∀ a, A = some a → ¬ S a.block) :
    w'.ownsRow base e size (.slice A n cap) n xs := by
  obtain ⟨h1, h2 | ⟨g', cap', cur, hv, hb, hg, hn, hm, hc, ht⟩⟩ := h
  · exact ⟨h1, .inl h2⟩
  · cases hv
    exact ⟨h1, .inr ⟨g', cap, cur, rfl, hb, Bk.keep hg hf (hS _ rfl), hn, hm, hc, ht⟩⟩
theorem LsA.keep {w w' : World} {S F : Nat → Prop} {pl : Nat} {os : List OptD} (h : LsA w pl F os) (hf : Fr S w w') (hS : ∀ k, F k → ¬ S k) : LsA w' pl F os := by
  obtain ⟨h1, A, cap, h2, h3, h4⟩ := h
  exact ⟨h1, A, cap, h2.keep hf (hS pl h1), own_keepAt h3 hf (fun a e => hS _ (h4 a e)), h4⟩
theorem LsA.mono {w : World} {F F' : Nat → Prop} {pl : Nat} {os : List OptD} (h : LsA w pl F os) (hF : ∀ k, F k → F' k) : LsA w pl F' os := by
  obtain ⟨h1, A, cap, h2, h3, h4⟩ := h
  exact ⟨hF _ h1, A, cap, h2, h3, fun a e => hF _ (h4 a e)⟩
theorem own_blk {w : World} {base : Nat} {e : TypeId} {size n cap : Nat} {A : Option Addr} {xs : List Value} (h : w.ownsRow base e size (.slice A n cap) n xs) : ∀ a, A = some a → base ≤ a.block := by
  rintro a rfl
  obtain ⟨h1, ⟨h2, _⟩ | ⟨g', cap', cur, hv, hb, _⟩⟩ := h
  · cases h2
  · cases hv; exact hb
/-- how much a list of options is -/
def wtO : List OptD → Nat
  | [] => 0
  | o :: r => o.data.length + 1 + wtO r
theorem wtO_len : ∀ os : List OptD, os.length ≤ wtO os
  | [] => Nat.le_refl _
  | o :: r => by have := wtO_len r; simp only [List.length_cons, wtO]; omega
theorem wtO_at : ∀ (os : List OptD) (k : Nat) (o : OptD), os[k]? = some o → o.data.length ≤ wtO os
  | [], _, _, h => by cases h
  | o :: r, 0, o', h => by cases h; simp only [wtO]; omega
  | o :: r, k + 1, o', h => by have := wtO_at r k o' h; simp only [wtO]; omega
theorem wtO_add : ∀ (os : List OptD) (c : UInt8) (d : List UInt8), wtO (optAdd os c d) ≤ wtO os + d.length + 1
  | [], c, d => by simp only [optAdd, wtO]; omega
  | o :: r, c, d => by
    simp only [optAdd]
    split
    · simp only [wtO, List.length_append]; omega
    · have := wtO_add r c d; simp only [wtO]; omega
theorem optC_set : ∀ (os : List OptD) (k : Nat) (o : OptD) (d : List UInt8), os[k]? = some o → (optC os).set (k * 2 + 1) (.string (bs d)) = optC (os.set k ⟨o.code, d⟩)
  | [], _, _, _, h => by cases h
  | o :: r, 0, o', d, h => by cases h; rfl
  | o :: r, k + 1, o', d, h => by
    rw [show (k + 1) * 2 + 1 = k * 2 + 1 + 1 + 1 by omega]
    simp only [optC, List.set_cons_succ]
    rw [optC_set r k o' d h]
theorem optAdd_at : ∀ (os : List OptD) (k : Nat) (o : OptD) (c : UInt8) (d : List UInt8), os[k]? = some o → o.code = c → (∀ j o', j < k → os[j]? = some o' → o'.code ≠ c) → optAdd os c d = os.set k ⟨o.code, o.data ++ d⟩
  | [], _, _, _, _, h, _, _ => by cases h
  | o :: r, 0, o', c, d, h, hc, _ => by cases h; simp only [optAdd, if_pos hc, List.set_cons_zero]
  | o :: r, k + 1, o', c, d, h, hc, hn => by
    simp only [optAdd, List.set_cons_succ]
    rw [if_neg (hn 0 o (by omega) rfl), optAdd_at r k o' c d h hc fun j o2 hj h2 => hn (j + 1) o2 (by omega) h2]
theorem optAdd_new : ∀ (os : List OptD) (c : UInt8) (d : List UInt8), (∀ j o', j < os.length → os[j]? = some o' → o'.code ≠ c) → optAdd os c d = os ++ [⟨c, d⟩]
  | [], c, d, _ => rfl
  | o :: r, c, d, hn => by
    simp only [optAdd, List.cons_append]
    rw [if_neg (hn 0 o (by simp) rfl), optAdd_new r c d fun j o2 hj h2 => hn (j + 1) o2 (by simpa using hj) h2]

set_option maxRecDepth 20000 in
set_option maxHeartbeats 1000000 in
theorem dhcAdd (pl : Nat) (F : Nat → Prop) (os : List OptD) (c : UInt8) (d : List UInt8) (w : World) (hL : LsA w pl F os) (hwt : wtO os + d.length + 1 ≤ 1099511627776) (hF : ∀ k, w.heap.size ≤ k → F k) :
    Calls Try.prog 69 #[.pointer (some ⟨pl, 0, none⟩), .int .u8 (c.toNat : Int), .string (bs d)] w fun e w' =>
      e = .returned (.tuple #[]) ∧ LsA w' pl F (optAdd os c d) ∧ Fr F w w' := by
  obtain ⟨hbp, A, cap, hB, hO, hAF⟩ := hL
  have HF := Lib.hid hF
  have HAF := Lib.hid hAF
  clear hF hAF
  have hlw := wtO_len os
  have hc0 := hB.cells
  have hf0 := hB.frees
  have hAp : ∀ a, A = some a → a.block ≠ pl := by
    rintro a rfl e
    obtain ⟨_, ⟨h2, _⟩ | ⟨g, _, cur, h2, _, hg, _⟩⟩ := hO
    · cases h2
    · cases h2
      rw [show g = pl from e, hB] at hg
      cases hg
  obtain ⟨i0, hi0, hz0, hz1, hz2⟩ := info_parts opt_info
  obtain ⟨n, hn⟩ : ∃ n, n = os.length := ⟨_, rfl⟩
  rw [← hn] at hc0 hB hO
  go_enter Try.func69, Try.ntmps69
  go_wp2_with fail
  go_loopw [11] (fun iv wr => ∃ (i : Nat), i ≤ n ∧ iv = .int .i64 (i : Int) ∧ (∀ j o', j < i → os[j]? = some o' → o'.code ≠ c) ∧ wr = w) (fun iv _ => n - (intOf iv).toNat)
  case atStart => exact ⟨0, by omega, rfl, fun j o' h => absurd h (by omega), rfl⟩
  case round =>
    obtain ⟨i, hi, rfl, ha, hw⟩ := hrel
    subst hw
    by_cases hlt : i < n
    · obtain ⟨o, ho⟩ : ∃ o, os[i]? = some o := ⟨_, List.getElem?_eq_getElem (by omega)⟩
      obtain ⟨g, rfl⟩ : ∃ g, A = some ⟨g, 0, none⟩ := by
        obtain ⟨A', cap', e, h1⟩ := own_slice hO
        cases e
        rcases h1 with rfl | ⟨g, rfl⟩
        · obtain ⟨_, ⟨h2, h3⟩ | ⟨g, _, _, h2, _⟩⟩ := hO
          · omega
          · cases h2
        · exact ⟨g, rfl⟩
      have c1 := own_at hO (optC_code os i o ho)
      have c2 := own_at hO (optC_data os i o ho)
      have f2 : ∀ x : Nat, wr.frozen? ⟨g, x, none⟩ = false := fun x => own_free hO
      have hol := wtO_at os i o ho
      have Ha := Lib.hid ha
      have Ho := Lib.hid ho
      clear ha ho
      by_cases he : o.code = c
      · subst he
        go_wp2_with fail
        refine bodyPost_ret (v := .tuple #[]) ?_ ?_ ?_
        · exact results_none rfl _ _ _
        · rfl
        rw [optAdd_at os i o o.code d Ho.out rfl Ha.out]
        refine ⟨rfl, ⟨hbp, some ⟨g, 0, none⟩, cap, ?_, ?_, HAF.out⟩, (Fr.refl _ _).setCell (fun _ => ?_) _⟩
        · rw [List.length_set, ← hn]; exact hB.far (p := ⟨g, i * 2 + 1, none⟩) (fun e => hAp _ rfl e.symm) _
        · rw [List.length_set, ← hn, ← optC_set os i o _ Ho.out]; exact own_set hO (by omega)
        · exact HAF.out ⟨g, 0, none⟩ rfl
      · have hbi : ¬ (o.code.toNat : Int) = (c.toNat : Int) := fun e => he (UInt8.toNat.inj (by omega))
        have H1 : Hid (∀ j o', j < i + 1 → os[j]? = some o' → o'.code ≠ c) := Lib.hid (by
          intro j o' hj h2
          rcases Nat.lt_or_ge j i with h3 | h3
          · exact Ha.out j o' h3 h2
          · obtain rfl : j = i := by omega
            rw [Ho.out] at h2; cases h2; exact he)
        clear Ha he
        go_wp2_with fail
        exact ⟨⟨i + 1, by omega, by rw [Int.natCast_add]; rfl, H1.out, trivial⟩, by simp only [intOf]; omega⟩
    · obtain rfl : i = n := by omega
      subst hn
      have H1 : Hid _ := Lib.hid (optAdd_new os c d ha)
      clear ha
      have hb2 := (hB.alloc (.cells #[.int .u8 (c.toNat : Int), .string (bs d)] 56))
      have hsr : SlR (wr.alloc (.cells #[.int .u8 (c.toNat : Int), .string (bs d)] 56)) noB 2 (some ⟨wr.heap.size, 0, none⟩) 1 (optC [⟨c, d⟩]) :=
        SlR.of_bk (n := 1) (size := 2) (S := noB) (Bk.new wr 56 #[.int .u8 (c.toNat : Int), .string (bs d)]) (fun x => x) rfl
      have hO2 : (wr.alloc (.cells #[.int .u8 (c.toNat : Int), .string (bs d)] 56)).ownsRow 0 56 2 (.slice A os.length cap) os.length (optC os) :=
        own_keep hO (((Fr.refl noB wr).alloc _)) (fun _ _ x => x)
      go_wp2_with (at_builtin
                   go_must (refine wpList_app rfl (.tmp 38) (.tmp 42) _ rfl 0 56 i0 _ 2 24 Try.underlying95 hi0 hz0 hz1 hz2 rfl (by omega) A _ _ _ rfl hO2 noB _ 1 1 _ rfl hsr optC_one (by unfold maxLen; omega) (by omega) (Nat.zero_le _) ?_)
                   intro A1 cap1 w1 hap
                   have hb3 := hb2.keep hap.fr (by rintro ⟨a, e, e2⟩; exact hAp a e e2)
                   have hc3 := hb3.cells
                   have hf3 := hb3.frees)
      refine bodyPost_end (results_none rfl _ _ _) rfl ?_
      rw [H1.out]
      refine ⟨rfl, ⟨hbp, A1, cap1, ?_, ?_, ?_⟩, ?_⟩
      · rw [List.length_append]; exact (by simpa using hb3.set 0 (.slice A1 (os.length + 1) cap1))
      · rw [List.length_append, optC_append]; exact own_far hap.own hb3 (by decide) _
      · intro a e
        rcases hap.at_ a e with h | ⟨a0, e0, h⟩
        · exact HF.out _ (by simp at h; omega)
        · rw [← h]; exact HAF.out _ e0
      · refine ((((Fr.refl noB wr).alloc _).of_no _).trans' hap.fr ?_).setCell (fun _ => hbp) _
        rintro b hb ⟨a, e, rfl⟩
        exact HAF.out a e
end Go.Proofs.Ytcbkaiakdhiloab
