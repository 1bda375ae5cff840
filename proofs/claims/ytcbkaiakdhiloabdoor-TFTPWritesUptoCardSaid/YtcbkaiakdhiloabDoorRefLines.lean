/- netbootref.lines: texts that end with a byte 0 each. -/
import Derived.Test.YtcbkaiakdhiloabDoorTftL
import Derived.Test.YtcbkaiakdhiloabDoorFld
import Derived.Test.YtcbkaiakdhiloabDoorOctW
set_option linter.unusedSimpArgs false
set_option linter.unusedVariables false
namespace Go.Proofs.YtcbkaiakdhiloabDoor
open Go.RowKit Go.Proofs
attribute [local go_sem] bs_size bs_append bs_extract bs_toList

theorem str_info2 : (Tryd.prog.info? 9).map (fun i => (i.zero, i.size, i.bytes)) = some (some (.string ⟨#[]⟩), 1, 16) := by kernel_rfl
theorem strv_one {L : List (List UInt8)} : ∀ u ∈ strv L, u.oneCell' = true := by
  intro u h
  simp only [strv, List.mem_map] at h
  obtain ⟨b, _, rfl⟩ := h; rfl
theorem strv_append (a b : List (List UInt8)) : strv (a ++ b) = strv a ++ strv b := by simp [strv]
theorem ownR_blk {w : World} {base : Nat} {e : TypeId} {size n cap : Nat} {A : Option Addr} {xs : List Value} (h : w.ownsRow base e size (.slice A n cap) n xs) : ∀ a, A = some a → base ≤ a.block ∧ a.block < w.heap.size := by
  rintro a rfl
  obtain ⟨h1, ⟨h2, _⟩ | ⟨g', cap', cur, hv, hb, hg, _⟩⟩ := h
  · cases h2
  · cases hv; exact ⟨hb, Bk.lt hg⟩
theorem ownR_keep {w w' : World} {S : Nat → Prop} {base : Nat} {e : TypeId} {size n cap : Nat} {A : Option Addr} {xs : List Value} (h : w.ownsRow base e size (.slice A n cap) n xs) (hf : Fr S w w') (hS : ∀ a, A = some a → ¬ S a.block) :
    w'.ownsRow base e size (.slice A n cap) n xs := by
  obtain ⟨h1, h2 | ⟨g', cap', cur, hv, hb, hg, hn, hm, hc, ht⟩⟩ := h
  · exact ⟨h1, .inl h2⟩
  · cases hv
    exact ⟨h1, .inr ⟨g', cap, cur, rfl, hb, Bk.keep hg hf (hS _ rfl), hn, hm, hc, ht⟩⟩
theorem ownR_slr {w : World} {S : Nat → Prop} {base : Nat} {e : TypeId} {size n cap : Nat} {A : Option Addr} {xs : List Value} (h : w.ownsRow base e size (.slice A n cap) n xs) (hS : ∀ a, A = some a → ¬ S a.block) : SlR w S size A n xs := by
  refine ⟨h.1, fun hn => ?_⟩
  obtain ⟨h1, ⟨h2, h3⟩ | ⟨g, cap', cur, hv, hb, hg, hnn, hm, hc, ht⟩⟩ := id h
  · omega
  · cases hv
    refine ⟨_, rfl, Bk.lt hg, hS _ rfl, fun j u hu => ?_⟩
    rw [addr_add, Nat.zero_add, Bk.cell hg j]
    have hl : j < xs.length := by
      rcases Nat.lt_or_ge j xs.length with h1 | h1
      · exact h1
      · rw [List.getElem?_eq_none h1] at hu; cases hu
    rw [← ht, List.getElem?_take, if_pos (by omega)] at hu
    simpa using hu
theorem ownR_cap {w : World} {base : Nat} {e : TypeId} {size n cap : Nat} {A : Option Addr} {xs : List Value} (h : w.ownsRow base e size (.slice A n cap) n xs) : n ≤ cap := by
  obtain ⟨h1, ⟨h2, h3⟩ | ⟨g', cap', cur, hv, hb, hg, hn, _⟩⟩ := h
  · omega
  · cases hv; exact hn
/-- how much lines are -/
def wtL : List (List UInt8) → Nat
  | [] => 0
  | a :: r => a.length + 1 + wtL r
theorem linesOf_wt : ∀ (n : Nat) (l : List UInt8), l.length ≤ n → wtL (linesOf l).1 ≤ l.length
  | _, [], _ => Nat.le_refl _
  | 0, c :: l, h => by simp at h
  | n + 1, c :: l, h => by
    cases hl : lineOf (c :: l) with
    | none => rw [linesOf_none (by simp) hl]; exact Nat.zero_le _
    | some x =>
      obtain ⟨a, r⟩ := x
      have e1 := lineOf_len _ _ _ hl
      rw [linesOf_some hl]
      have := linesOf_wt n r (by simp at h e1; omega)
      simp only [wtL]; omega
theorem linesOf_step {l : List UInt8} {fm i : Nat} {out : List (List UInt8)} (hle : fm ≤ i) (h0 : l[i]? = some 0) (hn : ∀ j, fm ≤ j → j < i → l[j]? ≠ some 0) (hL : linesOf l = (out ++ (linesOf (l.drop fm)).1, (linesOf (l.drop fm)).2)) :
    linesOf l = ((out ++ [(l.take i).drop fm]) ++ (linesOf (l.drop (i + 1))).1, (linesOf (l.drop (i + 1))).2) := by
  have h := lineOf_at (l.drop fm) (i - fm) (by rw [List.getElem?_drop, show fm + (i - fm) = i by omega]; exact h0) (fun j hj e => by
    rw [List.getElem?_drop] at e
    exact hn (fm + j) (by omega) (by omega) e)
  rw [List.drop_drop, show fm + (i - fm + 1) = i + 1 by omega] at h
  rw [hL, linesOf_some h, List.drop_take]
  simp

set_option maxRecDepth 20000 in
set_option maxHeartbeats 1000000 in
theorem refLines (l : List UInt8) (w : World) (hl : l.length ≤ 1099511627) :
    Calls Tryd.prog 28 #[.string (bs l)] w fun e w' => ∃ A cap, e = .returned (.tuple #[.slice A (linesOf l).1.length cap, .bool (linesOf l).2]) ∧
      SlR w' (fun k => k < w.heap.size) 1 A (linesOf l).1.length (strv (linesOf l).1) ∧ (linesOf l).1.length ≤ cap ∧ wtL (linesOf l).1 ≤ l.length ∧ Fr noB w w' := by
  obtain ⟨i0, hi0, hz0, hz1, hz2⟩ := info_parts str_info2
  go_enter Tryd.func28, Tryd.ntmps28
  go_wp2_with fail
  go_loopw [4, 5, 6] (fun ov fv iv wr => ∃ (i fm : Nat) (out : List (List UInt8)) (A : Option Addr) (cap : Nat), i ≤ l.length ∧ fm ≤ i ∧ iv = .int .i64 (i : Int) ∧ fv = .int .i64 (fm : Int) ∧ ov = .slice A out.length cap ∧ out.length ≤ fm ∧
      (∀ j, fm ≤ j → j < i → l[j]? ≠ some 0) ∧ linesOf l = (out ++ (linesOf (l.drop fm)).1, (linesOf (l.drop fm)).2) ∧ wr.ownsRow w.heap.size 9 1 (.slice A out.length cap) out.length (strv out) ∧ Fr noB w wr) (fun _ _ iv _ => l.length - (intOf iv).toNat)
  case atStart => exact ⟨0, 0, [], none, 0, by omega, by omega, rfl, rfl, rfl, Nat.le_refl _, fun j _ h => absurd h (by omega), rfl, ⟨rfl, .inl ⟨rfl, rfl⟩⟩, Fr.refl _ _⟩
  case round =>
    obtain ⟨i, fm, out, A, cap, hi, hfi, rfl, rfl, rfl, hol, hn, hL, hO, hf⟩ := hrel
    by_cases hlt : i < l.length
    · obtain ⟨c, hc⟩ : ∃ c, l[i]? = some c := ⟨_, List.getElem?_eq_getElem hlt⟩
      have hgi : ∀ h : i < (bs l).size, (bs l)[i]'h = c := fun h => by rw [bs_get l i h]; rw [List.getElem?_eq_getElem hlt] at hc; injection hc
      by_cases h0 : c = 0
      · subst h0
        have H := Lib.hid (linesOf_step hfi hc hn hL)
        obtain ⟨ln, hln⟩ : ∃ x, (l.take i).drop fm = x := ⟨_, rfl⟩
        have Hln := Lib.hid hln
        clear hc hn hL hln
        have hO2 := ownR_keep hO ((Fr.refl noB wr).alloc (.cells #[.string (bs ((l.take i).drop fm))] 9)) (fun _ _ x => x)
        have hsr : SlR (wr.alloc (.cells #[.string (bs ((l.take i).drop fm))] 9)) noB 1 (some ⟨wr.heap.size, 0, none⟩) 1 (strv [(l.take i).drop fm]) :=
          SlR.of_bk (n := 1) (size := 1) (S := noB) (Bk.new wr 9 #[.string (bs ((l.take i).drop fm))]) (fun x => x) rfl
        have hf2 := hf.alloc (.cells #[.string (bs ((l.take i).drop fm))] 9)
        have hsz := hf.size
        have hfi2 : (fm : Int) ≤ (i : Int) := by omega
        have hli2 : (i : Int) ≤ (l.length : Int) := by omega
        go_wp2_with (at_builtin
                     go_must (refine wpList_app rfl (.tmp 17) (.tmp 22) _ rfl w.heap.size 9 i0 _ 1 16 Tryd.underlying60 hi0 hz0 hz1 hz2 rfl (by omega) A _ _ _ rfl hO2 noB _ 1 1 _ rfl hsr strv_one (by unfold maxLen; omega) (by omega) (by simp; omega) ?_)
                     intro A4 cap4 w4 hap)
        have hfn : Fr noB w w4 := hf2.trans' hap.fr (by rintro k hk ⟨a, e, rfl⟩; have := (ownR_blk hO a e).1; omega)
        refine ⟨⟨i + 1, i + 1, out ++ [(l.take i).drop fm], A4, cap4, by omega, Nat.le_refl _, by rw [Int.natCast_add]; rfl, by rw [Int.natCast_add]; rfl, by rw [List.length_append]; rfl, by rw [List.length_append, List.length_singleton]; omega, fun j h1 h2 => by omega, H.out, ?_, hfn⟩, by simp only [intOf]; omega⟩
        rw [List.length_append, strv_append]; exact hap.own
      · have h0j : ¬ c.toNat = 0 := fun e => h0 (UInt8.toNat.inj (by simpa using e))
        have Ha : Hid (∀ j, fm ≤ j → j < i + 1 → l[j]? ≠ some 0) := Lib.hid (by
          intro j hj1 hj e
          rcases Nat.lt_or_ge j i with h3 | h3
          · exact hn j hj1 h3 e
          · obtain rfl : j = i := by omega
            rw [hc] at e; cases e; exact h0 rfl)
        have HL := Lib.hid hL
        clear hc hn hL h0
        go_wp2_with fail
        exact ⟨⟨i + 1, fm, out, A, cap, by omega, by omega, by rw [Int.natCast_add]; rfl, rfl, rfl, hol, Ha.out, HL.out, hO, hf⟩, by simp only [intOf]; omega⟩
    · obtain rfl : i = l.length := by omega
      have hA := ownR_slr (S := fun k => k < w.heap.size) hO (fun a e h => by have := (ownR_blk hO a e).1; omega)
      by_cases hfl : fm = l.length
      · have H : Hid (linesOf l = (out, true)) := Lib.hid (by rw [hL, hfl, List.drop_length, linesOf_nil]; simp)
        have hfli : (fm : Int) = (l.length : Int) := by omega
        have hb : ((fm : Int) == (l.length : Int)) = true := by simpa using hfli
        clear hL hn hfl
        rw [hfli]
        go_wp2_with fail
        go_ret2
        have hwl := linesOf_wt l.length l (Nat.le_refl _)
        rw [H.out] at hwl
        rw [H.out]
        exact ⟨A, cap, rfl, hA, ownR_cap hO, hwl, hf⟩
      · have H : Hid (linesOf l = (out, false)) := Lib.hid (by
          rw [hL, linesOf_none (l := l.drop fm) (by intro e; have := congrArg List.length e; rw [List.length_drop] at this; simp at this; omega) (lineOf_none _ (by
            intro j hj e
            rw [List.getElem?_drop] at e
            rw [List.length_drop] at hj
            exact hn (fm + j) (by omega) (by omega) e))]
          simp)
        have hb : ((fm : Int) == (l.length : Int)) = false := by rw [beq_eq_false_iff_ne]; omega
        clear hL hn
        go_wp2_with fail
        go_ret2
        have hwl := linesOf_wt l.length l (Nat.le_refl _)
        rw [H.out] at hwl
        rw [H.out]
        exact ⟨A, cap, rfl, hA, ownR_cap hO, hwl, hf⟩
end Go.Proofs.YtcbkaiakdhiloabDoor
