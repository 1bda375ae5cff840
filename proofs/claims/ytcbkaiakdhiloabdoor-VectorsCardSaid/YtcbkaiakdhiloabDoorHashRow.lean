/- A row of bytes of the call's own whose slice need not begin at the row's head, and the append onto it. -/
import Derived.Test.YtcbkaiakdhiloabDoorReg
set_option linter.unusedSimpArgs false
set_option linter.unusedVariables false
namespace Go.Proofs.YtcbkaiakdhiloabDoor
open Go.RowKit Go.Proofs

theorem bytes_info : (Tryd.prog.info? 5).map (fun i => (i.zero, i.size, i.bytes)) = some (some (.int .u8 0), 1, 1) := by kernel_rfl
/-- own bytes, in a block that X allows, at any place of their row -/
def RO (w : World) (X : Nat → Prop) (v : Value) (l : List UInt8) : Prop :=
  (v = .slice none 0 0 ∧ l = []) ∨ ∃ g off cap cur, v = .slice (some ⟨g, off, none⟩) l.length cap ∧ X g ∧ w.heap[g]? = some (.cells cur 5 (0, 0)) ∧ l.length ≤ cap ∧ off + cap ≤ cur.size ∧
    ∀ (k : Nat) (x : UInt8), l[k]? = some x → cur[off + k]? = some (u8v x)
theorem RO.nil (w : World) (X : Nat → Prop) : RO w X (.slice none 0 0) [] := .inl ⟨rfl, rfl⟩
theorem RO.keep {S : Nat → Prop} {w w' : World} {X : Nat → Prop} {v : Value} {l : List UInt8} (h : RO w X v l) (hf : Fr S w w') (hS : ∀ q, X q → ¬ S q) : RO w' X v l := by
  rcases h with h | ⟨g, off, cap, cur, h1, h2, h3, h4⟩
  · exact .inl h
  · exact .inr ⟨g, off, cap, cur, h1, h2, (hf.block g (Bk.lt h3) (hS g h2)).trans h3, h4⟩
theorem RO.lower {w : World} {X X' : Nat → Prop} {v : Value} {l : List UInt8} (h : RO w X v l) (hb : ∀ q, q < w.heap.size → X q → X' q) : RO w X' v l := by
  rcases h with h | ⟨g, off, cap, cur, h1, h2, h3⟩
  · exact .inl h
  · exact .inr ⟨g, off, cap, cur, h1, hb g (Bk.lt h3.1) h2, h3⟩
theorem RO.of_own {w : World} {base : Nat} {X : Nat → Prop} {v : Value} {n : Nat} {l : List UInt8} (h : w.ownsRow base 5 1 v n (u8s l)) (hX : ∀ q, base ≤ q → X q) : RO w X v l := by
  have hl : l.length = n := by have := h.1; rw [u8s_length] at this; omega
  rcases h.2 with ⟨rfl, h0⟩ | ⟨g, cap, cur, rfl, hb, hg, hnc, hcm, hcs, htk⟩
  · exact .inl ⟨rfl, List.eq_nil_of_length_eq_zero (by omega)⟩
  · refine .inr ⟨g, 0, cap, cur, by rw [hl], hX g hb, hg, by omega, by omega, fun k x hx => ?_⟩
    have h1 : (cur.toList.take (n * 1))[k]? = some (u8v x) := by rw [htk]; simp [u8s, hx]
    have hk : k < l.length := by
      rcases Nat.lt_or_ge k l.length with h | h
      · exact h
      · rw [List.getElem?_eq_none h] at hx; cases hx
    rw [List.getElem?_take, if_pos (by omega)] at h1
    rw [Nat.zero_add]; simpa using h1
/-- what a slice of it reads -/
theorem RO.cells {w : World} {X : Nat → Prop} {g off n c : Nat} {l : List UInt8} (h : RO w X (.slice (some ⟨g, off, none⟩) n c) l) : n = l.length ∧ l.length ≤ c ∧ X g ∧ g < w.heap.size ∧ ∀ (k : Nat) (x : UInt8), l[k]? = some x → w.cell? ⟨g, off + k, none⟩ = some (.int .u8 (x.toNat : Int)) := by
  rcases h with ⟨h, _⟩ | ⟨g', off', cap, cur, h1, h2, h3, h4, h5, h6⟩
  · cases h
  · injection h1 with e1 e2 e3
    injection e1 with e1
    injection e1 with e1 e4
    subst e1; subst e2; subst e3; subst e4
    exact ⟨rfl, h4, h2, Bk.lt h3, fun k x hx => by rw [Bk.cell (t := 5) (cs := cur) h3 (off + k)]; exact h6 k x hx⟩
theorem RO.shape {w : World} {X : Nat → Prop} {v : Value} {l : List UInt8} (h : RO w X v l) : (v = .slice none 0 0 ∧ l = []) ∨ ∃ g off c, v = .slice (some ⟨g, off, none⟩) l.length c := by
  rcases h with h | ⟨g, off, cap, cur, h1, _⟩
  · exact .inl h
  · exact .inr ⟨g, off, cap, h1⟩
/-- l[k:] -/
theorem RO.drop {w : World} {X : Nat → Prop} {g off c : Nat} {l : List UInt8} (h : RO w X (.slice (some ⟨g, off, none⟩) l.length c) l) (k : Nat) (hk : k ≤ l.length) :
    RO w X (.slice (some (if c = k then ⟨g, off, none⟩ else ⟨g, off + k, none⟩)) (l.length - k) (c - k)) (l.drop k) := by
  rcases h with ⟨h, _⟩ | ⟨g', off', cap, cur, h1, h2, h3, h4, h5, h6⟩
  · cases h
  · injection h1 with e1 e2 e3
    injection e1 with e1
    injection e1 with e1 e4
    subst e1; subst e3; subst e4
    by_cases hc : c = k
    · rw [if_pos hc]
      have : l.drop k = [] := List.drop_eq_nil_of_le (by omega)
      refine .inr ⟨g, off, c - k, cur, by rw [List.length_drop], h2, h3, by rw [this]; simp, by omega, fun j x hx => by rw [this] at hx; simp at hx⟩
    · rw [if_neg hc]
      refine .inr ⟨g, off + k, c - k, cur, by rw [List.length_drop], h2, h3, by rw [List.length_drop]; omega, by omega, fun j x hx => ?_⟩
      rw [List.getElem?_drop] at hx
      rw [Nat.add_assoc]; exact h6 _ x hx
set_option maxRecDepth 20000 in
theorem run_app_ro (w : World) (X : Nat → Prop) (v : Value) (l : List UInt8) (h : RO w X v l) (A : Option Addr) (m c : Nat) (news : List UInt8) (hr : SlR w noB 1 A m (u8s news)) (hA : A = none ∨ ∃ ad, A = some ad)
    (hlen : l.length + news.length ≤ 1000000000000) (hb : ∀ q, w.heap.size ≤ q → X q) :
    ∃ v' w', (Builtin.append_ #[43, 43] 43 #[v, .slice A m c]).run Tryd.prog w = .ok v' w' ∧ RO w' X v' (l ++ news) ∧ Fr X w w' := by
  obtain ⟨i, hi, hz, hs, hbb⟩ := info_parts bytes_info
  have hm : news.length = m := by have := hr.1; rw [u8s_length] at this; omega
  have h1c : ∀ u ∈ u8s news, u.oneCell' = true := u8s_one news
  have hnew : ∀ ad, A = some ad → ∀ j u, (u8s news)[j]? = some u → w.cell? (ad.add j) = some u := by
    intro ad hAd j u hu
    rcases Nat.eq_zero_or_pos m with h0 | h0
    · have hn : news = [] := List.eq_nil_of_length_eq_zero (by omega)
      subst hn; simp [u8s] at hu
    · obtain ⟨ad', h2, _, _, hc⟩ := hr.2 h0
      rw [hAd] at h2; injection h2 with h2; subst h2
      exact hc j u hu
  rcases h with ⟨rfl, rfl⟩ | ⟨g, off, cap, cur, rfl, hbg, hg, hlc, hcs, hcell⟩
  · obtain ⟨v', w', hrun, h2, h3, h4⟩ := run_app (P := Tryd.prog) w w.heap.size 43 43 5 i _ 1 1 Tryd.underlying43 hi hz hs hbb rfl (by omega) (.slice none 0 0) 0 [] (World.ownsRow_nil w w.heap.size _ _) noB A m c (u8s news) hr h1c
      (by simp only [maxLen]; omega) (by omega) (Nat.le_refl _)
    refine ⟨v', w', hrun, ?_, ⟨h3.os, h3.tape, h3.output, h3.size, fun k hk _ => h3.block k hk (by simp [Value.ownBlock])⟩⟩
    rw [Nat.zero_add, List.nil_append] at h2
    exact RO.of_own h2 hb
  · have hold : ∀ j u, (u8s l)[j]? = some u → w.cell? ((⟨g, off, none⟩ : Addr).add j) = some u := by
      intro j u hu
      rw [addr_add, Bk.cell (t := 5) (cs := cur) hg (off + j)]
      simp only [u8s, List.getElem?_map, Option.map_eq_some_iff] at hu
      obtain ⟨x, hx, rfl⟩ := hu
      exact hcell j x hx
    rcases A with _ | ad
    · have h0 : m = 0 := by
        rcases Nat.eq_zero_or_pos m with h0 | h0
        · exact h0
        · obtain ⟨_, h2, _⟩ := hr.2 h0; cases h2
      subst h0
      have hn : news = [] := List.eq_nil_of_length_eq_zero hm
      subst hn
      refine ⟨.slice (some ⟨g, off, none⟩) l.length cap, w, ?_, by rw [List.append_nil]; exact .inr ⟨g, off, cap, cur, rfl, hbg, hg, hlc, hcs, hcell⟩, Fr.refl _ _⟩
      simp [Builtin.append_, run_underlying Tryd.underlying43, sizeOf, typeInfo, hi, Builtin.lenOf, Builtin.firstCells, hlc, storeCells]
    · by_cases hroom : l.length + m ≤ cap
      · have hrun := run_append_room_cells (P := Tryd.prog) (w := w) 43 43 5 i Tryd.underlying43 hi g off l.length cap ad m c (u8s news) (by rw [u8s_length, hs]; omega) (hnew ad rfl) h1c hroom
          (fun j hj => by rw [hs, Bk.cell (t := 5) (cs := cur) hg _, Array.getElem?_eq_getElem (by rw [u8s_length] at hj; omega)]; rfl)
          (fun j hj => Bk.free (t := 5) (cs := cur) hg _)
        rw [hs, Nat.mul_one] at hrun
        obtain ⟨cs', hb1, hb2, hb3⟩ := Bk.setMany (t := 5) (u8s news) (off + l.length) w cur hg (by rw [u8s_length]; omega)
        refine ⟨_, _, hrun, .inr ⟨g, off, cap, cs', by rw [List.length_append, hm], hbg, hb1, by rw [List.length_append]; omega, by omega, fun k x hx => ?_⟩, fr_setCells (fun _ => hbg) _ _ _ (Fr.refl _ _)⟩
        rw [hb3]
        by_cases hk : k < l.length
        · rw [if_neg (by omega)]
          rw [List.getElem?_append_left hk] at hx
          exact hcell k x hx
        · rw [List.getElem?_append_right (by omega)] at hx
          have hkn : k - l.length < news.length := by
            rcases Nat.lt_or_ge (k - l.length) news.length with h | h
            · exact h
            · rw [List.getElem?_eq_none h] at hx; cases hx
          rw [if_pos (by rw [u8s_length]; omega), show off + k - (off + l.length) = k - l.length by omega]
          simp [u8s, hx]
      · obtain ⟨v', w', hrun, h2, h3⟩ := run_append_arg_grows (P := Tryd.prog) (w := w) 43 43 5 i _ 1 1 Tryd.underlying43 hi hz hs hbb rfl (by omega) ⟨g, off, none⟩ l.length cap (u8s l) (by rw [u8s_length]; omega) hold ad m c (u8s news) (by rw [u8s_length]; omega) (hnew ad rfl)
          (by omega) (by simp only [maxLen]; omega) (by omega)
        refine ⟨v', w', hrun, ?_, ⟨h3.os, h3.tape, h3.output, h3.size, fun k hk _ => h3.block k hk (by simp)⟩⟩
        rw [← u8s_append] at h2
        exact RO.of_own h2 hb
end Go.Proofs.YtcbkaiakdhiloabDoor
