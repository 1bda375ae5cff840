/- The reference's options: more of one. -/
import Derived.Test.YtcbkaiakdhiloabOptAdd
import Derived.Test.YtcbkaiakdhiloabDhcQ
set_option linter.unusedSimpArgs false
set_option linter.unusedVariables false
namespace Go.Proofs.Ytcbkaiakdhiloab
open Go.RowKit Go.Proofs
attribute [local go_sem] bs_size bs_append bs_extract

theorem own_slr {w : World} {base : Nat} {e : TypeId} {size n cap : Nat} {A : Option Addr} {xs : List Value} (h : w.ownsRow base e size (.slice A n cap) n xs) : SlR w noB size A n xs := by
  refine ⟨h.1, fun hn => ?_⟩
  obtain ⟨h1, ⟨h2, h3⟩ | ⟨g, cap', cur, hv, hb, hg, _⟩⟩ := id h
  · omega
  · cases hv
    exact ⟨_, rfl, Bk.lt hg, fun x => x, fun j u hu => by rw [addr_add, Nat.zero_add]; exact own_at h hu⟩

theorem own_slrS {w : World} {S : Nat → Prop} {base : Nat} {e : TypeId} {size n cap : Nat} {A : Option Addr} {xs : List Value} (h : w.ownsRow base e size (.slice A n cap) n xs) (hS : ∀ a, A = some a → ¬ S a.block) : SlR w S size A n xs := by
  have h1 := own_slr h
  refine ⟨h1.1, fun hn => ?_⟩
  obtain ⟨ad, e, hb, _, hc⟩ := h1.2 hn
  exact ⟨ad, e, hb, hS _ e, hc⟩
set_option maxRecDepth 20000 in
set_option maxHeartbeats 1000000 in
theorem refMore (A0 : Option Addr) (cap0 : Nat) (os : List OptD) (c : UInt8) (d : List UInt8) (w : World) (hA : SlR w noB 2 A0 os.length (optC os)) (hwt : wtO os + d.length + 1 ≤ 1099511627776) :
    Calls Try.prog 60 #[.slice A0 os.length cap0, .int .u8 (c.toNat : Int), .string (bs d)] w fun e w' =>
      ∃ A' cap', e = .returned (.slice A' (optAdd os c d).length cap') ∧ SlR w' (fun k => k < w.heap.size) 2 A' (optAdd os c d).length (optC (optAdd os c d)) ∧ Fr noB w w' := by
  have hlw := wtO_len os
  obtain ⟨i0, hi0, hz0, hz1, hz2⟩ := info_parts opt_info
  have hO0 : w.ownsRow w.heap.size 56 2 (.slice none 0 0) 0 [] := ⟨rfl, .inl ⟨rfl, rfl⟩⟩
  obtain ⟨n, hn⟩ : ∃ n, n = os.length := ⟨_, rfl⟩
  rw [← hn] at hA ⊢
  go_enter Try.func60, Try.ntmps60
  go_wp2_with (at_builtin
               go_must (refine wpList_app rfl (.const (.slice none 0 0)) (.tmp 9) _ rfl w.heap.size 56 i0 _ 2 24 Try.underlying26 hi0 hz0 hz1 hz2 rfl (by omega) none 0 0 _ rfl hO0 noB A0 n _ _ rfl hA optC_one (by unfold maxLen; omega) (by omega) (Nat.le_refl _) ?_)
               intro A cap w1 hap)
  have hO : w1.ownsRow w.heap.size 56 2 (.slice A n cap) n (optC os) := by have := hap.own; rwa [Nat.zero_add, List.nil_append] at this
  have hf1 : Fr noB w w1 := hap.fr.mono (by rintro b _ ⟨a, e, _⟩; cases e)
  clear hap hO0
  go_loopw [13] (fun iv wr => ∃ (i : Nat), i ≤ n ∧ iv = .int .i64 (i : Int) ∧ (∀ j o', j < i → os[j]? = some o' → o'.code ≠ c) ∧ wr = w1) (fun iv _ => n - (intOf iv).toNat)
  case atStart => exact ⟨0, by omega, rfl, fun j o' h => absurd h (by omega), rfl⟩
  case round =>
    obtain ⟨i, hi, rfl, ha, hw⟩ := hrel
    subst hw
    have hbw := hf1.size
    by_cases hlt : i < n
    · obtain ⟨o, ho⟩ : ∃ o, os[i]? = some o := ⟨_, List.getElem?_eq_getElem (by omega)⟩
      obtain ⟨g, rfl⟩ : ∃ g, A = some ⟨g, 0, none⟩ := by
        obtain ⟨A', cap', e, h1⟩ := own_slice hO
        cases e
        rcases h1 with rfl | ⟨g, rfl⟩
        · obtain ⟨_, ⟨h2, h3⟩ | ⟨g, _, _, h2, _⟩⟩ := hO
          · omega
          · cases h2
        · exact ⟨g, rfl⟩
      have c1 := own_at hO (optC_code os i o ho)
      have c2 := own_at hO (optC_data os i o ho)
      have f2 : ∀ x : Nat, wr.frozen? ⟨g, x, none⟩ = false := fun x => own_free hO
      have hol := wtO_at os i o ho
      have Ha := Lib.hid ha
      have Ho := Lib.hid ho
      clear ha ho
      by_cases he : o.code = c
      · subst he
        go_wp2_with fail
        go_ret
        rw [optAdd_at os i o o.code d Ho.out rfl Ha.out, List.length_set, ← hn]
        refine ⟨_, _, rfl, ?_, hf1.setCell (p := ⟨g, i * 2 + 1, none⟩) (fun h => absurd (own_base hO) (by simp at h; omega)) _⟩
        rw [← optC_set os i o _ Ho.out]; exact own_slrS (own_set hO (by omega)) (fun a e h => by have := own_blk hO a e; omega)
      · have hbi : ¬ (o.code.toNat : Int) = (c.toNat : Int) := fun e => he (UInt8.toNat.inj (by omega))
        have H1 : Hid (∀ j o', j < i + 1 → os[j]? = some o' → o'.code ≠ c) := Lib.hid (by
          intro j o' hj h2
          rcases Nat.lt_or_ge j i with h3 | h3
          · exact Ha.out j o' h3 h2
          · obtain rfl : j = i := by omega
            rw [Ho.out] at h2; cases h2; exact he)
        clear Ha he
        go_wp2_with fail
        exact ⟨⟨i + 1, by omega, by rw [Int.natCast_add]; rfl, H1.out, trivial⟩, by simp only [intOf]; omega⟩
    · obtain rfl : i = n := by omega
      subst hn
      have H1 : Hid _ := Lib.hid (optAdd_new os c d ha)
      clear ha
      have hsr : SlR (wr.alloc (.cells #[.int .u8 (c.toNat : Int), .string (bs d)] 56)) noB 2 (some ⟨wr.heap.size, 0, none⟩) 1 (optC [⟨c, d⟩]) :=
        SlR.of_bk (n := 1) (size := 2) (S := noB) (Bk.new wr 56 #[.int .u8 (c.toNat : Int), .string (bs d)]) (fun x => x) rfl
      have hO2 : (wr.alloc (.cells #[.int .u8 (c.toNat : Int), .string (bs d)] 56)).ownsRow w.heap.size 56 2 (.slice A os.length cap) os.length (optC os) :=
        own_keep hO (((Fr.refl noB wr).alloc _)) (fun _ _ x => x)
      go_wp2_with (at_builtin
                   go_must (refine wpList_app rfl (.tmp 34) (.tmp 38) _ rfl w.heap.size 56 i0 _ 2 24 Try.underlying26 hi0 hz0 hz1 hz2 rfl (by omega) A _ _ _ rfl hO2 noB _ 1 1 _ rfl hsr optC_one (by unfold maxLen; omega) (by omega) (by simp; omega) ?_)
                   intro A1 cap1 w2 hap)
      go_ret
      rw [H1.out]
      refine ⟨A1, cap1, ?_, ?_, (hf1.alloc _).trans' hap.fr ?_⟩
      · rw [List.length_append]; rfl
      · rw [List.length_append, optC_append]; exact own_slrS hap.own (fun a e h => by have := own_blk hap.own a e; omega)
      · rintro b hb ⟨a, e, rfl⟩
        exact absurd (own_blk hO a e) (by omega)
end Go.Proofs.Ytcbkaiakdhiloab
