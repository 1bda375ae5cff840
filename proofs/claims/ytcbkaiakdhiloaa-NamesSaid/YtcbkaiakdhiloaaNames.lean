/- The walk of the law netbootlaw.Names: three loops over literals. -/
import Derived.Test.YtcbkaiakdhiloaaMem
set_option linter.unusedSimpArgs false
set_option linter.unusedVariables false
namespace Go.Proofs.Ytcbkaiakdhiloaa
open Go.RowKit Go.Proofs

theorem num_any (x : Int) (w : World) : Calls Try.prog 12 #[.int .i64 x] w fun e w' => e = .returned (.int .i64 x) ∧ w = w' := by
  go_enter Try.func12, Try.ntmps12
  go_wp2_with fail
  go_ret
  exact ⟨rfl, rfl⟩
def cnt : Nat → Array Value
  | 0 => #[]
  | n + 1 => (cnt n).push (.int .i64 n)
theorem cnt_get : ∀ n k, k < n → (cnt n)[k]? = some (.int .i64 k)
  | n + 1, k, h => by
    have hs : ∀ n, (cnt n).size = n := by intro n; induction n with | zero => rfl | succ n ih => simp [cnt, ih]
    unfold cnt
    rw [Array.getElem?_push, hs]
    split
    · rename_i e; subst e; rfl
    · exact cnt_get n k (by omega)
theorem bk_cnt {w : World} {g : Nat} {t : TypeId} {cs : Array Value} (n : Nat) (hb : Bk w g t cs) (h : cs = cnt n) : ∀ k, k < n → w.cell? ⟨g, k, none⟩ = some (.int .i64 k) := by
  intro k hk; rw [hb.cell k, h]; exact cnt_get n k hk

set_option maxRecDepth 20000 in
set_option maxHeartbeats 1000000 in
theorem names_any (w : World) : Calls Try.prog 3 #[] w fun e w' => e = .returned (.bool true) ∧ Fr noB w w' := by
  go_enter Try.func3, Try.ntmps3
  go_wp2_with fail
  have h1 := bk_cnt 9 (Bk.new w 22 #[.int .i64 0, .int .i64 1, .int .i64 2, .int .i64 3, .int .i64 4, .int .i64 5, .int .i64 6, .int .i64 7, .int .i64 8]) rfl
  have f1 : Fr noB w (w.alloc (.cells #[.int .i64 0, .int .i64 1, .int .i64 2, .int .i64 3, .int .i64 4, .int .i64 5, .int .i64 6, .int .i64 7, .int .i64 8] 22)) := (Fr.refl _ _).alloc _
  generalize w.alloc (.cells #[.int .i64 0, .int .i64 1, .int .i64 2, .int .i64 3, .int .i64 4, .int .i64 5, .int .i64 6, .int .i64 7, .int .i64 8] 22) = w1 at *
  generalize w.heap.size = g1 at *
  go_loop [14] (fun i => ∃ k : Nat, k ≤ 9 ∧ i = .int .i64 k) (fun i => 9 - (intOf i).toNat)
  case atStart => exact ⟨0, by omega, rfl⟩
  case round =>
    obtain ⟨k, hk, rfl⟩ := hrel
    by_cases hlt : k < 9
    · have hc := h1 k hlt
      clear h1
      go_wp2_with fail
      refine (num_any _ _).mono ?_
      rintro e w2 ⟨rfl, rfl⟩
      go_wp2_with fail
      go_round
      case rel => exact ⟨k + 1, by omega, by go_num⟩
      case measure => simp [intOf]; omega
    · clear h1
      go_wp2_with fail
      have h2 := bk_cnt 7 (Bk.new w1 25 #[.int .i64 0, .int .i64 1, .int .i64 2, .int .i64 3, .int .i64 4, .int .i64 5, .int .i64 6]) rfl
      have f2 := f1.alloc (.cells #[.int .i64 0, .int .i64 1, .int .i64 2, .int .i64 3, .int .i64 4, .int .i64 5, .int .i64 6] 25)
      generalize w1.alloc (.cells #[.int .i64 0, .int .i64 1, .int .i64 2, .int .i64 3, .int .i64 4, .int .i64 5, .int .i64 6] 25) = w2 at *
      generalize w1.heap.size = g2 at *
      clear f1
      go_loop [27] (fun i => ∃ k : Nat, k ≤ 7 ∧ i = .int .i64 k) (fun i => 7 - (intOf i).toNat)
      case atStart => exact ⟨0, by omega, rfl⟩
      case round =>
        obtain ⟨j, hj, rfl⟩ := hrel
        by_cases hlt2 : j < 7
        · have hc := h2 j hlt2
          clear h2
          go_wp2_with fail
          go_round
          case rel => exact ⟨j + 1, by omega, by go_num⟩
          case measure => simp [intOf]; omega
        · clear h2
          go_wp2_with fail
          have h3 := bk_cnt 5 (Bk.new w2 27 #[.int .i64 0, .int .i64 1, .int .i64 2, .int .i64 3, .int .i64 4]) rfl
          have f3 := f2.alloc (.cells #[.int .i64 0, .int .i64 1, .int .i64 2, .int .i64 3, .int .i64 4] 27)
          generalize w2.alloc (.cells #[.int .i64 0, .int .i64 1, .int .i64 2, .int .i64 3, .int .i64 4] 27) = w3 at *
          generalize w2.heap.size = g3 at *
          clear f2
          go_loop [39] (fun i => ∃ k : Nat, k ≤ 5 ∧ i = .int .i64 k) (fun i => 5 - (intOf i).toNat)
          case atStart => exact ⟨0, by omega, rfl⟩
          case round =>
            obtain ⟨m, hm, rfl⟩ := hrel
            by_cases hlt3 : m < 5
            · have hc := h3 m hlt3
              clear h3
              go_wp2_with fail
              go_round
              case rel => exact ⟨m + 1, by omega, by go_num⟩
              case measure => simp [intOf]; omega
            · clear h3
              go_wp2_with fail
              go_ret
              exact ⟨rfl, f3⟩
end Go.Proofs.Ytcbkaiakdhiloaa
