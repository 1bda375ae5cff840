/- The walk of boot.Hash. -/
import Derived.Test.YtcbkaiakdhiloabDoorHashSum
set_option linter.unusedSimpArgs false
set_option linter.unusedVariables false
namespace Go.Proofs.YtcbkaiakdhiloabDoor
open Go.RowKit Go.Proofs

set_option maxRecDepth 20000 in
theorem bootHash (l : List UInt8) (hl : l.length ≤ 100000000000) (w : World) (hRk : RU w 3 kTab) (hRb : RU w 2 h0.list) :
    Calls Tryd.prog 6 #[.string (bs l)] w fun e w' => e = .returned (.string (bs (sha l))) ∧ Fr noB w w' := by
  go_enter Tryd.func6, Tryd.ntmps6
  have hfa : Fr noB w (w.alloc (.cells #[.string (bs l)] 9)) := (Fr.refl _ _).alloc _
  have hcall := hashSum l hl w.heap.size 1 (w.alloc (.cells #[.string (bs l)] 9)) ((Bk.new w _ _).cell 0) (by rw [alloc_sz]; omega) (hRk.keep hfa id) (hRb.keep hfa id)
  clear hRk hRb
  obtain ⟨o, ho⟩ : ∃ o, o = sha l := ⟨_, rfl⟩
  rw [← ho]
  have hol : o.length = 32 := by rw [ho]; rfl
  rw [← ho] at hcall
  clear ho
  have hsz32 : (Tryd.prog.info? 56).map (·.size) = some 32 := by kernel_rfl
  have h32 : ((u8s o).toArray).size = 32 := by simp [u8s, hol]
  have hone : ((u8s o).toArray).all (·.oneCell') = true := by rw [Array.all_eq_true]; intro k hk; exact u8s_one o _ (by simp)
  obtain ⟨cb, hcb⟩ : ∃ z, z = (u8s o).toArray := ⟨_, rfl⟩
  rw [← hcb] at hcall h32 hone
  have HCB := Lib.hid hcb
  clear hcb
  go_wp2_with (first
    | (go_at_call 20; refine hcall.mono ?_; rintro e w9 ⟨rfl, hf9⟩)
    | (refine wpList_store_bk rfl 56 (.tmp 3) (.tmp 6) rfl w9.heap.size 56 (u8s (List.replicate 32 0)).toArray cb rfl rfl (Bk.new w9 _ _) (by rw [h32]; rfl) (by rw [hsz32, h32]) hone ?_; intro w10 hx10 hf10; have hcv := run_str_of (P := Tryd.prog) w10 43 9 5 Tryd.underlying43 Tryd.underlying5 Tryd.underlying9 noB (some ⟨w9.heap.size, 0, none⟩) 32 32 o (by have h := SlR.of_bk (S := noB) (n := 32) (size := 1) hx10 id h32; rw [HCB.out] at h; exact h) (.inr ⟨_, _, rfl⟩)))
  go_ret
  exact ⟨rfl, ((hfa.trans hf9).alloc _).trans' hf10 fun b hb h => by
    unfold oneB at h
    have := (hfa.trans hf9).size
    omega⟩
end Go.Proofs.YtcbkaiakdhiloabDoor
