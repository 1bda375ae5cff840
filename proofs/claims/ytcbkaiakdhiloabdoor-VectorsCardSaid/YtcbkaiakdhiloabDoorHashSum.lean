/- The program's hash.Sum of one text. -/
import Derived.Test.YtcbkaiakdhiloabDoorHashS3
import Derived.Test.YtcbkaiakdhiloabDoorByB
set_option linter.unusedSimpArgs false
set_option linter.unusedVariables false
namespace Go.Proofs.YtcbkaiakdhiloabDoor
open Go.RowKit Go.Proofs
attribute [local go_sem] bs_size bs_append bs_extract

set_option maxRecDepth 20000 in
set_option maxHeartbeats 1000000 in
theorem hashSum (l : List UInt8) (hl : l.length ≤ 100000000000) (gp c : Nat) (w : World) (hcell : w.cell? ⟨gp, 0, none⟩ = some (.string (bs l))) (hgp : gp < w.heap.size)
    (hRk : RU w 3 kTab) (hRb : RU w 2 h0.list) :
    Calls Tryd.prog 20 #[.slice (some ⟨gp, 0, none⟩) 1 c] w
      (fun e w' => e = .returned (.agg (u8s (sha l)).toArray) ∧ Fr noB w w') := by
  have c0 := hRb.2 0 _ rfl
  have c1 := hRb.2 1 _ rfl
  have c2 := hRb.2 2 _ rfl
  have c3 := hRb.2 3 _ rfl
  have c4 := hRb.2 4 _ rfl
  have c5 := hRb.2 5 _ rfl
  have c6 := hRb.2 6 _ rfl
  have c7 := hRb.2 7 _ rfl
  have hkl := hRk.1
  have hbl := hRb.1
  clear hRb
  have hR0 : YB ((w.alloc (.cells (u8s (List.replicate 32 0)).toArray 56)).alloc (.cells (u32s h0.list ++ [Value.slice none 0 0, Value.int .u64 0]).toArray 75)) w.heap.size 56 (List.replicate 32 0) := (Bk.new w _ _).alloc _
  have hf0 : Fr noB w ((w.alloc (.cells (u8s (List.replicate 32 0)).toArray 56)).alloc (.cells (u32s h0.list ++ [Value.slice none 0 0, Value.int .u64 0]).toArray 75)) := ((Fr.refl _ _).alloc _).alloc _
  have hSt0 : StB ((w.alloc (.cells (u8s (List.replicate 32 0)).toArray 56)).alloc (.cells (u32s h0.list ++ [Value.slice none 0 0, Value.int .u64 0]).toArray 75)) (w.heap.size + 1) h0.list (.slice none 0 0) (.int .u64 0) := by
    have h := Bk.new (w.alloc (.cells (u8s (List.replicate 32 0)).toArray 56)) 75 (u32s h0.list ++ [Value.slice none 0 0, Value.int .u64 0]).toArray
    rw [alloc_sz] at h; exact h
  obtain ⟨X, hX⟩ : ∃ X : Nat → Prop, ∀ q, X q ↔ w.heap.size + 2 ≤ q := ⟨_, fun _ => Iff.rfl⟩
  obtain ⟨p, hp⟩ : ∃ p, p = w.heap.size + 1 := ⟨_, rfl⟩
  obtain ⟨gr, hgr⟩ : ∃ p, p = w.heap.size := ⟨_, rfl⟩
  have hXp : ¬ X p := fun h => by have := (hX p).1 h; omega
  have hXk : ¬ X 3 := fun h => by have := (hX _).1 h; omega
  have hXr : ¬ X gr := fun h => by have := (hX gr).1 h; omega
  have hkp : 3 ≠ p := by omega
  have hgrp : gr ≠ p := by omega
  have hown : ∀ b, b < w.heap.size → ownS p X b → noB b := fun b hb h => h.elim (fun h => by omega) fun h => by have := (hX b).1 h; omega
  rw [← hp] at hSt0
  rw [← hgr] at hR0
  have hS0 : HSt _ p X [] := ⟨hXp, _, hSt0, RO.nil _ _⟩
  have hsz0 : ((w.alloc (.cells (u8s (List.replicate 32 0)).toArray 56)).alloc (.cells (u32s h0.list ++ [Value.slice none 0 0, Value.int .u64 0]).toArray 75)).heap.size = w.heap.size + 2 := by
    rw [alloc_sz, alloc_sz]
  have HS0 := Lib.hid hS0
  have HR0 := Lib.hid hR0
  have Hf0 := Lib.hid hf0
  have Hsz := Lib.hid hsz0
  clear hS0 hR0 hf0 hSt0 hsz0
  have Hown := Lib.hid hown
  clear hown
  go_enter Tryd.func20, Tryd.ntmps20
  go_wp2_with fail
  rw [← hp, ← hgr]
  have Hp := Lib.hid hp
  have Hgr := Lib.hid hgr
  clear hp hgr
  go_loopw [11] (fun iv wr => ∃ (k : Nat), k ≤ 1 ∧ iv = .int .i64 (k : Int) ∧ HSt wr p X (if k = 0 then [] else l) ∧ YB wr gr 56 (List.replicate 32 0) ∧ Fr noB w wr ∧ w.heap.size + 2 ≤ wr.heap.size) (fun iv _ => 1 - (intOf iv).toNat)
  case atStart => exact ⟨0, by omega, rfl, HS0.out, HR0.out, Hf0.out, by have := Hsz.out; exact Nat.le_of_eq this.symm⟩
  case round =>
    obtain ⟨k, hk, rfl, hS, hR, hf, hsz⟩ := hrel
    have hRk1 := hRk.keep hf id
    have hcell1 := (hf.cell (a := ⟨gp, 0, none⟩) hgp id).trans hcell
    by_cases hk0 : k = 0
    · subst hk0
      rw [if_pos rfl] at hS
      have hcv := Go.Lib.run_convert_string_bytes (P := Tryd.prog) wr 9 43 5 (bs l) Tryd.underlying9 Tryd.underlying43 Tryd.underlying5
      have hby := ByB.new wr 5 l
      have hfb := ByB.fr wr 5 l
      rw [bs_size] at hcv
      generalize Go.Lib.bytesWorld wr 5 (bs l) = wb at *
      generalize Go.grownCap wr l.length 0 5 = cb at *
      have hpne : wr.heap.size ≠ p := by have := Hp.out; omega
      have hcall := hashWrite [] l p l.length cb X (some ⟨wr.heap.size, 0, none⟩) wb (hS.keep hfb id fun _ _ h => h) (hby.slr hpne) (fun q hq => (hX q).2 (by have := hfb.size; omega)) (by simp; omega) (hRk1.keep hfb id) hXk hkp
      rw [List.nil_append] at hcall
      have hfwb : Fr noB w wb := hf.trans hfb
      have hRb := hR.keep hfb id
      have hszb := hfb.size
      have HR := Lib.hid hRb
      clear hS hR hby hf hfb hRk1 hRb
      go_wp2_with (go_at_call 35; refine hcall.mono ?_; rintro e w9 ⟨rfl, hS9, hf9⟩)
      have hszz := hf9.size
      exact ⟨⟨1, by omega, rfl, hS9, HR.out.keep hf9 (ownS_no hgrp hXr), hfwb.trans' hf9 Hown.out, by omega⟩, by simp only [intOf]; omega⟩
    · obtain rfl : k = 1 := by omega
      rw [if_neg hk0] at hS
      have hcall := hashSumM l hl p X wr hS (fun q hq => (hX q).2 (by omega)) hRk1 hXk hkp
      have hsz32 : (Tryd.prog.info? 56).map (·.size) = some 32 := by kernel_rfl
      have hl32 : (sha l).length = 32 := rfl
      have h32 : ((u8s (sha l)).toArray).size = 32 := by simp [u8s, hl32]
      have hone : ((u8s (sha l)).toArray).all (·.oneCell') = true := by rw [Array.all_eq_true]; intro k hk; exact u8s_one (sha l) _ (by simp)
      have HR := Lib.hid hR
      obtain ⟨cb, hcb⟩ : ∃ z, z = (u8s (sha l)).toArray := ⟨_, rfl⟩
      rw [← hcb] at hcall h32 hone
      have HCB := Lib.hid hcb
      clear hcb
      clear hS hR hRk1
      go_wp2_with (first
        | (go_at_call 36; refine hcall.mono ?_; rintro e w9 ⟨rfl, hf9⟩)
        | (refine wpList_store_bk rfl 56 (.tmp 2) (.tmp 21) rfl gr _ _ cb rfl rfl (HR.out.keep hf9 (ownS_no hgrp hXr)) (by rw [h32]; rfl) (by rw [hsz32, h32]) hone ?_; intro w10 hx10 hf10))
      refine bodyPost_ret (results_cell_row Tryd.results20 _ w10 gr _ _ _ _ rfl hx10 Tryd.underlying56 rfl (by rw [hsz32, h32])) rfl ?_
      exact ⟨by rw [HCB.out], (hf.trans' hf9 Hown.out).trans' hf10 fun b hb h => by unfold oneB at h; have := Hgr.out; omega⟩
end Go.Proofs.YtcbkaiakdhiloabDoor
