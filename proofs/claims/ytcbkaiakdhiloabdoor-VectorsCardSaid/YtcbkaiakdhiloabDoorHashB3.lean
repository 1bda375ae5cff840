/- The program's block: its regions that make memory, and the copy. -/
import Derived.Test.YtcbkaiakdhiloabDoorHashB2
set_option linter.unusedSimpArgs false
set_option linter.unusedVariables false
namespace Go.Proofs.YtcbkaiakdhiloabDoor
open Go.RowKit Go.Proofs

theorem UB.free {w : World} {g : Nat} {t : TypeId} {l : List UInt32} (h : UB w g t l) (k : Nat) : w.frozen? ⟨g, k, none⟩ = false := Bk.free h k
theorem bk_setRow {w : World} {g : Nat} {t : TypeId} {cs cs' : Array Value} (h : Bk w g t cs) : Bk (w.setRow g cs') g t cs' ∧ Fr (oneB g) w (w.setRow g cs') := by
  unfold Bk at h ⊢
  refine ⟨by simp [World.setRow, Array.getElem?_modify, h], ⟨rfl, rfl, rfl, by simp [World.setRow], fun k hk hn => ?_⟩⟩
  have hne : g ≠ k := fun e => hn e.symm
  simp [World.setRow, Array.getElem?_modify, hne]
theorem u32s_one (l : List UInt32) : ∀ u ∈ u32s l, u.oneCell' = true := by
  intro u hu; simp only [u32s, List.mem_map] at hu; obtain ⟨b, _, rfl⟩ := hu; rfl
/-- copy(h[1:], h[:7]) -/
theorem run_shift (w : World) (g : Nat) (a b c d e f x y : UInt32) (h : UB w g 72 [a, b, c, d, e, f, x, y]) :
    ∃ w', (Builtin.copy_ #[119, 119] 3 #[.slice (some ⟨g, 1, none⟩) 7 7, .slice (some ⟨g, 0, none⟩) 7 8]).run Tryd.prog w = .ok (goInt 7) w' ∧
      UB w' g 72 [a, a, b, c, d, e, f, x] ∧ Fr (oneB g) w w' := by
  have hr := run_copy_row (P := Tryd.prog) w 119 119 3 25 g 1 7 7 ⟨g, 0, none⟩ 7 8 (u32s [a, b, c, d, e, f, x, y]).toArray 72 (u32s [a, b, c, d, e, f, x]) Tryd.underlying119 (by kernel_rfl) h rfl
    (fun j v hj => by
      rw [addr_add, Nat.zero_add]
      match j, hj with
      | 0, hj => injection hj with hj; subst hj; exact h.get 0 _ rfl
      | 1, hj => injection hj with hj; subst hj; exact h.get 1 _ rfl
      | 2, hj => injection hj with hj; subst hj; exact h.get 2 _ rfl
      | 3, hj => injection hj with hj; subst hj; exact h.get 3 _ rfl
      | 4, hj => injection hj with hj; subst hj; exact h.get 4 _ rfl
      | 5, hj => injection hj with hj; subst hj; exact h.get 5 _ rfl
      | 6, hj => injection hj with hj; subst hj; exact h.get 6 _ rfl
      | j + 7, hj => cases hj) (by simp [u32s]) (u32s_one _)
  obtain ⟨h1, h2⟩ := bk_setRow (cs' := ((u32s [a, b, c, d, e, f, x, y]).toArray.toList.take 1 ++ u32s [a, b, c, d, e, f, x] ++ (u32s [a, b, c, d, e, f, x, y]).toArray.toList.drop (1 + (u32s [a, b, c, d, e, f, x]).length)).toArray) h
  exact ⟨_, hr, h1, h2⟩

set_option maxRecDepth 20000 in
set_option maxHeartbeats 1000000 in
theorem blkR0  (a : Act) (w : World) (K : Exit → Act → World → Prop) (hs : Sz 195 a)
     
    (hK : ∀ a' w', Sz 195 a' → Kp [0, 1, 5, 6, 7, 8, 9, 10, 11, 12, 13, 14, 15, 16, 17, 18, 104, 178] a a' → sl a' 4 = .pointer (some ⟨w.heap.size, 0, none⟩) → w' = w.alloc (.cells (u32s (List.replicate 64 0)).toArray 117) → K .normal a' w') :
    (regionOf Tryd.f63 0).wp Tryd.prog K a w := by
  have hK2 : ∀ a' w', Sz 195 a' → KpU [0, 1, 5, 6, 7, 8, 9, 10, 11, 12, 13, 14, 15, 16, 17, 18, 104, 178] (sl a) a' → sl a' 4 = .pointer (some ⟨w.heap.size, 0, none⟩) → w' = w.alloc (.cells (u32s (List.replicate 64 0)).toArray 117) → K .normal a' w' := hK
  clear hK
  rw [blkFr_of hs]
  clear hs
  generalize sl a = u at *
  clear a
  have HK := Lib.hid hK2
  clear hK2
  conv => arg 2; whnf
  simp only [blkFr]
  go_wp2_with fail
  exact HK.out _ _  ⟨rfl, rfl⟩ (KpU.cons (rfl) (KpU.cons (rfl) (KpU.cons (rfl) (KpU.cons (rfl) (KpU.cons (rfl) (KpU.cons (rfl) (KpU.cons (rfl) (KpU.cons (rfl) (KpU.cons (rfl) (KpU.cons (rfl) (KpU.cons (rfl) (KpU.cons (rfl) (KpU.cons (rfl) (KpU.cons (rfl) (KpU.cons (rfl) (KpU.cons (rfl) (KpU.cons (rfl) (KpU.cons (rfl) (KpU.nil _ _))))))))))))))))))) (rfl) rfl

set_option maxRecDepth 20000 in
set_option maxHeartbeats 1000000 in
theorem blkR13 (p : Nat) (v : S8) (a : Act) (w : World) (K : Exit → Act → World → Prop) (hs : Sz 195 a)
    (h0 : sl a 0 = .pointer (some ⟨p, 0, none⟩)) (hR : RU w p v.list)
    (hK : ∀ a' w', Sz 195 a' → Kp [0, 1, 4, 5, 6, 7, 8, 9, 10, 12, 13, 14, 15, 16, 17, 18, 104, 178] a a' → sl a' 11 = .pointer (some ⟨w.heap.size, 0, none⟩) → UB w' w.heap.size 72 v.list → Fr noB w w' → K .normal a' w') :
    (regionOf Tryd.f63 13).wp Tryd.prog K a w := by
  have hK2 : ∀ a' w', Sz 195 a' → KpU [0, 1, 4, 5, 6, 7, 8, 9, 10, 12, 13, 14, 15, 16, 17, 18, 104, 178] (sl a) a' → sl a' 11 = .pointer (some ⟨w.heap.size, 0, none⟩) → UB w' w.heap.size 72 v.list → Fr noB w w' → K .normal a' w' := hK
  clear hK
  rw [blkFr_of hs]
  clear hs
  generalize sl a = u at *
  clear a
  have HK := Lib.hid hK2
  clear hK2
  conv => arg 2; whnf
  have c0 := hR.2 0 _ rfl
  have c1 := hR.2 1 _ rfl
  have c2 := hR.2 2 _ rfl
  have c3 := hR.2 3 _ rfl
  have c4 := hR.2 4 _ rfl
  have c5 := hR.2 5 _ rfl
  have c6 := hR.2 6 _ rfl
  have c7 := hR.2 7 _ rfl
  clear hR
  simp only [blkFr, h0]
  go_wp2_with fail
  exact HK.out _ _  ⟨rfl, rfl⟩ (KpU.cons (h0.symm) (KpU.cons (rfl) (KpU.cons (rfl) (KpU.cons (rfl) (KpU.cons (rfl) (KpU.cons (rfl) (KpU.cons (rfl) (KpU.cons (rfl) (KpU.cons (rfl) (KpU.cons (rfl) (KpU.cons (rfl) (KpU.cons (rfl) (KpU.cons (rfl) (KpU.cons (rfl) (KpU.cons (rfl) (KpU.cons (rfl) (KpU.cons (rfl) (KpU.cons (rfl) (KpU.nil _ _))))))))))))))))))) (rfl) (Bk.new w _ (u32s v.list).toArray) ((Fr.refl _ _).alloc _)

set_option maxRecDepth 20000 in
set_option maxHeartbeats 1000000 in
theorem blkR20 (gh : Nat) (a0 b c d e f x y : UInt32) (a : Act) (w : World) (K : Exit → Act → World → Prop) (hs : Sz 195 a)
    (h11 : sl a 11 = .pointer (some ⟨gh, 0, none⟩)) (hU : UB w gh 72 [a0, b, c, d, e, f, x, y])
    (hK : ∀ a' w', Sz 195 a' → Kp [0, 1, 4, 5, 6, 7, 8, 9, 10, 11, 12, 13, 14, 15, 16, 17, 18, 104, 178] a a' → UB w' gh 72 [a0, a0, b, c, d, e, f, x] → Fr (oneB gh) w w' → K .normal a' w') :
    (regionOf Tryd.f63 20).wp Tryd.prog K a w := by
  have hK2 : ∀ a' w', Sz 195 a' → KpU [0, 1, 4, 5, 6, 7, 8, 9, 10, 11, 12, 13, 14, 15, 16, 17, 18, 104, 178] (sl a) a' → UB w' gh 72 [a0, a0, b, c, d, e, f, x] → Fr (oneB gh) w w' → K .normal a' w' := hK
  clear hK
  rw [blkFr_of hs]
  clear hs
  generalize sl a = u at *
  clear a
  have HK := Lib.hid hK2
  clear hK2
  conv => arg 2; whnf
  obtain ⟨w3, hrun, hU3, hf3⟩ := run_shift w.drew gh a0 b c d e f x y hU
  have hf4 : Fr (oneB gh) w w3 := ((Fr.refl _ w).drew).trans hf3
  have hbk : Bk w gh 72 (u32s [a0, b, c, d, e, f, x, y]).toArray := hU
  clear hU hf3
  simp only [blkFr, h11]
  refine wp_region_still_tail 2 (by kernel_rfl) (by kernel_rfl) ?_
  simp only [List.take_succ_cons, List.take_zero, List.drop_succ_cons, List.drop_zero]
  repeat still_step
  refine wpStill_nil ?_
  refine wpList_copy_run rfl (.tmp 165) (.tmp 166) _ _ rfl hrun rfl rfl ?_
  refine wpList_nil ?_
  exact HK.out _ _  ⟨rfl, rfl⟩ (KpU.cons (rfl) (KpU.cons (rfl) (KpU.cons (rfl) (KpU.cons (rfl) (KpU.cons (rfl) (KpU.cons (rfl) (KpU.cons (rfl) (KpU.cons (rfl) (KpU.cons (rfl) (KpU.cons (h11.symm) (KpU.cons (rfl) (KpU.cons (rfl) (KpU.cons (rfl) (KpU.cons (rfl) (KpU.cons (rfl) (KpU.cons (rfl) (KpU.cons (rfl) (KpU.cons (rfl) (KpU.cons (rfl) (KpU.nil _ _))))))))))))))))))))  hU3 hf4

set_option maxRecDepth 20000 in
set_option maxHeartbeats 1000000 in
theorem blkR21 (gh : Nat) (x t : UInt32) (a : Act) (w : World) (K : Exit → Act → World → Prop) (hs : Sz 195 a)
    (h11 : sl a 11 = .pointer (some ⟨gh, 0, none⟩)) (h15 : sl a 15 = .int .u32 (t.toNat : Int)) (hx : w.cell? ⟨gh, 4, none⟩ = some (.int .u32 (x.toNat : Int))) (hfz : w.frozen? ⟨gh, 4, none⟩ = false)
    (hK : ∀ a' w', Sz 195 a' → Kp [0, 1, 4, 5, 6, 7, 8, 9, 10, 11, 12, 13, 14, 15, 16, 17, 18, 104, 178] a a' → w' = w.setCell ⟨gh, 4, none⟩ (.int .u32 ((x + t).toNat : Int)) → K .normal a' w') :
    (regionOf Tryd.f63 21).wp Tryd.prog K a w := by
  have hK2 : ∀ a' w', Sz 195 a' → KpU [0, 1, 4, 5, 6, 7, 8, 9, 10, 11, 12, 13, 14, 15, 16, 17, 18, 104, 178] (sl a) a' → w' = w.setCell ⟨gh, 4, none⟩ (.int .u32 ((x + t).toNat : Int)) → K .normal a' w' := hK
  clear hK
  rw [blkFr_of hs]
  clear hs
  generalize sl a = u at *
  clear a
  have HK := Lib.hid hK2
  clear hK2
  conv => arg 2; whnf
  have xlx : (x.toNat : Int) ≤ 4294967295 := by have := x.toNat_lt; omega
  have xlt : (t.toNat : Int) ≤ 4294967295 := by have := t.toNat_lt; omega
  obtain ⟨r1, hr1⟩ : ∃ r, r = x + t := ⟨_, rfl⟩
  have s1 := addw x t
  rw [← hr1] at s1 HK
  clear hr1
  simp only [blkFr, h11, h15]
  go_wp2_with fail
  exact HK.out _ _  ⟨rfl, rfl⟩ (KpU.cons (rfl) (KpU.cons (rfl) (KpU.cons (rfl) (KpU.cons (rfl) (KpU.cons (rfl) (KpU.cons (rfl) (KpU.cons (rfl) (KpU.cons (rfl) (KpU.cons (rfl) (KpU.cons (h11.symm) (KpU.cons (rfl) (KpU.cons (rfl) (KpU.cons (rfl) (KpU.cons (h15.symm) (KpU.cons (rfl) (KpU.cons (rfl) (KpU.cons (rfl) (KpU.cons (rfl) (KpU.cons (rfl) (KpU.nil _ _))))))))))))))))))))  rfl

set_option maxRecDepth 20000 in
set_option maxHeartbeats 1000000 in
theorem blkR22 (gh : Nat) (t q : UInt32) (z : Value) (a : Act) (w : World) (K : Exit → Act → World → Prop) (hs : Sz 195 a)
    (h11 : sl a 11 = .pointer (some ⟨gh, 0, none⟩)) (h15 : sl a 15 = .int .u32 (t.toNat : Int)) (h16 : sl a 16 = .int .u32 (q.toNat : Int)) (hx : w.cell? ⟨gh, 0, none⟩ = some (z)) (hfz : w.frozen? ⟨gh, 0, none⟩ = false)
    (hK : ∀ a' w', Sz 195 a' → Kp [0, 1, 4, 5, 6, 7, 8, 9, 10, 11, 12, 13, 14, 15, 16, 17, 18, 104, 178] a a' → w' = w.setCell ⟨gh, 0, none⟩ (.int .u32 ((t + q).toNat : Int)) → K .normal a' w') :
    (regionOf Tryd.f63 22).wp Tryd.prog K a w := by
  have hK2 : ∀ a' w', Sz 195 a' → KpU [0, 1, 4, 5, 6, 7, 8, 9, 10, 11, 12, 13, 14, 15, 16, 17, 18, 104, 178] (sl a) a' → w' = w.setCell ⟨gh, 0, none⟩ (.int .u32 ((t + q).toNat : Int)) → K .normal a' w' := hK
  clear hK
  rw [blkFr_of hs]
  clear hs
  generalize sl a = u at *
  clear a
  have HK := Lib.hid hK2
  clear hK2
  conv => arg 2; whnf
  have xlt : (t.toNat : Int) ≤ 4294967295 := by have := t.toNat_lt; omega
  have xlq : (q.toNat : Int) ≤ 4294967295 := by have := q.toNat_lt; omega
  obtain ⟨r1, hr1⟩ : ∃ r, r = t + q := ⟨_, rfl⟩
  have s1 := addw t q
  rw [← hr1] at s1 HK
  clear hr1
  simp only [blkFr, h11, h15, h16]
  go_wp2_with fail
  exact HK.out _ _  ⟨rfl, rfl⟩ (KpU.cons (rfl) (KpU.cons (rfl) (KpU.cons (rfl) (KpU.cons (rfl) (KpU.cons (rfl) (KpU.cons (rfl) (KpU.cons (rfl) (KpU.cons (rfl) (KpU.cons (rfl) (KpU.cons (h11.symm) (KpU.cons (rfl) (KpU.cons (rfl) (KpU.cons (rfl) (KpU.cons (h15.symm) (KpU.cons (h16.symm) (KpU.cons (rfl) (KpU.cons (rfl) (KpU.cons (rfl) (KpU.cons (rfl) (KpU.nil _ _))))))))))))))))))))  rfl

end Go.Proofs.YtcbkaiakdhiloabDoor
