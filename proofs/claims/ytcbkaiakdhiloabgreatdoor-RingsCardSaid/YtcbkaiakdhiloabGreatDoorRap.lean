/- Parts of the walk; written by programs, merged. -/
import Derived.Test.YtcbkaiakdhiloabGreatDoorRao
set_option linter.unusedSimpArgs false
set_option linter.unusedVariables false
set_option maxRecDepth 20000
set_option maxHeartbeats 8000000
set_option maxRecDepth 20000
namespace Go.Proofs.YtcbkaiakdhiloabGreatDoor
open Go.RowKit Go.Proofs
attribute [local go_sem] bs_size bs_append bs_extract bs_toList
theorem exec_load_at {P : Program} {o : Oper} {a : Act} {w : World} (ty : TypeId) (x : Operand) (ho : o.op = .load ty x)
    (ad : Addr) (hx : a.eval x = .pointer (some ad)) (cs : Array Value) (d : TypeDesc) (hg : ∀ (j : Nat) (u : Value), cs[j]? = some u → w.cell? (ad.add j) = some u)
    (hu : P.underlying ty = some d) (hd : (match d with | .struct _ | .array _ _ => true | _ => false) = true) (hi : (P.info? ty).map (·.size) = some cs.size) : (execOp a.eval o).run P w = .ok (.value (.agg cs)) w := by
  have hrun : (loadVar ty ad).run P w = .ok (.agg cs) w := by
    have hl : (loadCells ad cs.toList.length).run P w = .ok cs.toList.toArray w := run_loadCells_list (P := P) w ad cs.toList (fun j v hv => hg j v (by simpa using hv))
    cases hq : P.info? ty with
    | none => simp [hq] at hi
    | some i =>
      have hs : i.size = cs.size := by simpa [hq] using hi
      have hagg : (isAgg ty).run P w = .ok true w := by
        unfold isAgg
        rw [Sem.run_bind, run_underlying hu w]
        cases d <;> simp_all
      simp only [Array.length_toList, Array.toArray_toList] at hl
      simp [loadVar, Sem.run_bind, hagg, sizeOf, typeInfo, hq, hs, hl]
  unfold execOp
  simp only [ho, hx, Instr.loadAt, Instr.sureAddr, Sem.run_bind, Sem.run_pure, Result.andThen_ok, hrun]
theorem cfgInf : (Tryz.prog.info? 48).map (·.size) = some 13 := by kernel_rfl
theorem pairInf : (Tryz.prog.info? 171).map (·.size) = some 2 := by kernel_rfl
theorem cell_ltU2 {W : World} {a : Addr} {v : Value} (h : W.cell? a = some v) : a.block < W.heap.size := block_lt_of_cell h
theorem cell_ltU {W : World} {g i : Nat} {v : Value} (h : W.cell? ⟨g, i, none⟩ = some v) : g < W.heap.size := cell_ltU2 h
structure OpAt (w : World) (q : Nat) (o : OpD) : Prop where
  bk : Bk w q 114 (opC o)
theorem OpAt.keep {w w' : World} {S : Nat → Prop} {q : Nat} {o : OpD} (h : OpAt w q o) (hf : Fr S w w') (hq : ¬ S q) : OpAt w' q o := ⟨h.bk.keep hf hq⟩
theorem OpAt.c0 {w : World} {q : Nat} {o : OpD} (h : OpAt w q o) : w.cell? ⟨q, 0, none⟩ = some (.int .i64 o.kind) := h.bk.cell 0
theorem OpAt.c1 {w : World} {q : Nat} {o : OpD} (h : OpAt w q o) : w.cell? ⟨q, 1, none⟩ = some (.int .i64 o.a) := h.bk.cell 1
theorem OpAt.c2 {w : World} {q : Nat} {o : OpD} (h : OpAt w q o) : w.cell? ⟨q, 2, none⟩ = some (.int .i64 o.n) := h.bk.cell 2
theorem arr_mid {a b c : Array Value} {j n : Nat} {u : Value} (hn : a.size = n) (h : b[j]? = some u) : (a ++ b ++ c)[n + j]? = some u := by
  have hj : j < b.size := by
    rcases Nat.lt_or_ge j b.size with h1 | h1
    · exact h1
    · rw [Array.getElem?_eq_none h1] at h; cases h
  subst hn
  rw [Array.getElem?_append_left (by rw [Array.size_append]; omega), Array.getElem?_append_right (by omega)]
  simpa using h
theorem bk_at {w : World} {g : Nat} {t : TypeId} {cs : Array Value} (h : Bk w g t cs) {k : Nat} {u : Value} (hu : cs[k]? = some u) : w.cell? ⟨g, k, none⟩ = some u := (Bk.cell h k).trans hu
theorem arr_end {a : Array Value} {n : Nat} {x : Value} (hn : a.size = n) : (a ++ #[x])[n]? = some x := by
  subst hn
  rw [Array.getElem?_append_right (Nat.le_refl _)]; simp
theorem OpAt.c16 {w : World} {q : Nat} {o : OpD} (h : OpAt w q o) : w.cell? ⟨q, 16, none⟩ = some (.string (bs o.s)) := bk_at h.bk (arr_end rfl)
theorem addr_addN (q n j : Nat) : (⟨q, n, none⟩ : Addr).add j = ⟨q, n + j, none⟩ := by cases j <;> simp [Addr.add]
theorem OpAt.cfg {w : World} {q : Nat} {o : OpD} (h : OpAt w q o) (j : Nat) (u : Value) (hu : (cfgC o.c)[j]? = some u) : w.cell? ((⟨q, 3, none⟩ : Addr).add j) = some u := by
  rw [addr_addN]; exact bk_at h.bk (arr_mid rfl hu)
def utF (u : Nat → Value) : Act := ⟨#[u 0, u 1, u 2, u 3, u 4, u 5, u 6, u 7, u 8, u 9, u 10, u 11, u 12, u 13, u 14, u 15, u 16, u 17, u 18, u 19, u 20, u 21, u 22, u 23, u 24, u 25, u 26, u 27, u 28, u 29, u 30, u 31, u 32, u 33, u 34, u 35, u 36, u 37, u 38, u 39, u 40, u 41, u 42, u 43, u 44, u 45, u 46, u 47, u 48, u 49, u 50, u 51, u 52, u 53, u 54, u 55, u 56, u 57, u 58, u 59, u 60, u 61, u 62, u 63, u 64, u 65, u 66, u 67, u 68, u 69, u 70, u 71, u 72, u 73, u 74, u 75, u 76, u 77, u 78, u 79, u 80, u 81, u 82, u 83, u 84, u 85, u 86, u 87, u 88, u 89, u 90, u 91, u 92, u 93, u 94, u 95, u 96, u 97, u 98, u 99, u 100, u 101, u 102, u 103, u 104, u 105, u 106, u 107, u 108, u 109, u 110, u 111, u 112, u 113, u 114, u 115, u 116, u 117, u 118, u 119, u 120, u 121, u 122, u 123, u 124, u 125, u 126, u 127, u 128, u 129, u 130, u 131, u 132, u 133, u 134, u 135, u 136, u 137, u 138, u 139, u 140, u 141, u 142, u 143, u 144, u 145, u 146, u 147, u 148, u 149, u 150, u 151, u 152, u 153, u 154, u 155, u 156, u 157, u 158, u 159, u 160, u 161, u 162, u 163, u 164, u 165, u 166, u 167, u 168, u 169, u 170, u 171, u 172, u 173, u 174, u 175, u 176, u 177, u 178, u 179, u 180, u 181, u 182, u 183, u 184, u 185, u 186, u 187], []⟩
set_option maxRecDepth 100000 in
theorem utF_eq (u : Nat → Value) : utF u = frN 188 u := rfl
theorem utF_of {a : Act} (h : Sz 188 a) : a = utF (sl a) := h.eq.trans (utF_eq _).symm
theorem utR0 (cs : Array Value) (a : Act) (w : World) (K : Exit → Act → World → Prop) (hs : Sz 188 a)
    (h1 : sl a 1 = .agg cs) 
    (hK : ∀ a' w', Sz 188 a' → Kp [0, 5, 6, 7, 8, 9, 10, 11, 12, 13, 85] a a' → sl a' 3 = .pointer (some ⟨w.heap.size, 0, none⟩) → Fr noB w w' → Bk w' w.heap.size 114 cs → K .normal a' w') :
    (regionOf Tryz.f54 0).wp Tryz.prog K a w := by
  unfold Kp at hK; rw [utF_of hs]; clear hs; generalize sl a = u at *; clear a; have HK := Lib.hid hK; clear hK; conv => arg 2; whnf
  simp only [utF, h1]
  go_wp2_with fail
  exact HK.out _ _  ⟨rfl, rfl⟩ (Kc rfl (Kc rfl (Kc rfl (Kc rfl (Kc rfl (Kc rfl (Kc rfl (Kc rfl (Kc rfl (Kc rfl (Kc rfl (Kn _ _)))))))))))) (rfl) ((Fr.refl _ _).alloc _) (Bk.new _ _ _)
theorem utR1 (q : Nat) (o : OpD) (a : Act) (w : World) (K : Exit → Act → World → Prop) (hs : Sz 188 a)
    (h3 : sl a 3 = .pointer (some ⟨q, 0, none⟩)) (hO : OpAt w q o)
    (hK : ∀ a' w', Sz 188 a' → Kp [0, 3, 4, 5, 6, 7, 8, 9, 10, 11, 12, 13, 85] a a' → sl a' 18 = .bool (o.kind == 1) → w' = w → K .normal a' w') :
    (regionOf Tryz.f54 1).wp Tryz.prog K a w := by
  unfold Kp at hK; rw [utF_of hs]; clear hs; generalize sl a = u at *; clear a; have HK := Lib.hid hK; clear hK; conv => arg 2; whnf
  simp only [utF, h3]
  have c0 := hO.c0
  clear hO
  go_wp2_with fail
  exact HK.out _ _  ⟨rfl, rfl⟩ (Kc rfl (Kc h3.symm (Kc rfl (Kc rfl (Kc rfl (Kc rfl (Kc rfl (Kc rfl (Kc rfl (Kc rfl (Kc rfl (Kc rfl (Kc rfl (Kn _ _)))))))))))))) (rfl) rfl
theorem utR2a (q : Nat) (o : OpD) (a : Act) (w : World) (K : Exit → Act → World → Prop) (hs : Sz 188 a)
    (h3 : sl a 3 = .pointer (some ⟨q, 0, none⟩)) (hO : OpAt w q o) (hG : Glb w) (hok : o.c.Ok)
    (hK : ∀ a' w' L, Sz 188 a' → Kp [0, 3, 4, 7, 8, 9, 10, 11, 12, 13, 85] a a' → sl a' 5 = .pointer (some ⟨L.p, 0, none⟩) → sl a' 6 = .int .i64 0 → BootAt w' L (stNew o.c) → (∀ b, own' L b → w.heap.size ≤ b) → Fr noB w w' → K .normal a' w') :
    (regionOf Tryz.f54 2).wp Tryz.prog K a w := by
  unfold Kp at hK; rw [utF_of hs]; clear hs; generalize sl a = u at *; clear a; have HK := Lib.hid hK; clear hK; conv => arg 2; whnf
  simp only [utF, h3]
  have hu := Tryz.underlying48
  go_wp2_with (first | (refine wpList_load_at rfl 48 (.tmp 20) rfl ⟨q, 3, none⟩ rfl (cfgC o.c) _ hO.cfg hu rfl cfgInf ?_) | (go_at_call 18; refine (bootNewL o.c _ hG).mono ?_; rintro e w4 hp; obtain ⟨L, rfl, hB1, ho1, hf1⟩ := hp.1 hok))
  exact HK.out _ _ L ⟨rfl, rfl⟩ (Kc rfl (Kc h3.symm (Kc rfl (Kc rfl (Kc rfl (Kc rfl (Kc rfl (Kc rfl (Kc rfl (Kc rfl (Kc rfl (Kn _ _)))))))))))) (rfl) (rfl) hB1 ho1 hf1
theorem utR2b (q : Nat) (o : OpD) (a : Act) (w : World) (K : Exit → Act → World → Prop) (hs : Sz 188 a)
    (h3 : sl a 3 = .pointer (some ⟨q, 0, none⟩)) (hO : OpAt w q o) (hG : Glb w) (hok : ¬ o.c.Ok)
    (hK : ∀ a' w', Sz 188 a' → Kp [0, 3, 4, 7, 8, 9, 10, 11, 12, 13, 85] a a' → sl a' 5 = .pointer none → sl a' 6 = .int .i64 8 → Fr noB w w' → K .normal a' w') :
    (regionOf Tryz.f54 2).wp Tryz.prog K a w := by
  unfold Kp at hK; rw [utF_of hs]; clear hs; generalize sl a = u at *; clear a; have HK := Lib.hid hK; clear hK; conv => arg 2; whnf
  simp only [utF, h3]
  have hu := Tryz.underlying48
  go_wp2_with (first | (refine wpList_load_at rfl 48 (.tmp 20) rfl ⟨q, 3, none⟩ rfl (cfgC o.c) _ hO.cfg hu rfl cfgInf ?_) | (go_at_call 18; refine (bootNewL o.c _ hG).mono ?_; rintro e w4 hp; obtain ⟨rfl, hf1⟩ := hp.2 hok))
  exact HK.out _ _  ⟨rfl, rfl⟩ (Kc rfl (Kc h3.symm (Kc rfl (Kc rfl (Kc rfl (Kc rfl (Kc rfl (Kc rfl (Kc rfl (Kc rfl (Kc rfl (Kn _ _)))))))))))) (rfl) (rfl) hf1
theorem utR3a (g q T : Nat) (o : OpD) (a : Act) (w : World) (K : Exit → Act → World → Prop) (hs : Sz 188 a)
    (h0 : sl a 0 = .pointer (some ⟨g, 0, none⟩)) (h3 : sl a 3 = .pointer (some ⟨q, 0, none⟩)) (hOp : OpAt w q o) (hT : w.cell? ⟨g, 0, none⟩ = some (.pointer (some ⟨T, 0, none⟩))) (hall : RowG w 4 #[.int .u8 255, .int .u8 255, .int .u8 255, .int .u8 255, .int .u8 255, .int .u8 255]) (hok : o.c.Ok)
    (hK : ∀ a' w' p, Sz 188 a' → Kp [0, 3, 4, 5, 6, 9, 10, 11, 12, 13, 85] a a' → sl a' 7 = .pointer (some ⟨p, 0, none⟩) → sl a' 8 = .bool true → ModelAt w' p T ⟨none, 0, none, 0, none, 0, none, 0⟩ (stNew o.c) → w.heap.size ≤ p → Fr noB w w' → K .normal a' w') :
    (regionOf Tryz.f54 3).wp Tryz.prog K a w := by
  unfold Kp at hK; rw [utF_of hs]; clear hs; generalize sl a = u at *; clear a; have HK := Lib.hid hK; clear hK; conv => arg 2; whnf
  simp only [utF, h0, h3]
  refine wp_region_pls (by kernel_rfl) (fun w' => (OpAt w' q o ∧ w'.cell? ⟨g, 0, none⟩ = some (.pointer (some ⟨T, 0, none⟩))) ∧ (RowG w' 4 #[.int .u8 255, .int .u8 255, .int .u8 255, .int .u8 255, .int .u8 255, .int .u8 255] ∧ Fr noB w w')) [6] (.p 0 (.p 1 (.p 2 (.p 4 (.q 3 (.q 5 (.e 6 (.p 7 (.p 8 (.p 9 (.p 10 (.p 11 .nil)))))))))))) (by kernel_rfl) (⟨⟨hOp.keep (Fr.refl noB _).drew (fun x => x), hT⟩, hall.keep (Fr.refl noB _).drew (fun x => x), (Fr.refl _ _).drew⟩) ?_
  intro ops Q' hO hQ' wr1 hR1
  iterate 4 (refine pl_p0 hO rfl rfl ?_ (fun w' => ?_) ?_; rotate_left 1; (focus (go_simp; ((try with_reducible rfl); done))); simp only [Act.put, List.setIfInBounds_toArray, List.set_cons_zero, List.set_cons_succ])
  refine pl_q0 hO rfl rfl ?_ (fun w' hS => ?_) ?_; rotate_left 1; (focus (obtain ⟨⟨hO, hT⟩, hall, hF⟩ := hS; go_simp; ((try with_reducible rfl); done))); simp only [Act.put, List.setIfInBounds_toArray, List.set_cons_zero, List.set_cons_succ]
  refine pl_q0 hO rfl rfl (.agg (cfgC o.c)) (fun w' hS => exec_load_at 48 (.tmp 30) rfl ⟨q, 3, none⟩ rfl (cfgC o.c) _ hS.1.1.cfg Tryz.underlying48 rfl cfgInf) ?_; simp only [Act.put, List.setIfInBounds_toArray, List.set_cons_zero, List.set_cons_succ]
  refine pl_b0 hO rfl rfl rfl (fun K hK => ?_)
  go_simp
  refine (refNew o.c T _ hR1.2.1).mono ?_
  rintro e w4 hp
  obtain ⟨p, rfl, hM, hle, hf4⟩ := hp.1 hok
  refine hK _ _ ?_
  clear hK K
  iterate 5 (refine pl_p0 hO rfl rfl ?_ (fun w' => ?_) ?_; rotate_left 1; (focus (go_simp; ((try with_reducible rfl); done))); simp only [Act.put, List.setIfInBounds_toArray, List.set_cons_zero, List.set_cons_succ])
  refine pl_nil (hQ' _ _ ?_)
  exact HK.out _ _ p ⟨rfl, rfl⟩ (Kc h0.symm (Kc h3.symm (Kc rfl (Kc rfl (Kc rfl (Kc rfl (Kc rfl (Kc rfl (Kc rfl (Kc rfl (Kc rfl (Kn _ _)))))))))))) (rfl) (rfl) hM (Nat.le_trans hR1.2.2.size hle) (hR1.2.2.none hf4)
theorem utR3b (g q T : Nat) (o : OpD) (a : Act) (w : World) (K : Exit → Act → World → Prop) (hs : Sz 188 a)
    (h0 : sl a 0 = .pointer (some ⟨g, 0, none⟩)) (h3 : sl a 3 = .pointer (some ⟨q, 0, none⟩)) (hOp : OpAt w q o) (hT : w.cell? ⟨g, 0, none⟩ = some (.pointer (some ⟨T, 0, none⟩))) (hall : RowG w 4 #[.int .u8 255, .int .u8 255, .int .u8 255, .int .u8 255, .int .u8 255, .int .u8 255]) (hok : ¬ o.c.Ok)
    (hK : ∀ a' w', Sz 188 a' → Kp [0, 3, 4, 5, 6, 9, 10, 11, 12, 13, 85] a a' → sl a' 7 = .pointer none → sl a' 8 = .bool false → Fr noB w w' → K .normal a' w') :
    (regionOf Tryz.f54 3).wp Tryz.prog K a w := by
  unfold Kp at hK; rw [utF_of hs]; clear hs; generalize sl a = u at *; clear a; have HK := Lib.hid hK; clear hK; conv => arg 2; whnf
  simp only [utF, h0, h3]
  refine wp_region_pls (by kernel_rfl) (fun w' => (OpAt w' q o ∧ w'.cell? ⟨g, 0, none⟩ = some (.pointer (some ⟨T, 0, none⟩))) ∧ (RowG w' 4 #[.int .u8 255, .int .u8 255, .int .u8 255, .int .u8 255, .int .u8 255, .int .u8 255] ∧ Fr noB w w')) [6] (.p 0 (.p 1 (.p 2 (.p 4 (.q 3 (.q 5 (.e 6 (.p 7 (.p 8 (.p 9 (.p 10 (.p 11 .nil)))))))))))) (by kernel_rfl) (⟨⟨hOp.keep (Fr.refl noB _).drew (fun x => x), hT⟩, hall.keep (Fr.refl noB _).drew (fun x => x), (Fr.refl _ _).drew⟩) ?_
  intro ops Q' hO hQ' wr1 hR1
  iterate 4 (refine pl_p0 hO rfl rfl ?_ (fun w' => ?_) ?_; rotate_left 1; (focus (go_simp; ((try with_reducible rfl); done))); simp only [Act.put, List.setIfInBounds_toArray, List.set_cons_zero, List.set_cons_succ])
  refine pl_q0 hO rfl rfl ?_ (fun w' hS => ?_) ?_; rotate_left 1; (focus (obtain ⟨⟨hO, hT⟩, hall, hF⟩ := hS; go_simp; ((try with_reducible rfl); done))); simp only [Act.put, List.setIfInBounds_toArray, List.set_cons_zero, List.set_cons_succ]
  refine pl_q0 hO rfl rfl (.agg (cfgC o.c)) (fun w' hS => exec_load_at 48 (.tmp 30) rfl ⟨q, 3, none⟩ rfl (cfgC o.c) _ hS.1.1.cfg Tryz.underlying48 rfl cfgInf) ?_; simp only [Act.put, List.setIfInBounds_toArray, List.set_cons_zero, List.set_cons_succ]
  refine pl_b0 hO rfl rfl rfl (fun K hK => ?_)
  go_simp
  refine (refNew o.c T _ hR1.2.1).mono ?_
  rintro e w4 hp
  obtain ⟨rfl, hf4⟩ := hp.2 hok
  refine hK _ _ ?_
  clear hK K
  iterate 5 (refine pl_p0 hO rfl rfl ?_ (fun w' => ?_) ?_; rotate_left 1; (focus (go_simp; ((try with_reducible rfl); done))); simp only [Act.put, List.setIfInBounds_toArray, List.set_cons_zero, List.set_cons_succ])
  refine pl_nil (hQ' _ _ ?_)
  exact HK.out _ _  ⟨rfl, rfl⟩ (Kc h0.symm (Kc h3.symm (Kc rfl (Kc rfl (Kc rfl (Kc rfl (Kc rfl (Kc rfl (Kc rfl (Kc rfl (Kc rfl (Kn _ _)))))))))))) (rfl) (rfl) (hR1.2.2.none hf4)
theorem utR4 (b : Bool) (a : Act) (w : World) (K : Exit → Act → World → Prop) (hs : Sz 188 a)
    (h8 : sl a 8 = .bool b) 
    (hK : ∀ a' w', Sz 188 a' → Kp [0, 3, 4, 5, 6, 7, 8, 9, 10, 11, 12, 13, 85] a a' → sl a' 36 = .bool (!b) → w' = w → K .normal a' w') :
    (regionOf Tryz.f54 4).wp Tryz.prog K a w := by
  unfold Kp at hK; rw [utF_of hs]; clear hs; generalize sl a = u at *; clear a; have HK := Lib.hid hK; clear hK; conv => arg 2; whnf
  simp only [utF, h8]
  go_wp2_with fail
  exact HK.out _ _  ⟨rfl, rfl⟩ (Kc rfl (Kc rfl (Kc rfl (Kc rfl (Kc rfl (Kc rfl (Kc h8.symm (Kc rfl (Kc rfl (Kc rfl (Kc rfl (Kc rfl (Kc rfl (Kn _ _)))))))))))))) (rfl) rfl
theorem utR5  (a : Act) (w : World) (K : Exit → Act → World → Prop) (hs : Sz 188 a)
    (h5 : sl a 5 = .pointer none) (h6 : sl a 6 = .int .i64 8) 
    (hK : ∀ a' w', Sz 188 a' → Kp [0, 3, 5, 6, 7, 8, 9, 10, 11, 12, 13, 85] a a' → sl a' 4 = .bool true → w' = w → K .normal a' w') :
    (regionOf Tryz.f54 5).wp Tryz.prog K a w := by
  unfold Kp at hK; rw [utF_of hs]; clear hs; generalize sl a = u at *; clear a; have HK := Lib.hid hK; clear hK; conv => arg 2; whnf
  simp only [utF, h5, h6]
  go_wp2_with fail
  exact HK.out _ _  ⟨rfl, rfl⟩ (Kc rfl (Kc rfl (Kc h5.symm (Kc h6.symm (Kc rfl (Kc rfl (Kc rfl (Kc rfl (Kc rfl (Kc rfl (Kc rfl (Kc rfl (Kn _ _))))))))))))) (rfl) rfl
theorem utR6 (p : Nat) (a : Act) (w : World) (K : Exit → Act → World → Prop) (hs : Sz 188 a)
    (h5 : sl a 5 = .pointer (some ⟨p, 0, none⟩)) (h6 : sl a 6 = .int .i64 0) 
    (hK : ∀ a' w', Sz 188 a' → Kp [0, 3, 4, 5, 6, 7, 8, 9, 10, 11, 12, 13, 85] a a' → sl a' 48 = .bool false → w' = w → K .normal a' w') :
    (regionOf Tryz.f54 6).wp Tryz.prog K a w := by
  unfold Kp at hK; rw [utF_of hs]; clear hs; generalize sl a = u at *; clear a; have HK := Lib.hid hK; clear hK; conv => arg 2; whnf
  simp only [utF, h5, h6]
  go_wp2_with fail
  exact HK.out _ _  ⟨rfl, rfl⟩ (Kc rfl (Kc rfl (Kc rfl (Kc h5.symm (Kc h6.symm (Kc rfl (Kc rfl (Kc rfl (Kc rfl (Kc rfl (Kc rfl (Kc rfl (Kc rfl (Kn _ _)))))))))))))) (rfl) rfl
theorem utR10  (a : Act) (w : World) (K : Exit → Act → World → Prop) (hs : Sz 188 a)
     
    (hK : ∀ a' w', Sz 188 a' → Kp [0, 3, 5, 6, 7, 8, 9, 10, 11, 12, 13, 85] a a' → sl a' 4 = .bool true → w' = w → K .normal a' w') :
    (regionOf Tryz.f54 10).wp Tryz.prog K a w := by
  unfold Kp at hK; rw [utF_of hs]; clear hs; generalize sl a = u at *; clear a; have HK := Lib.hid hK; clear hK; conv => arg 2; whnf
  simp only [utF]
  go_wp2_with fail
  exact HK.out _ _  ⟨rfl, rfl⟩ (Kc rfl (Kc rfl (Kc rfl (Kc rfl (Kc rfl (Kc rfl (Kc rfl (Kc rfl (Kc rfl (Kc rfl (Kc rfl (Kc rfl (Kn _ _))))))))))))) (rfl) rfl
theorem utR11 (g n cap : Nat) (A : Option Addr) (a : Act) (w : World) (K : Exit → Act → World → Prop) (hs : Sz 188 a)
    (h0 : sl a 0 = .pointer (some ⟨g, 0, none⟩)) (hc : w.cell? ⟨g, 1, none⟩ = some (.slice A n cap))
    (hK : ∀ a' w', Sz 188 a' → Kp [0, 3, 4, 5, 6, 7, 8, 9, 10, 11, 12, 13, 85] a a' → sl a' 69 = .bool (decide (n = 0)) → w' = w → K .normal a' w') :
    (regionOf Tryz.f54 11).wp Tryz.prog K a w := by
  unfold Kp at hK; rw [utF_of hs]; clear hs; generalize sl a = u at *; clear a; have HK := Lib.hid hK; clear hK; conv => arg 2; whnf
  simp only [utF, h0]
  go_wp2_with fail
  exact HK.out _ _  ⟨rfl, rfl⟩ (Kc h0.symm (Kc rfl (Kc rfl (Kc rfl (Kc rfl (Kc rfl (Kc rfl (Kc rfl (Kc rfl (Kc rfl (Kc rfl (Kc rfl (Kc rfl (Kn _ _)))))))))))))) (congrArg Value.bool (by rw [Bool.eq_iff_iff]; simp <;> omega)) rfl
theorem utR12  (a : Act) (w : World) (K : Exit → Act → World → Prop) (hs : Sz 188 a)
     
    (hK : ∀ a' w', Sz 188 a' → Kp [0, 3, 5, 6, 7, 8, 9, 10, 11, 12, 13, 85] a a' → sl a' 4 = .bool true → w' = w → K .normal a' w') :
    (regionOf Tryz.f54 12).wp Tryz.prog K a w := by
  unfold Kp at hK; rw [utF_of hs]; clear hs; generalize sl a = u at *; clear a; have HK := Lib.hid hK; clear hK; conv => arg 2; whnf
  simp only [utF]
  go_wp2_with fail
  exact HK.out _ _  ⟨rfl, rfl⟩ (Kc rfl (Kc rfl (Kc rfl (Kc rfl (Kc rfl (Kc rfl (Kc rfl (Kc rfl (Kc rfl (Kc rfl (Kc rfl (Kc rfl (Kn _ _))))))))))))) (rfl) rfl
theorem utR14 (q : Nat) (o : OpD) (a : Act) (w : World) (K : Exit → Act → World → Prop) (hs : Sz 188 a)
    (h3 : sl a 3 = .pointer (some ⟨q, 0, none⟩)) (hO : OpAt w q o)
    (hK : ∀ a' w', Sz 188 a' → Kp [0, 3, 4, 5, 6, 7, 8, 9, 10, 11, 12, 13] a a' → sl a' 85 = .int .i64 o.kind → w' = w → K .normal a' w') :
    (regionOf Tryz.f54 14).wp Tryz.prog K a w := by
  unfold Kp at hK; rw [utF_of hs]; clear hs; generalize sl a = u at *; clear a; have HK := Lib.hid hK; clear hK; conv => arg 2; whnf
  simp only [utF, h3]
  have c0 := hO.c0
  clear hO
  go_wp2_with fail
  exact HK.out _ _  ⟨rfl, rfl⟩ (Kc rfl (Kc h3.symm (Kc rfl (Kc rfl (Kc rfl (Kc rfl (Kc rfl (Kc rfl (Kc rfl (Kc rfl (Kc rfl (Kc rfl (Kn _ _))))))))))))) (rfl) rfl
theorem utR15 (k : Int) (a : Act) (w : World) (K : Exit → Act → World → Prop) (hs : Sz 188 a)
    (h85 : sl a 85 = .int .i64 k) 
    (hK : ∀ a' w', Sz 188 a' → Kp [0, 3, 4, 5, 6, 7, 8, 9, 10, 11, 12, 13, 85] a a' → sl a' 86 = .bool (k == 2) → w' = w → K .normal a' w') :
    (regionOf Tryz.f54 15).wp Tryz.prog K a w := by
  unfold Kp at hK; rw [utF_of hs]; clear hs; generalize sl a = u at *; clear a; have HK := Lib.hid hK; clear hK; conv => arg 2; whnf
  simp only [utF, h85]
  go_wp2_with fail
  exact HK.out _ _  ⟨rfl, rfl⟩ (Kc rfl (Kc rfl (Kc rfl (Kc rfl (Kc rfl (Kc rfl (Kc rfl (Kc rfl (Kc rfl (Kc rfl (Kc rfl (Kc rfl (Kc h85.symm (Kn _ _)))))))))))))) (rfl) rfl
theorem utR17 (k : Int) (a : Act) (w : World) (K : Exit → Act → World → Prop) (hs : Sz 188 a)
    (h85 : sl a 85 = .int .i64 k) 
    (hK : ∀ a' w', Sz 188 a' → Kp [0, 3, 4, 5, 6, 7, 8, 9, 10, 11, 12, 13, 85] a a' → sl a' 99 = .bool (k == 3) → w' = w → K .normal a' w') :
    (regionOf Tryz.f54 17).wp Tryz.prog K a w := by
  unfold Kp at hK; rw [utF_of hs]; clear hs; generalize sl a = u at *; clear a; have HK := Lib.hid hK; clear hK; conv => arg 2; whnf
  simp only [utF, h85]
  go_wp2_with fail
  exact HK.out _ _  ⟨rfl, rfl⟩ (Kc rfl (Kc rfl (Kc rfl (Kc rfl (Kc rfl (Kc rfl (Kc rfl (Kc rfl (Kc rfl (Kc rfl (Kc rfl (Kc rfl (Kc h85.symm (Kn _ _)))))))))))))) (rfl) rfl
theorem utR21 (k : Int) (a : Act) (w : World) (K : Exit → Act → World → Prop) (hs : Sz 188 a)
    (h85 : sl a 85 = .int .i64 k) 
    (hK : ∀ a' w', Sz 188 a' → Kp [0, 3, 4, 5, 6, 7, 8, 9, 10, 11, 12, 13, 85] a a' → sl a' 121 = .bool (k == 4) → w' = w → K .normal a' w') :
    (regionOf Tryz.f54 21).wp Tryz.prog K a w := by
  unfold Kp at hK; rw [utF_of hs]; clear hs; generalize sl a = u at *; clear a; have HK := Lib.hid hK; clear hK; conv => arg 2; whnf
  simp only [utF, h85]
  go_wp2_with fail
  exact HK.out _ _  ⟨rfl, rfl⟩ (Kc rfl (Kc rfl (Kc rfl (Kc rfl (Kc rfl (Kc rfl (Kc rfl (Kc rfl (Kc rfl (Kc rfl (Kc rfl (Kc rfl (Kc h85.symm (Kn _ _)))))))))))))) (rfl) rfl
theorem utR24 (k : Int) (a : Act) (w : World) (K : Exit → Act → World → Prop) (hs : Sz 188 a)
    (h85 : sl a 85 = .int .i64 k) 
    (hK : ∀ a' w', Sz 188 a' → Kp [0, 3, 4, 5, 6, 7, 8, 9, 10, 11, 12, 13, 85] a a' → sl a' 135 = .bool (k == 5) → w' = w → K .normal a' w') :
    (regionOf Tryz.f54 24).wp Tryz.prog K a w := by
  unfold Kp at hK; rw [utF_of hs]; clear hs; generalize sl a = u at *; clear a; have HK := Lib.hid hK; clear hK; conv => arg 2; whnf
  simp only [utF, h85]
  go_wp2_with fail
  exact HK.out _ _  ⟨rfl, rfl⟩ (Kc rfl (Kc rfl (Kc rfl (Kc rfl (Kc rfl (Kc rfl (Kc rfl (Kc rfl (Kc rfl (Kc rfl (Kc rfl (Kc rfl (Kc h85.symm (Kn _ _)))))))))))))) (rfl) rfl
theorem utR26 (k : Int) (a : Act) (w : World) (K : Exit → Act → World → Prop) (hs : Sz 188 a)
    (h85 : sl a 85 = .int .i64 k) 
    (hK : ∀ a' w', Sz 188 a' → Kp [0, 3, 4, 5, 6, 7, 8, 9, 10, 11, 12, 13, 85] a a' → sl a' 148 = .bool (k == 6) → w' = w → K .normal a' w') :
    (regionOf Tryz.f54 26).wp Tryz.prog K a w := by
  unfold Kp at hK; rw [utF_of hs]; clear hs; generalize sl a = u at *; clear a; have HK := Lib.hid hK; clear hK; conv => arg 2; whnf
  simp only [utF, h85]
  go_wp2_with fail
  exact HK.out _ _  ⟨rfl, rfl⟩ (Kc rfl (Kc rfl (Kc rfl (Kc rfl (Kc rfl (Kc rfl (Kc rfl (Kc rfl (Kc rfl (Kc rfl (Kc rfl (Kc rfl (Kc h85.symm (Kn _ _)))))))))))))) (rfl) rfl
theorem utR33  (a : Act) (w : World) (K : Exit → Act → World → Prop) (hs : Sz 188 a)
     
    (hK : ∀ a' w', Sz 188 a' → Kp [0, 3, 5, 6, 7, 8, 9, 10, 11, 12, 13, 85] a a' → sl a' 4 = .bool true → w' = w → K .normal a' w') :
    (regionOf Tryz.f54 33).wp Tryz.prog K a w := by
  unfold Kp at hK; rw [utF_of hs]; clear hs; generalize sl a = u at *; clear a; have HK := Lib.hid hK; clear hK; conv => arg 2; whnf
  simp only [utF]
  go_wp2_with fail
  exact HK.out _ _  ⟨rfl, rfl⟩ (Kc rfl (Kc rfl (Kc rfl (Kc rfl (Kc rfl (Kc rfl (Kc rfl (Kc rfl (Kc rfl (Kc rfl (Kc rfl (Kc rfl (Kn _ _))))))))))))) (rfl) rfl
theorem utR13 (g q ga n cap i lp mp : Nat) (o : OpD) (a : Act) (w : World) (K : Exit → Act → World → Prop) (hs : Sz 188 a)
    (h0 : sl a 0 = .pointer (some ⟨g, 0, none⟩)) (h3 : sl a 3 = .pointer (some ⟨q, 0, none⟩)) (hOp : OpAt w q o) (hT : w.cell? ⟨g, 1, none⟩ = some (.slice (some ⟨ga, 0, none⟩) n cap)) (hP : ∀ (j : Nat) (u : Value), (#[.pointer (some ⟨lp, 0, none⟩), .pointer (some ⟨mp, 0, none⟩)] : Array Value)[j]? = some u → w.cell? ((⟨ga, i * 2, none⟩ : Addr).add j) = some u) (hi : i = pickI o.a n) (hn0 : 0 < n) (hil : i < n) (hnl : n ≤ 1000000) (hA0 : -9223372036854775808 ≤ o.a) (hA1 : o.a ≤ 9223372036854775807)
    (hK : ∀ a' w' b, Sz 188 a' → Kp [0, 3, 4, 5, 6, 7, 8, 10, 11, 12, 13, 85] a a' → sl a' 9 = .pointer (some ⟨b, 0, none⟩) → Bk w' b 171 #[.pointer (some ⟨lp, 0, none⟩), .pointer (some ⟨mp, 0, none⟩)] → w.heap.size ≤ b → Fr noB w w' → K .normal a' w') :
    (regionOf Tryz.f54 13).wp Tryz.prog K a w := by
  unfold Kp at hK; rw [utF_of hs]; clear hs; generalize sl a = u at *; clear a; have HK := Lib.hid hK; clear hK; conv => arg 2; whnf
  have Hi := Lib.hid hi
  clear hi
  simp only [utF, h0, h3]
  refine wp_region_pls (by kernel_rfl) (fun w' => (OpAt w' q o ∧ w'.cell? ⟨g, 1, none⟩ = some (.slice (some ⟨ga, 0, none⟩) n cap)) ∧ ((∀ (j : Nat) (u : Value), (#[.pointer (some ⟨lp, 0, none⟩), .pointer (some ⟨mp, 0, none⟩)] : Array Value)[j]? = some u → w'.cell? ((⟨ga, i * 2, none⟩ : Addr).add j) = some u) ∧ Fr noB w w')) [15] (.p 0 (.p 1 (.p 2 (.p 4 (.p 6 (.p 7 (.p 8 (.q 3 (.q 5 (.q 9 (.p 10 (.e2 11 (.p 12 (.q 13 (.e 14 (.e 15 (.nil))))) 14 (.e 11 (.p 12 (.q 13 (.e 15 (.nil))))))))))))))))) (by kernel_rfl) (⟨⟨hOp.keep (Fr.refl noB _).drew (fun x => x), hT⟩, hP, (Fr.refl _ _).drew⟩) ?_
  intro ops Q' hO hQ' wr1 hR1
  iterate 7 (refine pl_p0 hO rfl rfl ?_ (fun w' => ?_) ?_; rotate_left 1; (focus (go_simp; ((try with_reducible rfl); done))); simp only [Act.put, List.setIfInBounds_toArray, List.set_cons_zero, List.set_cons_succ])
  iterate 3 (refine pl_q0 hO rfl rfl ?_ (fun w' hS => ?_) ?_; rotate_left 1; (focus (obtain ⟨⟨hO, hT⟩, hP, hF⟩ := hS; have c1 := hO.c1; go_simp; ((try with_reducible rfl); done))); simp only [Act.put, List.setIfInBounds_toArray, List.set_cons_zero, List.set_cons_succ])
  refine pl_p0 hO rfl rfl ?_ (fun w' => ?_) ?_; rotate_left 1; (focus (go_simp; ((try with_reducible rfl); done))); simp only [Act.put, List.setIfInBounds_toArray, List.set_cons_zero, List.set_cons_succ]
  refine pl_e2 ?_ ?_
  · skip
    refine pl_e0 hO rfl rfl rfl (fun K hK => ?_)
    go_simp
    refine (lawPick o.a n i _ Hi.out hn0 (Nat.le_trans hnl (by decide)) hA0 hA1).mono ?_
    rintro e w4 ⟨rfl, hw4⟩
    subst w4
    refine hK _ _ (hR1) (fun hR_11 => ?_)
    clear hK K
    refine pl_p0 hO rfl rfl ?_ (fun w' => ?_) ?_; rotate_left 1; (focus (go_simp; ((try with_reducible rfl); done))); simp only [Act.put, List.setIfInBounds_toArray, List.set_cons_zero, List.set_cons_succ]
    refine pl_q0 hO rfl rfl (.agg #[.pointer (some ⟨lp, 0, none⟩), .pointer (some ⟨mp, 0, none⟩)]) (fun w' hS => exec_load_at 171 (.tmp 82) rfl ⟨ga, i * 2, none⟩ (by first | rfl | (simp [Addr.add]; done)) #[.pointer (some ⟨lp, 0, none⟩), .pointer (some ⟨mp, 0, none⟩)] _ hS.2.1 Tryz.underlying171 rfl pairInf) ?_; simp only [Act.put, List.setIfInBounds_toArray, List.set_cons_zero, List.set_cons_succ]
    refine pl_e0 hO rfl rfl rfl (fun K hK => ?_)
    go_simp
    refine hK _ _ (⟨⟨hR_11.1.1.keep ((Fr.refl noB _).alloc _) (fun x => x), (((Fr.refl noB _).alloc _).cell (a := ⟨g, 1, none⟩) (cell_ltU hR_11.1.2) (fun x => x)).trans hR_11.1.2⟩, fun j u hu => (((Fr.refl noB _).alloc _).cell (a := (⟨ga, i * 2, none⟩ : Addr).add j) (by have := cell_ltU2 (hR_11.2.1 j u hu); exact this) (fun x => x)).trans (hR_11.2.1 j u hu), hR_11.2.2.none ((Fr.refl noB _).alloc _)⟩) (fun hR_14 => ?_)
    clear hK K
    refine pl_b0 hO rfl rfl rfl (fun K hK => ?_)
    refine wp_store_bk 171 (.tmp 9) (.tmp 83) rfl _ _ _ #[.pointer (some ⟨lp, 0, none⟩), .pointer (some ⟨mp, 0, none⟩)] rfl rfl (Bk.new wr1 171 _) rfl (by kernel_rfl) (by simp [Value.oneCell']) (fun w5 hx5 hf5 => ?_)
    refine hK _ _ ?_
    clear hK K
    refine pl_nil (hQ' _ _ ?_)
    exact HK.out _ _ wr1.heap.size ⟨rfl, rfl⟩ (Kc h0.symm (Kc h3.symm (Kc rfl (Kc rfl (Kc rfl (Kc rfl (Kc rfl (Kc rfl (Kc rfl (Kc rfl (Kc rfl (Kc rfl (Kn _ _))))))))))))) (rfl) hx5 hR1.2.2.size (hR1.2.2.none (((Fr.refl noB wr1).alloc _).trans' hf5 (fun b hb e => by have e' : b = wr1.heap.size := e; omega)))
  · skip
    refine pl_e0 hO rfl rfl rfl (fun K hK => ?_)
    go_simp
    refine hK _ _ (⟨⟨hR1.1.1.keep ((Fr.refl noB _).alloc _) (fun x => x), (((Fr.refl noB _).alloc _).cell (a := ⟨g, 1, none⟩) (cell_ltU hR1.1.2) (fun x => x)).trans hR1.1.2⟩, fun j u hu => (((Fr.refl noB _).alloc _).cell (a := (⟨ga, i * 2, none⟩ : Addr).add j) (by have := cell_ltU2 (hR1.2.1 j u hu); exact this) (fun x => x)).trans (hR1.2.1 j u hu), hR1.2.2.none ((Fr.refl noB _).alloc _)⟩) (fun hR_14 => ?_)
    clear hK K
    refine pl_e0 hO rfl rfl rfl (fun K hK => ?_)
    go_simp
    refine (lawPick o.a n i _ Hi.out hn0 (Nat.le_trans hnl (by decide)) hA0 hA1).mono ?_
    rintro e w4 ⟨rfl, hw4⟩
    subst w4
    refine hK _ _ (hR_14) (fun hR_11 => ?_)
    clear hK K
    refine pl_p0 hO rfl rfl ?_ (fun w' => ?_) ?_; rotate_left 1; (focus (go_simp; ((try with_reducible rfl); done))); simp only [Act.put, List.setIfInBounds_toArray, List.set_cons_zero, List.set_cons_succ]
    refine pl_q0 hO rfl rfl (.agg #[.pointer (some ⟨lp, 0, none⟩), .pointer (some ⟨mp, 0, none⟩)]) (fun w' hS => exec_load_at 171 (.tmp 82) rfl ⟨ga, i * 2, none⟩ (by first | rfl | (simp [Addr.add]; done)) #[.pointer (some ⟨lp, 0, none⟩), .pointer (some ⟨mp, 0, none⟩)] _ hS.2.1 Tryz.underlying171 rfl pairInf) ?_; simp only [Act.put, List.setIfInBounds_toArray, List.set_cons_zero, List.set_cons_succ]
    refine pl_b0 hO rfl rfl rfl (fun K hK => ?_)
    refine wp_store_bk 171 (.tmp 9) (.tmp 83) rfl _ _ _ #[.pointer (some ⟨lp, 0, none⟩), .pointer (some ⟨mp, 0, none⟩)] rfl rfl (Bk.new wr1 171 _) rfl (by kernel_rfl) (by simp [Value.oneCell']) (fun w5 hx5 hf5 => ?_)
    refine hK _ _ ?_
    clear hK K
    refine pl_nil (hQ' _ _ ?_)
    exact HK.out _ _ wr1.heap.size ⟨rfl, rfl⟩ (Kc h0.symm (Kc h3.symm (Kc rfl (Kc rfl (Kc rfl (Kc rfl (Kc rfl (Kc rfl (Kc rfl (Kc rfl (Kc rfl (Kc rfl (Kn _ _))))))))))))) (rfl) hx5 hR1.2.2.size (hR1.2.2.none (((Fr.refl noB wr1).alloc _).trans' hf5 (fun b hb e => by have e' : b = wr1.heap.size := e; omega)))
theorem utR18 (b : Nat) (L : Lay) (s : St) (a : Act) (w : World) (K : Exit → Act → World → Prop) (hs : Sz 188 a)
    (h9 : sl a 9 = .pointer (some ⟨b, 0, none⟩)) (hx0 : w.cell? ⟨b, 0, none⟩ = some (.pointer (some ⟨L.p, 0, none⟩))) (h : BootAt w L s)
    (hK : ∀ a' w', Sz 188 a' → Kp [0, 3, 4, 5, 6, 7, 8, 9, 12, 13, 85] a a' → sl a' 10 = .string (bs (s.take.2.getD [])) → sl a' 11 = .bool s.take.2.isSome → BootAt w' L s.take.1 → Fr (own' L) w w' → K .normal a' w') :
    (regionOf Tryz.f54 18).wp Tryz.prog K a w := by
  unfold Kp at hK; rw [utF_of hs]; clear hs; generalize sl a = u at *; clear a; have HK := Lib.hid hK; clear hK; conv => arg 2; whnf
  simp only [utF, h9]
  go_wp2_with fail
  refine (bootTakeL L s _ h).mono ?_
  rintro e w1 ⟨rfl, hB1, hF1⟩
  go_wp2_with fail
  exact HK.out _ _  ⟨rfl, rfl⟩ (Kc rfl (Kc rfl (Kc rfl (Kc rfl (Kc rfl (Kc rfl (Kc rfl (Kc h9.symm (Kc rfl (Kc rfl (Kc rfl (Kn _ _)))))))))))) (rfl) (rfl) hB1 hF1
theorem utR19 (b p T : Nat) (M : MLay) (s : St) (a : Act) (w : World) (K : Exit → Act → World → Prop) (hs : Sz 188 a)
    (h9 : sl a 9 = .pointer (some ⟨b, 0, none⟩)) (hx1 : w.cell? ⟨b, 1, none⟩ = some (.pointer (some ⟨p, 0, none⟩))) (h : ModelAt w p T M s)
    (hK : ∀ a' w', Sz 188 a' → Kp [0, 3, 4, 5, 6, 7, 8, 9, 10, 11, 85] a a' → sl a' 12 = .string (bs (s.take.2.getD [])) → sl a' 13 = .bool s.take.2.isSome → MNow p T M w s.take.1 w' → K .normal a' w') :
    (regionOf Tryz.f54 19).wp Tryz.prog K a w := by
  unfold Kp at hK; rw [utF_of hs]; clear hs; generalize sl a = u at *; clear a; have HK := Lib.hid hK; clear hK; conv => arg 2; whnf
  simp only [utF, h9]
  go_wp2_with fail
  refine (modTake p T M s _ h).mono ?_
  rintro e w1 ⟨rfl, hN⟩
  go_wp2_with fail
  exact HK.out _ _  ⟨rfl, rfl⟩ (Kc rfl (Kc rfl (Kc rfl (Kc rfl (Kc rfl (Kc rfl (Kc rfl (Kc h9.symm (Kc rfl (Kc rfl (Kc rfl (Kn _ _)))))))))))) (rfl) (rfl) hN
theorem utR20 (x : List UInt8) (c : Bool) (a : Act) (w : World) (K : Exit → Act → World → Prop) (hs : Sz 188 a)
    (h10 : sl a 10 = .string (bs x)) (h11 : sl a 11 = .bool c) (h12 : sl a 12 = .string (bs x)) (h13 : sl a 13 = .bool c) 
    (hK : ∀ a' w', Sz 188 a' → Kp [0, 3, 5, 6, 7, 8, 9, 10, 11, 12, 13, 85] a a' → sl a' 4 = .bool true → w' = w → K .normal a' w') :
    (regionOf Tryz.f54 20).wp Tryz.prog K a w := by
  unfold Kp at hK; rw [utF_of hs]; clear hs; generalize sl a = u at *; clear a; have HK := Lib.hid hK; clear hK; conv => arg 2; whnf
  simp only [utF, h10, h11, h12, h13]
  go_wp2_with fail
  exact HK.out _ _  ⟨rfl, rfl⟩ (Kc rfl (Kc rfl (Kc rfl (Kc rfl (Kc rfl (Kc rfl (Kc rfl (Kc h10.symm (Kc h11.symm (Kc h12.symm (Kc h13.symm (Kc rfl (Kn _ _))))))))))))) (rfl) rfl
theorem utR22 (b q d : Nat) (o : OpD) (L : Lay) (s' : St) (a : Act) (w : World) (K : Exit → Act → World → Prop) (hs : Sz 188 a)
    (h3 : sl a 3 = .pointer (some ⟨q, 0, none⟩)) (h9 : sl a 9 = .pointer (some ⟨b, 0, none⟩)) (hx0 : w.cell? ⟨b, 0, none⟩ = some (.pointer (some ⟨L.p, 0, none⟩))) (hOp : OpAt w q o) (hd : o.n % 4294967296 = (d : Int)) (hcall : Calls Tryz.prog 19 #[.pointer (some ⟨L.p, 0, none⟩), .int .u32 (d : Int)] w (LPost2 L s' (.tuple #[]) w))
    (hK : ∀ a' w', Sz 188 a' → Kp [0, 3, 4, 5, 6, 7, 8, 9, 10, 11, 12, 13, 85] a a' → (Now L w s' w') → K .normal a' w') :
    (regionOf Tryz.f54 22).wp Tryz.prog K a w := by
  unfold Kp at hK; rw [utF_of hs]; clear hs; generalize sl a = u at *; clear a; have HK := Lib.hid hK; clear hK; conv => arg 2; whnf
  simp only [utF, h3, h9]
  have c2 := hOp.c2
  have Hcall := Lib.hid hcall
  clear hcall hOp
  have Hd : IntKind.u32.wrap o.n = (d : Int) := by unfold IntKind.wrap; simp [IntKind.signed, IntKind.bits]; omega
  go_wp2_with fail
  refine Hcall.out.mono ?_
  intro e w6 hp6
  obtain ⟨rfl, hp6⟩ := hp6
  go_wp2_with fail
  exact HK.out _ _  ⟨rfl, rfl⟩ (Kc rfl (Kc h3.symm (Kc rfl (Kc rfl (Kc rfl (Kc rfl (Kc rfl (Kc h9.symm (Kc rfl (Kc rfl (Kc rfl (Kc rfl (Kc rfl (Kn _ _))))))))))))))  hp6
theorem utR23 (b q d p T : Nat) (o : OpD) (M : MLay) (s' : St) (a : Act) (w : World) (K : Exit → Act → World → Prop) (hs : Sz 188 a)
    (h3 : sl a 3 = .pointer (some ⟨q, 0, none⟩)) (h9 : sl a 9 = .pointer (some ⟨b, 0, none⟩)) (hx1 : w.cell? ⟨b, 1, none⟩ = some (.pointer (some ⟨p, 0, none⟩))) (hOp : OpAt w q o) (hd : o.n % 4294967296 = (d : Int)) (hcall : Calls Tryz.prog 103 #[.pointer (some ⟨p, 0, none⟩), .int .u32 (d : Int)] w fun e w' => e = .returned (.tuple #[]) ∧ MNow p T M w s' w')
    (hK : ∀ a' w', Sz 188 a' → Kp [0, 3, 4, 5, 6, 7, 8, 9, 10, 11, 12, 13, 85] a a' → MNow p T M w s' w' → K .normal a' w') :
    (regionOf Tryz.f54 23).wp Tryz.prog K a w := by
  unfold Kp at hK; rw [utF_of hs]; clear hs; generalize sl a = u at *; clear a; have HK := Lib.hid hK; clear hK; conv => arg 2; whnf
  simp only [utF, h3, h9]
  have c2 := hOp.c2
  have Hcall := Lib.hid hcall
  clear hcall hOp
  have Hd : IntKind.u32.wrap o.n = (d : Int) := by unfold IntKind.wrap; simp [IntKind.signed, IntKind.bits]; omega
  go_wp2_with fail
  refine Hcall.out.mono ?_
  intro e w6 hp6
  obtain ⟨rfl, hN⟩ := hp6
  go_wp2_with fail
  exact HK.out _ _  ⟨rfl, rfl⟩ (Kc rfl (Kc h3.symm (Kc rfl (Kc rfl (Kc rfl (Kc rfl (Kc rfl (Kc h9.symm (Kc rfl (Kc rfl (Kc rfl (Kc rfl (Kc rfl (Kn _ _))))))))))))))  hN
attribute [-go_sem] run_eql_struct run_neq_struct run_equalIn_agg in
theorem utR27 (b p T : Nat) (L : Lay) (M : MLay) (s : St) (a : Act) (w : World) (K : Exit → Act → World → Prop) (hs : Sz 188 a)
    (h9 : sl a 9 = .pointer (some ⟨b, 0, none⟩)) (hx0 : w.cell? ⟨b, 0, none⟩ = some (.pointer (some ⟨L.p, 0, none⟩))) (hx1 : w.cell? ⟨b, 1, none⟩ = some (.pointer (some ⟨p, 0, none⟩))) (hB : BootAt w L s) (hM : ModelAt w p T M s)
    (hK : ∀ a' w', Sz 188 a' → Kp [0, 3, 5, 6, 7, 8, 9, 10, 11, 12, 13, 85] a a' → sl a' 4 = .bool true → MNow p T M w s w' → K .normal a' w') :
    (regionOf Tryz.f54 27).wp Tryz.prog K a w := by
  unfold Kp at hK; rw [utF_of hs]; clear hs; generalize sl a = u at *; clear a; have HK := Lib.hid hK; clear hK; conv => arg 2; whnf
  have hE : ∀ w, (binOp .eql 59 (.agg #[.int .i64 s.now, .int .i64 (s.lease : Int), .int .i64 (s.phase : Int), .int .u32 (s.address : Int), .int .i64 s.boots, .int .i64 (s.image.length : Int), .int .i64 s.lost, .int .i64 (s.cache.length : Int)]) (.agg #[.int .i64 s.now, .int .i64 (s.lease : Int), .int .i64 (s.phase : Int), .int .u32 (s.address : Int), .int .i64 s.boots, .int .i64 (s.image.length : Int), .int .i64 s.lost, .int .i64 (s.cache.length : Int)])).run Tryz.prog w = .ok (.bool true) w := fun w => eql_self w (by kernel_rfl)
  have hGd : Tryz.prog.eqGuardType Tryz.prog.depth 59 = false := by kernel_rfl
  simp only [utF, h9]
  refine wp_region_pls (by kernel_rfl) (fun w' => (w'.cell? ⟨b, 0, none⟩ = some (.pointer (some ⟨L.p, 0, none⟩)) ∧ w'.cell? ⟨b, 1, none⟩ = some (.pointer (some ⟨p, 0, none⟩))) ∧ (BootAt w' L s ∧ (ModelAt w' p T M s ∧ Fr noB w w'))) [5] (.p 0 (.p 3 (.q 1 (.q 4 (.e 2 (.e 5 (.p 6 (.p 7 .nil)))))))) (by kernel_rfl) (⟨⟨hx0, hx1⟩, hB.drew, hM.drew, (Fr.refl _ _).drew⟩) ?_
  intro ops Q' hO hQ' wr1 hR1
  iterate 2 (refine pl_p0 hO rfl rfl ?_ (fun w' => ?_) ?_; rotate_left 1; (focus (go_simp; ((try with_reducible rfl); done))); simp only [Act.put, List.setIfInBounds_toArray, List.set_cons_zero, List.set_cons_succ])
  iterate 2 (refine pl_q0 hO rfl rfl ?_ (fun w' hS => ?_) ?_; rotate_left 1; (focus (obtain ⟨⟨hx0, hx1⟩, hB, hM, hF⟩ := hS; go_simp; ((try with_reducible rfl); done))); simp only [Act.put, List.setIfInBounds_toArray, List.set_cons_zero, List.set_cons_succ])
  refine pl_e0 hO rfl rfl rfl (fun K hK => ?_)
  go_simp
  refine (bootLookN L s _ hR1.2.1).mono ?_
  rintro e w4 ⟨rfl, f4⟩
  refine hK _ _ (⟨⟨(f4.cell (a := ⟨b, 0, none⟩) (cell_ltU hR1.1.1) (fun x => x)).trans hR1.1.1, (f4.cell (a := ⟨b, 1, none⟩) (cell_ltU hR1.1.2) (fun x => x)).trans hR1.1.2⟩, hR1.2.1.none f4, hR1.2.2.1.none f4, hR1.2.2.2.none f4⟩) (fun hR_2 => ?_)
  clear hK K
  refine pl_b0 hO rfl rfl rfl (fun K hK => ?_)
  go_simp
  refine (modLook p T M s _ hR_2.2.2.1).mono ?_
  rintro e w6 ⟨rfl, hN⟩
  refine hK _ _ ?_
  clear hK K
  iterate 2 (refine pl_p0 hO rfl rfl ?_ (fun w' => ?_) ?_; rotate_left 1; (focus (go_simp; ((try with_reducible rfl); done))); simp only [Act.put, List.setIfInBounds_toArray, List.set_cons_zero, List.set_cons_succ])
  refine pl_nil (hQ' _ _ ?_)
  exact HK.out _ _  ⟨rfl, rfl⟩ (Kc rfl (Kc rfl (Kc rfl (Kc rfl (Kc rfl (Kc rfl (Kc h9.symm (Kc rfl (Kc rfl (Kc rfl (Kc rfl (Kc rfl (Kn _ _))))))))))))) (rfl) (MNow.pre hR_2.2.2.2 hN)
end Go.Proofs.YtcbkaiakdhiloabGreatDoor
set_option maxRecDepth 20000
namespace Go.Proofs.YtcbkaiakdhiloabGreatDoor
open Go.RowKit Go.Proofs
attribute [local go_sem] bs_size bs_append bs_extract bs_toList
theorem pairInf3 : (Tryz.prog.info? 171).map (fun i => (i.zero, i.size, i.bytes)) = some (some (.agg #[.pointer none, .pointer none]), 2, 16) := by kernel_rfl
theorem own_keepG2 {w w' : World} {base size : Nat} {v : Value} {k : Nat} {xs : List Value} {S : Nat → Prop} {t : TypeId} (h : w.ownsRow base t size v k xs) (hf : Fr S w w') (hb : ∀ b, v.ownBlock = some b → ¬ S b) : w'.ownsRow base t size v k xs := by
  refine ⟨h.1, ?_⟩
  rcases h.2 with h1 | ⟨g, cap, cur, h1, h2, h3, h4⟩
  · exact .inl h1
  · have hl : g < w.heap.size := (Array.getElem?_eq_some_iff.1 h3).1
    exact .inr ⟨g, cap, cur, h1, h2, (hf.block g hl (hb g (by rw [h1]; rfl))).trans h3, h4⟩
theorem cells_new2 (w : World) (cs : Array Value) (t : TypeId) : ∀ j u, cs.toList[j]? = some u → (w.alloc (.cells cs t)).cell? ((⟨w.heap.size, 0, none⟩ : Addr).add j) = some u := by
  intro j u hj
  rw [addr_addN, Nat.zero_add]
  exact bk_at (Bk.new w t cs) (by simpa using hj)
theorem utR9 (base g T lp mp cap : Nat) (l : List Pr) (A : Option Addr) (a : Act) (w : World) (K : Exit → Act → World → Prop) (hs : Sz 188 a)
    (h0 : sl a 0 = .pointer (some ⟨g, 0, none⟩)) (h5 : sl a 5 = .pointer (some ⟨lp, 0, none⟩)) (h7 : sl a 7 = .pointer (some ⟨mp, 0, none⟩)) (h : WldAt base w g T l A cap) (hll : l.length ≤ 65536) (hbs : base ≤ w.heap.size)
    (hK : ∀ a' w' A' c', Sz 188 a' → Kp [0, 3, 4, 5, 6, 7, 8, 9, 10, 11, 12, 13, 85] a a' → Bk w' g 120 #[.pointer (some ⟨T, 0, none⟩), .slice A' (l.length + 1) c', .bool false] → w'.ownsRow base 171 2 (.slice A' (l.length + 1) c') (l.length + 1) (pairC l ++ [.pointer (some ⟨lp, 0, none⟩), .pointer (some ⟨mp, 0, none⟩)]) → (∀ b, (Value.slice A' (l.length + 1) c').ownBlock = some b → b ≠ g ∧ ((Value.slice A l.length cap).ownBlock = some b ∨ w.heap.size ≤ b)) → Fr (fun b => b = g ∨ (Value.slice A l.length cap).ownBlock = some b) w w' → K .normal a' w') :
    (regionOf Tryz.f54 9).wp Tryz.prog K a w := by
  unfold Kp at hK; rw [utF_of hs]; clear hs; generalize sl a = u at *; clear a; have HK := Lib.hid hK; clear hK; conv => arg 2; whnf
  simp only [utF, h0, h5, h7]
  obtain ⟨i0, hi, hz0, hz1, hz2⟩ := info_parts pairInf3
  have cg := h.bk.cell 1
  have ow := h.row.alloc (.cells #[.pointer (some ⟨lp, 0, none⟩), .pointer (some ⟨mp, 0, none⟩)] 171)
  have hglt := h.bk.lt
  go_wp2_with (at_builtin; refine wpList_append_own_at _ rfl _ _ 118 rfl base 171 i0 (.agg #[.pointer none, .pointer none]) 2 16 Tryz.underlying118 hi hz0 hz1 hz2 rfl (by decide) _ _ _ rfl ow ⟨w.heap.size, 0, none⟩ 1 1 [.pointer (some ⟨lp, 0, none⟩), .pointer (some ⟨mp, 0, none⟩)] rfl rfl (cells_new2 w #[.pointer (some ⟨lp, 0, none⟩), .pointer (some ⟨mp, 0, none⟩)] 171) (by simp [Value.oneCell']) (by unfold maxLen; omega) (by omega) (by simp; omega) ?_; intro v' w3 hown' hg3 hnil3 hbk3; obtain ⟨A', c', hv', hvn⟩ : ∃ A' c', v' = .slice A' (l.length + 1) c' ∧ True := ((by rcases hown'.2 with ⟨hv, h0⟩ | ⟨gr, cp, cur, hv, _⟩; exact absurd h0 (by omega); exact ⟨_, _, hv, trivial⟩)); subst hv'; have hf3 : Fr (fun k => (Value.slice A l.length cap).ownBlock = some k) (w.alloc (.cells #[.pointer (some ⟨lp, 0, none⟩), .pointer (some ⟨mp, 0, none⟩)] 171)) w3 := (Fr.refl _ _).grown hg3 (fun g h _ => h); have hB3 := (h.bk.alloc (.cells #[.pointer (some ⟨lp, 0, none⟩), .pointer (some ⟨mp, 0, none⟩)] 171)).keep hf3 (fun hx => h.rg g hx rfl); have cc := hB3.cell 1; have hfz := hB3.frees)
  have hB4 := hB3.set 1 (.slice A' (l.length + 1) c')
  have hap : ∀ b, (Value.slice A' (l.length + 1) c').ownBlock = some b → b ≠ g ∧ ((Value.slice A l.length cap).ownBlock = some b ∨ w.heap.size ≤ b) := fun b hb => by
    rcases hbk3 with e | e
    · exact ⟨h.rg b (e.symm.trans hb), .inl (e.symm.trans hb)⟩
    · rw [e] at hb; injection hb with hb
      have hsz : w.heap.size ≤ b := by rw [← hb]; simp
      exact ⟨by omega, .inr hsz⟩
  have hrow4 := own_keepG2 hown' ((Fr.refl (oneB g) w3).setCell (p := ⟨g, 1, none⟩) (fun _ => rfl) (.slice A' (l.length + 1) c')) (fun b hb e => (hap b hb).1 e)
  have hfr4 : Fr (fun b => b = g ∨ (Value.slice A l.length cap).ownBlock = some b) w (w3.setCell ⟨g, 1, none⟩ (.slice A' (l.length + 1) c')) := ((((Fr.refl noB w).alloc (.cells #[.pointer (some ⟨lp, 0, none⟩), .pointer (some ⟨mp, 0, none⟩)] 171)).of_no _).trans (hf3.mono fun b _ hb => .inr hb)).trans ((Fr.refl _ w3).setCell (p := ⟨g, 1, none⟩) (fun _ => .inl rfl) _)
  exact HK.out _ _ A' c' ⟨rfl, rfl⟩ (Kc h0.symm (Kc rfl (Kc rfl (Kc h5.symm (Kc rfl (Kc h7.symm (Kc rfl (Kc rfl (Kc rfl (Kc rfl (Kc rfl (Kc rfl (Kc rfl (Kn _ _))))))))))))))  hB4 hrow4 hap hfr4
end Go.Proofs.YtcbkaiakdhiloabGreatDoor
set_option maxRecDepth 20000
namespace Go.Proofs.YtcbkaiakdhiloabGreatDoor
open Go.RowKit Go.Proofs
attribute [local go_sem] bs_size bs_append bs_extract bs_toList
theorem PairAt.both {base : Nat} {w w1 w2 : World} {T : Nat} {x : Pr} {s' : St} (h : PairAt base w T x) (hl : Low base) (hw1 : Now x.L w s' w1) (hw2 : MNow x.p T x.M w1 s' w2) :
    ∃ x' : Pr, x'.s = s' ∧ x'.L.p = x.L.p ∧ x'.p = x.p ∧ PairAt base w2 T x' ∧ Fr (pown x) w w2 ∧ ∀ k, pown x' k → pown x k ∨ w.heap.size ≤ k := by
  obtain ⟨L', p1, o1, B1, F1⟩ := hw1
  obtain ⟨M', o2, m2, F2⟩ := hw2
  have hs1 := F1.size
  have hmlt : ∀ k, mown x.p x.M k → k < w.heap.size := fun k hk => h.lt k (.inr hk)
  have hd : ∀ k, own' L' k → ¬ mown x.p x.M k := fun k hk hm => by
    rcases o1 k hk with h1 | h1
    · exact h.d k h1 hm
    · have := hmlt k hm; omega
  have hlo : ∀ k, own' L' k → base ≤ k := fun k hk => by
    rcases o1 k hk with h1 | h1
    · exact h.lo k (.inl h1)
    · have := h.lo x.L.p (.inl (own_p _)); have := h.lt x.L.p (.inl (own_p _)); omega
  have hpl := h.lt x.L.p (.inl (own_p _))
  have hpb := h.lo x.L.p (.inl (own_p _))
  refine ⟨⟨L', x.p, M', s'⟩, rfl, p1, rfl, ⟨B1.keep F2 hd (fun b hb hm => ?_), m2, fun k hk hm => ?_, fun k hk => ?_⟩, ?_, fun k hk => ?_⟩
  · have := h.lo b (.inr hm); have := hl.g b hb; omega
  · rcases o2 k hm with h1 | h1
    · exact hd k hk h1
    · have := B1.lt k hk; omega
  · rcases hk with hk | hk
    · exact hlo k hk
    · rcases o2 k hk with h1 | h1
      · exact h.lo k (.inr h1)
      · omega
  · exact (F1.mono fun b _ hb => .inl hb).trans (F2.mono fun b _ hb => .inr hb)
  · rcases hk with hk | hk
    · rcases o1 k hk with h1 | h1
      · exact .inl (.inl h1)
      · exact .inr h1
    · rcases o2 k hk with h1 | h1
      · exact .inl (.inr h1)
      · exact .inr (by omega)
theorem PairAt.model {base : Nat} {w w1 : World} {T : Nat} {x : Pr} (h : PairAt base w T x) (hl : Low base) (hf : Fr (own' x.L) w w1) : ModelAt w1 x.p T x.M x.s :=
  h.m.keep hf (fun b hb hx => h.d b hx hb) (fun hx => by have := h.lo _ (.inl hx); have := hl.a; omega)
def StepTo (base g T : Nat) (ss : List St) (w : World) (e : Ending) (w' : World) : Prop :=
  e = .returned (.bool true) ∧ ∃ l' A' cap', WldAt base w' g T l' A' cap' ∧ l'.map (·.s) = ss ∧ Fr (fromB base) w w'
theorem WldAt.nop {base : Nat} {w w' : World} {g T : Nat} {l : List Pr} {A : Option Addr} {cap : Nat} (h : WldAt base w g T l A cap) (hl : Low base) (hf : Fr noB w w') : WldAt base w' g T l A cap :=
  ⟨h.bk.keep hf (fun x => x), own_keepG2 h.row hf (fun _ _ x => x), h.ps.keep hl hf (fun _ _ _ _ _ y => y) (fun _ y => y.elim), h.go, h.gn, h.rg, h.rn⟩
theorem WldAt.more {base : Nat} {w w1 w2 : World} {g T : Nat} {l : List Pr} {A A' : Option Addr} {cap c' : Nat} {x : Pr} (h : WldAt base w g T l A cap) (hl : Low base) (hf1 : Fr noB w w1) (hx : PairAt base w1 T x) (ho : ∀ k, pown x k → w.heap.size ≤ k)
    (hB : Bk w2 g 120 #[.pointer (some ⟨T, 0, none⟩), .slice A' (l.length + 1) c', .bool false]) (hrow : w2.ownsRow base 171 2 (.slice A' (l.length + 1) c') (l.length + 1) (pairC l ++ pairF x))
    (hap : ∀ b, (Value.slice A' (l.length + 1) c').ownBlock = some b → b ≠ g ∧ ((Value.slice A l.length cap).ownBlock = some b ∨ w1.heap.size ≤ b)) (hf2 : Fr (fun b => b = g ∨ (Value.slice A l.length cap).ownBlock = some b) w1 w2) : WldAt base w2 g T (l ++ [x]) A' c' := by
  have hlen : (l ++ [x]).length = l.length + 1 := by simp
  have hgl := h.bk.lt
  have hs1 := hf1.size
  have hbs : ∀ b, (Value.slice A l.length cap).ownBlock = some b → base ≤ b ∧ b < w.heap.size := fun b hb => h.row.lt b hb
  have hmem : ∀ (j : Nat) (y : Pr), (l ++ [x])[j]? = some y → y = x ∨ ∃ j2 : Nat, l[j2]? = some y := by
    intro j y hy
    rcases Nat.lt_or_ge j l.length with h1 | h1
    · rw [List.getElem?_append_left h1] at hy; exact .inr ⟨j, hy⟩
    · rw [List.getElem?_append_right h1] at hy
      rcases Nat.eq_zero_or_pos (j - l.length) with h2 | h2
      · rw [h2] at hy; injection hy with hy; exact .inl hy.symm
      · rw [List.getElem?_eq_none (by simp; omega)] at hy; cases hy
  have hps := h.ps.more hl hf1 hx ho
  refine ⟨by rw [hlen]; exact hB, by rw [hlen, pairC_app]; exact hrow, hps.keep hl hf2 (fun i y hy k hk hS => ?_) (fun k hk => .inl ?_), h.go, fun j y hy hk => ?_, by rw [hlen]; exact fun b hb => (hap b hb).1, fun b hb j y hy hk => ?_⟩
  · rcases hmem i y hy with rfl | ⟨j, hy2⟩
    · have := ho k hk
      rcases hS with rfl | hS
      · omega
      · have := (hbs k hS).2; omega
    · rcases hS with rfl | hS
      · exact h.gn j y hy2 hk
      · exact h.rn k hS j y hy2 hk
  · rcases hk with rfl | hk
    · exact h.go
    · exact (hbs k hk).1
  · rcases hmem j y hy with rfl | ⟨j, hy2⟩
    · have := ho g hk; omega
    · exact h.gn j y hy2 hk
  · rw [hlen] at hb
    rcases (hap b hb).2 with h3 | h3
    · rcases hmem j y hy with rfl | ⟨j, hy2⟩
      · have := ho b hk; have := (hbs b h3).2; omega
      · exact h.rn b h3 j y hy2 hk
    · rcases hmem j y hy with rfl | ⟨j, hy2⟩
      · have := hx.lt b hk; omega
      · have := (h.ps.at_ j y hy2).lt b hk; omega
structure Glb2 (base : Nat) (w : World) : Prop where
  g : Glb w
  a : RowG w 4 #[.int .u8 255, .int .u8 255, .int .u8 255, .int .u8 255, .int .u8 255, .int .u8 255]
  low : Low base
  le : base ≤ w.heap.size
theorem Glb2.keep {base : Nat} {w w' : World} (h : Glb2 base w) (hf : Fr (fromB base) w w') : Glb2 base w' :=
  ⟨h.g.keep hf (fun b hb hx => by have h1 : base ≤ b := hx; have := h.low.g b hb; omega), h.a.keep hf (fun hx => by have h1 : base ≤ _ := hx; have := h.low.a; omega), h.low, Nat.le_trans h.le hf.size⟩
theorem stepNew (base g T : Nat) (l : List Pr) (A : Option Addr) (cap : Nat) (o : OpD) (w : World) (h : WldAt base w g T l A cap) (hG : Glb2 base w) (hk : o.kind = 1) (hll : l.length ≤ 65535) :
    Calls Tryz.prog 54 #[.pointer (some ⟨g, 0, none⟩), .agg (opC o)] w (StepTo base g T (if o.c.Ok then l.map (·.s) ++ [stNew o.c] else l.map (·.s)) w) := by
  have hlow := hG.low
  have hble := hG.le
  go_enter Tryz.func54, Tryz.ntmps54
  refine wp_seq ?_
  refine utR0 _ _ w _ ⟨rfl, rfl⟩ rfl ?_
  intro a0 w0 hs0 k0 o3 f0 hB0
  have e0 : sl a0 0 = .pointer (some ⟨g, 0, none⟩) := (k0 0 (by decide)).trans rfl
  clear k0
  have hO0 : OpAt w0 w.heap.size o := ⟨hB0⟩
  have hql : w.heap.size < w0.heap.size := hB0.lt
  obtain ⟨q, hq⟩ : ∃ q, w.heap.size = q := ⟨_, rfl⟩
  rw [hq] at o3 hO0
  refine wp_seq (wp_seq ?_)
  refine utR1 q o a0 w0 _ hs0 o3 hO0 ?_
  intro a1 w1 hs1 k1 o18 hw; subst w1
  rw [hk] at o18
  refine wp_if o18 (fun _ => ?_) (fun hb => by cases hb)
  have e0 := (k1 0 (by decide)).trans e0
  have o3 := (k1 3 (by decide)).trans o3
  have hG0 := hG.keep (f0.of_no _)
  have fin : ∀ (a' : Act) (w' : World), Sz 188 a' → sl a' 4 = .bool true → StepTo base g T (if o.c.Ok then l.map (·.s) ++ [stNew o.c] else l.map (·.s)) w (.returned (.bool true)) w' → bodyPost Tryz.prog Tryz.f54 (StepTo base g T (if o.c.Ok then l.map (·.s) ++ [stNew o.c] else l.map (·.s)) w) .ret a' w' := fun a' w' hs h4 hp => by
    refine bodyPost_ret (results_tmp rfl _ _ _) hs.defers ?_
    rw [show a'.tmps.getD 4 undef = .bool true from h4]; exact hp
  refine wp_seq ?_
  by_cases hok : o.c.Ok
  rotate_left
  · rw [if_neg hok] at fin ⊢
    refine utR2b q o a1 w0 _ hs1 o3 hO0 hG0.g hok ?_
    intro a2 w2 hs2 k2 o5 o6 f2
    refine wp_seq ?_
    refine utR3b g q T o a2 w2 _ hs2 ((k2 0 (by decide)).trans e0) ((k2 3 (by decide)).trans o3) (hO0.keep f2 (fun x => x)) (((h.nop hlow f0).nop hlow f2).bk.cell 0) (hG0.keep (f2.of_no _)).a hok ?_
    intro a3 w3 hs3 k3 o7 o8 f3
    refine wp_seq (wp_seq ?_)
    refine utR4 _ a3 w3 _ hs3 o8 ?_
    intro a4 w4 hs4 k4 o36 hw; subst w4
    refine wp_if o36 (fun _ => ?_) (fun hb => by cases hb)
    refine wp_seq ?_
    refine utR5 a4 w3 _ hs4 ((k4 5 (by decide)).trans ((k3 5 (by decide)).trans o5)) ((k4 6 (by decide)).trans ((k3 6 (by decide)).trans o6)) ?_
    intro a5 w5 hs5 k5 o4 hw; subst w5
    refine wp_ret ?_
    exact fin a5 w3 hs5 o4 ⟨rfl, l, A, cap, ((h.nop hlow f0).nop hlow f2).nop hlow f3, rfl, ((f0.none f2).none f3).of_no _⟩
  rw [if_pos hok] at fin ⊢
  refine utR2a q o a1 w0 _ hs1 o3 hO0 hG0.g hok ?_
  intro a2 w2 L hs2 k2 o5 o6 hB2 ho2 f2
  refine wp_seq ?_
  refine utR3a g q T o a2 w2 _ hs2 ((k2 0 (by decide)).trans e0) ((k2 3 (by decide)).trans o3) (hO0.keep f2 (fun x => x)) (((h.nop hlow f0).nop hlow f2).bk.cell 0) (hG0.keep (f2.of_no _)).a hok ?_
  intro a3 w3 p hs3 k3 o7 o8 hM3 hle3 f3
  have e0 := (k3 0 (by decide)).trans ((k2 0 (by decide)).trans e0)
  refine wp_seq (wp_seq ?_)
  refine utR4 _ a3 w3 _ hs3 o8 ?_
  intro a4 w4 hs4 k4 o36 hw; subst w4
  refine wp_if o36 (fun hb => by cases hb) (fun _ => ?_)
  refine wp_skip ?_
  have o5 := (k4 5 (by decide)).trans ((k3 5 (by decide)).trans o5)
  refine wp_seq (wp_seq ?_)
  refine utR6 L.p a4 w3 _ hs4 o5 ((k4 6 (by decide)).trans ((k3 6 (by decide)).trans o6)) ?_
  intro a5 w5 hs5 k5 o48 hw; subst w5
  refine wp_if o48 (fun hb => by cases hb) (fun _ => ?_)
  refine wp_skip ?_
  refine wp_seq ?_
  have hs02 := f0.size
  have hs23 := f2.size
  have hW3 := ((h.nop hlow f0).nop hlow f2).nop hlow f3
  refine utR9 base g T L.p p cap l A a5 w3 _ hs5 ((k5 0 (by decide)).trans ((k4 0 (by decide)).trans e0)) ((k5 5 (by decide)).trans o5) ((k5 7 (by decide)).trans ((k4 7 (by decide)).trans o7)) hW3 (by omega) (by have := f3.size; omega) ?_
  intro a6 w6 A' c' hs6 k6 hB6 hrow6 hap6 f6
  refine wp_seq ?_
  refine utR10 a6 w6 _ hs6 ?_
  intro a7 w7 hs7 k7 o4 hw; subst w7
  refine wp_ret ?_
  have hmb : mblocks p ⟨none, 0, none, 0, none, 0, none, 0⟩ = [p] := by simp [mblocks, blkA]
  have hmo : ∀ k, mown p ⟨none, 0, none, 0, none, 0, none, 0⟩ k → k = p := fun k hk => by unfold mown at hk; rw [hmb] at hk; simpa using hk
  have hx : PairAt base w3 T ⟨L, p, ⟨none, 0, none, 0, none, 0, none, 0⟩, stNew o.c⟩ := by
    refine ⟨hB2.none f3, hM3, fun k hk hm => ?_, fun k hk => ?_⟩
    · have := hmo k hm; have := hB2.lt k hk; omega
    · rcases hk with hk | hk
      · have := ho2 k hk; omega
      · have := hmo k hk; omega
  have hto : Fr (fromB base) w w6 := (((f0.none f2).none f3).of_no _).trans (f6.mono fun b _ hb => by
    rcases hb with rfl | hb
    · exact h.go
    · exact (h.row.lt b hb).1)
  refine fin a7 w6 hs7 o4 ⟨rfl, _, A', c', WldAt.more (w := w) h hlow ((f0.none f2).none f3) hx (fun k hk => ?_) hB6 hrow6 hap6 f6, by rw [List.map_append]; rfl, hto⟩
  rcases hk with hk | hk
  · have := ho2 k hk; omega
  · have := hmo k hk; omega
end Go.Proofs.YtcbkaiakdhiloabGreatDoor
set_option maxRecDepth 20000
namespace Go.Proofs.YtcbkaiakdhiloabGreatDoor
open Go.RowKit Go.Proofs
attribute [local go_sem] bs_size bs_append bs_extract bs_toList
theorem stepEmpty (base g T : Nat) (l : List Pr) (A : Option Addr) (cap : Nat) (o : OpD) (w : World) (h : WldAt base w g T l A cap) (hG : Glb2 base w) (hk1 : o.kind ≠ 1) (hl0 : l = []) :
    Calls Tryz.prog 54 #[.pointer (some ⟨g, 0, none⟩), .agg (opC o)] w (StepTo base g T (l.map (·.s)) w) := by
  have hlow := hG.low
  have hble := hG.le
  go_enter Tryz.func54, Tryz.ntmps54
  have fin : ∀ (a' : Act) (w' : World), Sz 188 a' → sl a' 4 = .bool true → StepTo base g T (l.map (·.s)) w (.returned (.bool true)) w' → bodyPost Tryz.prog Tryz.f54 (StepTo base g T (l.map (·.s)) w) .ret a' w' := fun a' w' hs h4 hp => by
    refine bodyPost_ret (results_tmp rfl _ _ _) hs.defers ?_
    rw [show a'.tmps.getD 4 undef = .bool true from h4]; exact hp
  refine wp_seq ?_
  refine utR0 _ _ w _ ⟨rfl, rfl⟩ rfl ?_
  intro a0 w0 hs0 k0 o3 f0 hB0
  have e0 : sl a0 0 = .pointer (some ⟨g, 0, none⟩) := (k0 0 (by decide)).trans rfl
  clear k0
  have hO0 : OpAt w0 w.heap.size o := ⟨hB0⟩
  have hql : w.heap.size < w0.heap.size := hB0.lt
  have hW0 := h.nop hlow f0
  obtain ⟨q, hq⟩ : ∃ q, w.heap.size = q := ⟨_, rfl⟩
  rw [hq] at o3 hO0
  refine wp_seq (wp_seq ?_)
  refine utR1 q o a0 w0 _ hs0 o3 hO0 ?_
  intro a1 w1 hs1 k1 o18 hw; subst w1
  rw [show (o.kind == 1) = false from beq_eq_false_iff_ne.2 hk1] at o18
  refine wp_if o18 (fun hb => by cases hb) (fun _ => ?_)
  refine wp_skip ?_
  have e0 := (k1 0 (by decide)).trans e0
  have o3 := (k1 3 (by decide)).trans o3
  refine wp_seq (wp_seq ?_)
  refine utR11 g l.length cap A a1 w0 _ hs1 e0 (hW0.bk.cell 1) ?_
  intro a2 w2 hs2 k2 o69 hw; subst w2
  have e0 := (k2 0 (by decide)).trans e0
  have o3 := (k2 3 (by decide)).trans o3
  refine wp_if o69 (fun _ => ?_) (fun hb => absurd (show l.length = 0 by rw [hl0]; rfl) (of_decide_eq_false hb))
  refine wp_seq ?_
  refine utR12 a2 w0 _ hs2 ?_
  intro a3 w3 hs3 k3 o4 hw; subst w3
  refine wp_ret ?_
  exact fin a3 w0 hs3 o4 ⟨rfl, l, A, cap, hW0, rfl, f0.of_no _⟩
theorem stepPair (base g T : Nat) (l : List Pr) (A : Option Addr) (cap : Nat) (o : OpD) (w : World) (h : WldAt base w g T l A cap) (hG : Glb2 base w) (hk1 : o.kind ≠ 1) (i d : Nat) (x : Pr) (hi : i = pickI o.a l.length) (hx : l[i]? = some x) (hll : l.length ≤ 65536) (hA0 : -9223372036854775808 ≤ o.a) (hA1 : o.a ≤ 9223372036854775807)
    (s' : St) (hd : o.n % 4294967296 = (d : Int)) (hK : (o.kind = 3 ∧ s' = x.s.take.1) ∨ o.kind = 4 ∨ (o.kind = 6 ∧ s' = x.s))
    (hbt : o.kind = 4 → ∀ w, BootAt w x.L x.s → Calls Tryz.prog 19 #[.pointer (some ⟨x.L.p, 0, none⟩), .int .u32 (d : Int)] w (LPost2 x.L s' (.tuple #[]) w))
    (hmt : o.kind = 4 → ∀ w, ModelAt w x.p T x.M x.s → Calls Tryz.prog 103 #[.pointer (some ⟨x.p, 0, none⟩), .int .u32 (d : Int)] w fun e w' => e = .returned (.tuple #[]) ∧ MNow x.p T x.M w s' w') :
    Calls Tryz.prog 54 #[.pointer (some ⟨g, 0, none⟩), .agg (opC o)] w (StepTo base g T ((l.map (·.s)).set i s') w) := by
  have hil : i < l.length := by
    rcases Nat.lt_or_ge i l.length with h1 | h1
    · exact h1
    · rw [List.getElem?_eq_none h1] at hx; cases hx
  have hlow := hG.low
  have hble := hG.le
  go_enter Tryz.func54, Tryz.ntmps54
  have fin : ∀ (a' : Act) (w' : World), Sz 188 a' → sl a' 4 = .bool true → StepTo base g T ((l.map (·.s)).set i s') w (.returned (.bool true)) w' → bodyPost Tryz.prog Tryz.f54 (StepTo base g T ((l.map (·.s)).set i s') w) .ret a' w' := fun a' w' hs h4 hp => by
    refine bodyPost_ret (results_tmp rfl _ _ _) hs.defers ?_
    rw [show a'.tmps.getD 4 undef = .bool true from h4]; exact hp
  refine wp_seq ?_
  refine utR0 _ _ w _ ⟨rfl, rfl⟩ rfl ?_
  intro a0 w0 hs0 k0 o3 f0 hB0
  have e0 : sl a0 0 = .pointer (some ⟨g, 0, none⟩) := (k0 0 (by decide)).trans rfl
  clear k0
  have hO0 : OpAt w0 w.heap.size o := ⟨hB0⟩
  have hql : w.heap.size < w0.heap.size := hB0.lt
  have hW0 := h.nop hlow f0
  obtain ⟨q, hq⟩ : ∃ q, w.heap.size = q := ⟨_, rfl⟩
  rw [hq] at o3 hO0
  refine wp_seq (wp_seq ?_)
  refine utR1 q o a0 w0 _ hs0 o3 hO0 ?_
  intro a1 w1 hs1 k1 o18 hw; subst w1
  rw [show (o.kind == 1) = false from beq_eq_false_iff_ne.2 hk1] at o18
  refine wp_if o18 (fun hb => by cases hb) (fun _ => ?_)
  refine wp_skip ?_
  have e0 := (k1 0 (by decide)).trans e0
  have o3 := (k1 3 (by decide)).trans o3
  refine wp_seq (wp_seq ?_)
  refine utR11 g l.length cap A a1 w0 _ hs1 e0 (hW0.bk.cell 1) ?_
  intro a2 w2 hs2 k2 o69 hw; subst w2
  have e0 := (k2 0 (by decide)).trans e0
  have o3 := (k2 3 (by decide)).trans o3
  refine wp_if o69 (fun hb => absurd (of_decide_eq_true hb) (by omega)) (fun _ => ?_)
  refine wp_skip ?_
  refine wp_seq ?_
  obtain ⟨ga, cp, hAe⟩ : ∃ ga, A = some ⟨ga, 0, none⟩ ∧ ∀ (j : Nat) (u : Value), (pairF x)[j]? = some u → w0.cell? ⟨ga, i * 2 + j, none⟩ = some u := by
    rcases hW0.row.2 with ⟨hv, h0⟩ | ⟨ga, cp, cur, hv, _⟩
    · omega
    · cases hv
      exact ⟨ga, rfl, fun j u hu => own_at hW0.row (pairC_at l i x j u hx hu)⟩
  refine utR13 g q ga l.length cap i x.L.p x.p o a2 w0 _ hs2 e0 o3 hO0 (by rw [← cp]; exact hW0.bk.cell 1) (fun j u hu => by rw [addr_addN]; exact hAe j u (by simpa [pairF] using hu)) hi (by omega) hil (by omega) hA0 hA1 ?_
  intro a3 w3 b hs3 k3 o9 hB3 hb3 f3
  have hO3 := hO0.keep f3 (fun x => x)
  have hW3 := hW0.nop hlow f3
  have hP3 := hW3.ps.at_ i x hx
  have o3 := (k3 3 (by decide)).trans o3
  have hs0w := f0.size
  have f03 := f0.none f3
  have hPlt : ∀ k, pown x k → k < w.heap.size := (h.ps.at_ i x hx).lt
  have hxb : ∀ k, pown x k → k ≠ b := fun k hk e => by have := hPlt k hk; omega
  have hxq : ∀ k, pown x k → k ≠ q := fun k hk e => by have := hPlt k hk; omega
  -- what is left behind a machine's turn
  have done : ∀ (w' : World), Now x.L w3 s' w' ∨ True → ∀ (w'' : World), (∃ x' : Pr, x'.s = s' ∧ x'.L.p = x.L.p ∧ x'.p = x.p ∧ PairAt base w'' T x' ∧ Fr (pown x) w3 w'' ∧ ∀ k, pown x' k → pown x k ∨ w3.heap.size ≤ k) → StepTo base g T ((l.map (·.s)).set i s') w (.returned (.bool true)) w'' := fun _ _ w'' hx' => by
    obtain ⟨x', rfl, p1, p2, hP, hF, ho⟩ := hx'
    refine ⟨rfl, l.set i x', A, cap, hW3.one hlow hx hF hP ho p1 p2, by rw [List.map_set], (f03.of_no _).trans (hF.mono fun k _ hk => (h.ps.at_ i x hx).lo k hk)⟩
  refine wp_seq (wp_seq ?_)
  refine utR14 q o a3 w3 _ hs3 o3 hO3 ?_
  intro a4 w4 hs4 k4 o85 hw; subst w4
  have o3 := (k4 3 (by decide)).trans o3
  have o9 := (k4 9 (by decide)).trans o9
  refine wp_block (wp_seq ?_)
  refine utR15 o.kind a4 w3 _ hs4 o85 ?_
  intro a5 w5 hs5 k5 o86 hw; subst w5
  have o3 := (k5 3 (by decide)).trans o3
  have o9 := (k5 9 (by decide)).trans o9
  have o85 := (k5 85 (by decide)).trans o85
  rw [show (o.kind == 2) = false by rw [beq_eq_false_iff_ne]; omega] at o86
  refine wp_if o86 (fun hb => by cases hb) (fun _ => ?_)
  refine wp_seq ?_
  refine utR17 o.kind a5 w3 _ hs5 o85 ?_
  intro a6 w6 hs6 k6 o99 hw; subst w6
  have o3 := (k6 3 (by decide)).trans o3
  have o9 := (k6 9 (by decide)).trans o9
  have o85 := (k6 85 (by decide)).trans o85
  have hx0 : w3.cell? ⟨b, 0, none⟩ = some (.pointer (some ⟨x.L.p, 0, none⟩)) := hB3.cell 0
  have hx1 : w3.cell? ⟨b, 1, none⟩ = some (.pointer (some ⟨x.p, 0, none⟩)) := hB3.cell 1
  have hblt := hB3.lt
  by_cases q3 : o.kind = 3
  · have hs' : s' = x.s.take.1 := by rcases hK with ⟨_, e⟩ | e | ⟨e, _⟩; exact e; omega; omega
    rw [show (o.kind == 3) = true by rw [beq_iff_eq]; exact q3] at o99
    refine wp_if o99 (fun _ => ?_) (fun hb => by cases hb)
    refine wp_seq ?_
    refine utR18 b x.L x.s a6 w3 _ hs6 o9 hx0 hP3.b ?_
    intro a7 w7 hs7 k7 o10 o11 hB7 f7
    refine wp_seq ?_
    refine utR19 b x.p T x.M x.s a7 w7 _ hs7 ((k7 9 (by decide)).trans o9) ((f7.cell (a := ⟨b, 1, none⟩) hblt (fun hx => hxb b (.inl hx) rfl)).trans hx1) (hP3.model hlow f7) ?_
    intro a8 w8 hs8 k8 o12 o13 hN8
    refine wp_seq ?_
    refine utR20 _ _ a8 w8 _ hs8 ((k8 10 (by decide)).trans o10) ((k8 11 (by decide)).trans o11) o12 o13 ?_
    intro a9 w9 hs9 k9 o4 hw; subst w9
    refine wp_ret ?_
    exact fin a9 w8 hs9 o4 (done w7 (.inr trivial) w8 (hP3.both hlow ⟨x.L, rfl, fun _ hb => .inl hb, by rw [hs']; exact hB7, f7⟩ (by rw [hs']; exact hN8)))
  rw [show (o.kind == 3) = false by rw [beq_eq_false_iff_ne]; exact q3] at o99
  refine wp_if o99 (fun hb => by cases hb) (fun _ => ?_)
  refine wp_seq ?_
  refine utR21 o.kind a6 w3 _ hs6 o85 ?_
  intro a7 w7 hs7 k7 o121 hw; subst w7
  have o3 := (k7 3 (by decide)).trans o3
  have o9 := (k7 9 (by decide)).trans o9
  have o85 := (k7 85 (by decide)).trans o85
  by_cases q4 : o.kind = 4
  · rw [show (o.kind == 4) = true by rw [beq_iff_eq]; exact q4] at o121
    refine wp_if o121 (fun _ => ?_) (fun hb => by cases hb)
    refine wp_seq ?_
    refine utR22 b q d o x.L s' a7 w3 _ hs7 o3 o9 hx0 hO3 hd (hbt q4 w3 hP3.b) ?_
    intro a8 w8 hs8 k8 hN8
    obtain ⟨L', p1, ho1, hB8, f8⟩ := id hN8
    refine utR23 b q d x.p T o x.M s' a8 w8 _ hs8 ((k8 3 (by decide)).trans o3) ((k8 9 (by decide)).trans o9) ((f8.cell (a := ⟨b, 1, none⟩) hblt (fun hx => hxb b (.inl hx) rfl)).trans hx1) (hO3.keep f8 (fun hx => hxq q (.inl hx) rfl)) hd (hmt q4 w8 (hP3.model hlow f8)) ?_
    intro a9 w9 hs9 k9 hN9
    refine wp_seq ?_
    refine utR33 a9 w9 _ hs9 ?_
    intro b1 v1 hs10 k10 o4 hw; subst v1
    refine wp_ret ?_
    exact fin b1 w9 hs10 o4 (done w8 (.inr trivial) w9 (hP3.both hlow hN8 hN9))
  have q6 : o.kind = 6 := by rcases hK with ⟨e, _⟩ | e | ⟨e, _⟩ <;> omega
  have hs' : s' = x.s := by rcases hK with ⟨e, _⟩ | e | ⟨_, e⟩; omega; omega; exact e
  rw [show (o.kind == 4) = false by rw [beq_eq_false_iff_ne]; exact q4] at o121
  refine wp_if o121 (fun hb => by cases hb) (fun _ => ?_)
  refine wp_seq ?_
  refine utR24 o.kind a7 w3 _ hs7 o85 ?_
  intro a8 w8 hs8 k8 o135 hw; subst w8
  rw [show (o.kind == 5) = false by rw [beq_eq_false_iff_ne]; omega] at o135
  refine wp_if o135 (fun hb => by cases hb) (fun _ => ?_)
  refine wp_seq ?_
  refine utR26 o.kind a8 w3 _ hs8 ((k8 85 (by decide)).trans o85) ?_
  intro a9 w9 hs9 k9 o148 hw; subst w9
  rw [show (o.kind == 6) = true by rw [beq_iff_eq]; exact q6] at o148
  refine wp_if o148 (fun _ => ?_) (fun hb => by cases hb)
  refine wp_seq ?_
  refine utR27 b x.p T x.L x.M x.s a9 w3 _ hs9 ((k9 9 (by decide)).trans ((k8 9 (by decide)).trans o9)) hx0 hx1 hP3.b hP3.m ?_
  intro b1 v1 hs10 k10 o4 hN
  refine wp_ret ?_
  exact fin b1 v1 hs10 o4 (done w3 (.inr trivial) v1 (hP3.both hlow (by rw [hs']; exact ⟨x.L, rfl, fun _ hb => .inl hb, hP3.b, Fr.refl _ _⟩) (by rw [hs']; exact hN)))
end Go.Proofs.YtcbkaiakdhiloabGreatDoor
