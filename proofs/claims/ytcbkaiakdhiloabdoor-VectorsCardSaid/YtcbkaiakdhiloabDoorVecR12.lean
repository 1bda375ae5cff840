/- The last line of netbootkeep.Vectors. -/
import Derived.Test.YtcbkaiakdhiloabDoorVecFacts
import Derived.Test.YtcbkaiakdhiloabDoorRegU
import Derived.Test.YtcbkaiakdhiloabDoorLp
import Derived.BigQuiet
set_option linter.unusedSimpArgs false
set_option linter.unusedVariables false
namespace Go.Proofs.YtcbkaiakdhiloabDoor
open Go.RowKit Go.Proofs
attribute [local go_sem] bs_size bs_append bs_extract

theorem wp_make_run {P : Program} {w : World} {o : Oper} {a : Act} {K : Act → World → Prop} {Q : Exit → Act → World → Prop} (t : TypeId) (x y : Operand)
    (ho : o.op = .makeSlice t x y) {v1 v2 v : Value} {w' : World} (hrun : (Instr.makeSlice t v1 v2).run P w = .ok v w') (hx : a.eval x = v1) (hy : a.eval y = v2) (h : K (a.put o.dst v) w') : o.wp P a w K Q := by
  unfold Oper.wp execOp
  simp only [ho, hx, hy, Sem.run_bind, Sem.run_pure, Result.andThen_ok, hrun]
  exact h

def vecFr (u : Nat → Value) : Act := ⟨#[u 0, u 1, u 2, u 3, u 4, u 5, u 6, u 7, u 8, u 9, u 10, u 11, u 12, u 13, u 14, u 15, u 16, u 17, u 18, u 19, u 20, u 21, u 22, u 23, u 24, u 25, u 26, u 27, u 28, u 29, u 30, u 31, u 32, u 33, u 34, u 35, u 36, u 37, u 38, u 39, u 40, u 41, u 42, u 43, u 44, u 45, u 46, u 47, u 48, u 49, u 50, u 51, u 52, u 53, u 54, u 55, u 56, u 57, u 58, u 59, u 60, u 61, u 62, u 63, u 64, u 65, u 66, u 67, u 68, u 69, u 70, u 71, u 72, u 73, u 74, u 75, u 76, u 77, u 78, u 79, u 80, u 81, u 82, u 83, u 84, u 85, u 86, u 87, u 88, u 89, u 90, u 91, u 92, u 93, u 94, u 95, u 96, u 97, u 98, u 99, u 100, u 101, u 102, u 103, u 104, u 105, u 106, u 107, u 108, u 109, u 110, u 111, u 112, u 113, u 114, u 115, u 116, u 117, u 118, u 119, u 120], []⟩
set_option maxRecDepth 100000 in
theorem vecFr_eq (u : Nat → Value) : vecFr u = frN 121 u := rfl
theorem vecFr_of {a : Act} (h : Sz 121 a) : a = vecFr (sl a) := h.eq.trans (vecFr_eq _).symm
set_option maxRecDepth 100000 in
theorem vecFr_sz (u : Nat → Value) : Sz 121 (vecFr u) := ⟨rfl, rfl⟩

set_option maxRecDepth 20000 in
set_option maxHeartbeats 1000000 in
theorem vecR12 (o12 : List UInt8) (a : Act) (w : World) (K : Exit → Act → World → Prop) (hs : Sz 121 a)
    (h1 : sl a 1 = .bool true) (h2 : sl a 2 = .bool true) (h3 : sl a 3 = .bool true) (h7 : sl a 7 = .bool true) (h9 : sl a 9 = .bool true) (h11 : sl a 11 = .bool true) (h6 : sl a 6 = .int .i64 0) (h12 : sl a 12 = .string (bs o12)) (h10 : sl a 10 = .string (bs vAr)) (ho12 : vEh ++ vAr ++ List.replicate 18 0 = o12)
    (hK : ∀ a' w', Sz 121 a' → Kp [] a a' → sl a' 0 = .bool true → Fr noB w w' → K .normal a' w') :
    (regionOf Tryd.f3 12).wp Tryd.prog K a w := by
  have hK2 : ∀ a' w', Sz 121 a' → KpU [] (sl a) a' → sl a' 0 = .bool true → Fr noB w w' → K .normal a' w' := hK
  clear hK
  rw [vecFr_of hs]
  clear hs
  generalize sl a = u at *
  clear a
  have HK := Lib.hid hK2
  clear hK2
  conv => arg 2; whnf
  obtain ⟨inf, hi0, hz0, hs0, hb0⟩ := info_parts bytes_info2
  have hmk := fun w => run_make_bytes (P := Tryd.prog) 43 5 inf Tryd.underlying43 hi0 hz0 hs0 hb0 18 (by omega) w
  have hl1 : vEh.length = 14 := by decide
  have hl2 : vAr.length = 28 := by decide
  have hb1 : ¬ 9223372036854775807 < vEh.length + vAr.length := by omega
  have hb2 : ¬ 9223372036854775807 < vEh.length + vAr.length + 18 := by omega
  have ho13 : vEh ++ (vAr ++ List.replicate 18 0) = o12 := by rw [← List.append_assoc]; exact ho12
  have ho14 : vEh ++ (vAr ++ [0, 0, 0, 0, 0, 0, 0, 0, 0, 0, 0, 0, 0, 0, 0, 0, 0, 0]) = o12 := ho13
  clear hi0 hz0 hs0 hb0
  simp only [vecFr, h1, h2, h3, h7, h9, h11, h6, h12, h10]
  obtain ⟨V, hV⟩ : ∃ V : Nat → Value, V = (fun jj => match jj with | 0 => .bool true | 1 => .bool true | 2 => .bool true | 3 => .bool true | 4 => .bool true | 5 => .bool true | 6 => .bool true | 7 => .bool true | 8 => .bool true | 9 => .bool true | 10 => .bool true | 11 => .bool true | 12 => .bool true | 13 => .bool true | 14 => .bool true | 15 => .bool true | 16 => .bool true | 17 => .int .i64 0 | 18 => .bool true | 19 => .bool true | 20 => .bool true | 21 => .string (bs o12) | 22 => .string (bs vEh) | 23 => .string (bs vAr) | 24 => .string (bs (vEh ++ vAr)) | 26 => .string (bs (List.replicate 18 0)) | 27 => .string (bs o12) | 28 => .bool true | 29 => .bool true | 30 => .bool true | _ => undef) := ⟨_, rfl⟩
  have q_0 : V 0 = .bool true := congrFun hV 0
  have q_1 : V 1 = .bool true := congrFun hV 1
  have q_2 : V 2 = .bool true := congrFun hV 2
  have q_3 : V 3 = .bool true := congrFun hV 3
  have q_4 : V 4 = .bool true := congrFun hV 4
  have q_5 : V 5 = .bool true := congrFun hV 5
  have q_6 : V 6 = .bool true := congrFun hV 6
  have q_7 : V 7 = .bool true := congrFun hV 7
  have q_8 : V 8 = .bool true := congrFun hV 8
  have q_9 : V 9 = .bool true := congrFun hV 9
  have q_10 : V 10 = .bool true := congrFun hV 10
  have q_11 : V 11 = .bool true := congrFun hV 11
  have q_12 : V 12 = .bool true := congrFun hV 12
  have q_13 : V 13 = .bool true := congrFun hV 13
  have q_14 : V 14 = .bool true := congrFun hV 14
  have q_15 : V 15 = .bool true := congrFun hV 15
  have q_16 : V 16 = .bool true := congrFun hV 16
  have q_17 : V 17 = .int .i64 0 := congrFun hV 17
  have q_18 : V 18 = .bool true := congrFun hV 18
  have q_19 : V 19 = .bool true := congrFun hV 19
  have q_20 : V 20 = .bool true := congrFun hV 20
  have q_21 : V 21 = .string (bs o12) := congrFun hV 21
  have q_22 : V 22 = .string (bs vEh) := congrFun hV 22
  have q_23 : V 23 = .string (bs vAr) := congrFun hV 23
  have q_24 : V 24 = .string (bs (vEh ++ vAr)) := congrFun hV 24
  have q_26 : V 26 = .string (bs (List.replicate 18 0)) := congrFun hV 26
  have q_27 : V 27 = .string (bs o12) := congrFun hV 27
  have q_28 : V 28 = .bool true := congrFun hV 28
  have q_29 : V 29 = .bool true := congrFun hV 29
  have q_30 : V 30 = .bool true := congrFun hV 30
  clear hV
  refine wp_region_ssag (by kernel_rfl) (by kernel_rfl)
    (fun y => ⟨List.toArray (y 30 :: .bool true :: .bool true :: .bool true :: u 4 :: u 5 :: .int .i64 0 :: .bool true :: u 8 :: .bool true :: .string (bs vAr) :: .bool true :: .string (bs o12) :: u 13 :: u 14 :: u 15 :: u 16 :: u 17 :: u 18 :: u 19 :: u 20 :: u 21 :: u 22 :: u 23 :: u 24 :: u 25 :: u 26 :: u 27 :: u 28 :: u 29 :: u 30 :: u 31 :: u 32 :: u 33 :: u 34 :: u 35 :: u 36 :: u 37 :: u 38 :: u 39 :: u 40 :: u 41 :: u 42 :: u 43 :: u 44 :: u 45 :: u 46 :: u 47 :: u 48 :: u 49 :: u 50 :: u 51 :: u 52 :: u 53 :: u 54 :: u 55 :: u 56 :: u 57 :: u 58 :: u 59 :: u 60 :: u 61 :: u 62 :: u 63 :: u 64 :: u 65 :: u 66 :: u 67 :: u 68 :: u 69 :: u 70 :: u 71 :: u 72 :: u 73 :: u 74 :: u 75 :: u 76 :: u 77 :: u 78 :: u 79 :: u 80 :: u 81 :: u 82 :: u 83 :: u 84 :: u 85 :: u 86 :: u 87 :: u 88 :: u 89 :: u 90 :: y 0 :: y 1 :: y 2 :: y 3 :: y 4 :: y 5 :: y 6 :: y 7 :: y 8 :: y 9 :: y 10 :: y 11 :: y 12 :: y 13 :: y 14 :: y 15 :: y 16 :: y 17 :: y 18 :: y 19 :: y 20 :: y 21 :: y 22 :: y 23 :: y 24 :: y 25 :: y 26 :: y 27 :: y 28 :: y 29 :: []), []⟩)
    (fun j v w4 => if j = 25 then ∃ g, v = .slice (some ⟨g, 0, none⟩) 18 18 ∧ Bk w4 g 5 (List.replicate 18 (Value.int .u8 0)).toArray else v = V j)
    (fun L y w4 => Fr noB w w4) (fun j => (([u 91, u 92, u 93, u 94, u 95, u 96, u 97, u 98, u 99, u 100, u 101, u 102, u 103, u 104, u 105, u 106, u 107, u 108, u 109, u 110, u 111, u 112, u 113, u 114, u 115, u 116, u 117, u 118, u 119, u 120, u 0] : List Value).getD j undef)) ((Fr.refl _ _).drew) ?_ ?_
  · rintro L y w4 i o hG hΦ ho hL hd K2 hK2
    match i, ho with
    | 0, ho =>
      simp at ho; subst ho
      clear hΦ
      clear hd
      refine .inl ⟨rfl, ?_⟩
      first | go_big_move | go_big_op
      exact hK2 _ _ (by first | exact q_0.symm | (rw [if_neg (by decide)]; exact q_0.symm)) hG (fun _ _ _ h => h)
    | 1, ho =>
      simp at ho; subst ho
      have hu0 := hΦ 0 (hd ⟨0, .data⟩ (by simp) (by rfl))
      simp only [reduceIte, Nat.reduceEqDiff] at hu0
      rw [q_0] at hu0
      clear hΦ
      clear hd
      have hx : ∃ x, y = (upd x 0 (.bool true)) := ⟨y, by rw [← upd_self hu0]⟩
      clear hu0
      obtain ⟨x, rfl⟩ := hx
      simp only [upd, reduceIte, Nat.reduceEqDiff]
      refine .inl ⟨rfl, ?_⟩
      first | go_big_move | go_big_op
      exact hK2 _ _ (by first | exact q_1.symm | (rw [if_neg (by decide)]; exact q_1.symm)) hG (fun _ _ _ h => h)
    | 2, ho =>
      simp at ho; subst ho
      have hu1 := hΦ 1 (hd ⟨1, .guard⟩ (by simp) (by rfl))
      simp only [reduceIte, Nat.reduceEqDiff] at hu1
      rw [q_1] at hu1
      clear hΦ
      clear hd
      have hx : ∃ x, y = (upd x 1 (.bool true)) := ⟨y, by rw [← upd_self hu1]⟩
      clear hu1
      obtain ⟨x, rfl⟩ := hx
      simp only [upd, reduceIte, Nat.reduceEqDiff]
      refine .inl ⟨rfl, ?_⟩
      first | go_big_move | go_big_op
      exact hK2 _ _ (by first | exact q_2.symm | (rw [if_neg (by decide)]; exact q_2.symm)) hG (fun _ _ _ h => h)
    | 3, ho =>
      simp at ho; subst ho
      have hu1 := hΦ 1 (hd ⟨1, .data⟩ (by simp) (by rfl))
      simp only [reduceIte, Nat.reduceEqDiff] at hu1
      rw [q_1] at hu1
      have hu2 := hΦ 2 (hd ⟨2, .data⟩ (by simp) (by rfl))
      simp only [reduceIte, Nat.reduceEqDiff] at hu2
      rw [q_2] at hu2
      clear hΦ
      clear hd
      have hx : ∃ x, y = (upd (upd x 1 (.bool true)) 2 (.bool true)) := ⟨y, by rw [← upd_self hu1, ← upd_self hu2]⟩
      clear hu1 hu2
      obtain ⟨x, rfl⟩ := hx
      simp only [upd, reduceIte, Nat.reduceEqDiff]
      refine .inl ⟨rfl, ?_⟩
      first | go_big_move | go_big_op
      exact hK2 _ _ (by first | exact q_3.symm | (rw [if_neg (by decide)]; exact q_3.symm)) hG (fun _ _ _ h => h)
    | 4, ho =>
      simp at ho; subst ho
      have hu3 := hΦ 3 (hd ⟨3, .data⟩ (by simp) (by rfl))
      simp only [reduceIte, Nat.reduceEqDiff] at hu3
      rw [q_3] at hu3
      clear hΦ
      clear hd
      have hx : ∃ x, y = (upd x 3 (.bool true)) := ⟨y, by rw [← upd_self hu3]⟩
      clear hu3
      obtain ⟨x, rfl⟩ := hx
      simp only [upd, reduceIte, Nat.reduceEqDiff]
      refine .inl ⟨rfl, ?_⟩
      first | go_big_move | go_big_op
      exact hK2 _ _ (by first | exact q_4.symm | (rw [if_neg (by decide)]; exact q_4.symm)) hG (fun _ _ _ h => h)
    | 5, ho =>
      simp at ho; subst ho
      have hu4 := hΦ 4 (hd ⟨4, .guard⟩ (by simp) (by rfl))
      simp only [reduceIte, Nat.reduceEqDiff] at hu4
      rw [q_4] at hu4
      clear hΦ
      clear hd
      have hx : ∃ x, y = (upd x 4 (.bool true)) := ⟨y, by rw [← upd_self hu4]⟩
      clear hu4
      obtain ⟨x, rfl⟩ := hx
      simp only [upd, reduceIte, Nat.reduceEqDiff]
      refine .inl ⟨rfl, ?_⟩
      first | go_big_move | go_big_op
      exact hK2 _ _ (by first | exact q_5.symm | (rw [if_neg (by decide)]; exact q_5.symm)) hG (fun _ _ _ h => h)
    | 6, ho =>
      simp at ho; subst ho
      have hu4 := hΦ 4 (hd ⟨4, .data⟩ (by simp) (by rfl))
      simp only [reduceIte, Nat.reduceEqDiff] at hu4
      rw [q_4] at hu4
      have hu5 := hΦ 5 (hd ⟨5, .data⟩ (by simp) (by rfl))
      simp only [reduceIte, Nat.reduceEqDiff] at hu5
      rw [q_5] at hu5
      clear hΦ
      clear hd
      have hx : ∃ x, y = (upd (upd x 4 (.bool true)) 5 (.bool true)) := ⟨y, by rw [← upd_self hu4, ← upd_self hu5]⟩
      clear hu4 hu5
      obtain ⟨x, rfl⟩ := hx
      simp only [upd, reduceIte, Nat.reduceEqDiff]
      refine .inl ⟨rfl, ?_⟩
      first | go_big_move | go_big_op
      exact hK2 _ _ (by first | exact q_6.symm | (rw [if_neg (by decide)]; exact q_6.symm)) hG (fun _ _ _ h => h)
    | 7, ho =>
      simp at ho; subst ho
      have hu6 := hΦ 6 (hd ⟨6, .data⟩ (by simp) (by rfl))
      simp only [reduceIte, Nat.reduceEqDiff] at hu6
      rw [q_6] at hu6
      clear hΦ
      clear hd
      have hx : ∃ x, y = (upd x 6 (.bool true)) := ⟨y, by rw [← upd_self hu6]⟩
      clear hu6
      obtain ⟨x, rfl⟩ := hx
      simp only [upd, reduceIte, Nat.reduceEqDiff]
      refine .inl ⟨rfl, ?_⟩
      first | go_big_move | go_big_op
      exact hK2 _ _ (by first | exact q_7.symm | (rw [if_neg (by decide)]; exact q_7.symm)) hG (fun _ _ _ h => h)
    | 8, ho =>
      simp at ho; subst ho
      have hu7 := hΦ 7 (hd ⟨7, .guard⟩ (by simp) (by rfl))
      simp only [reduceIte, Nat.reduceEqDiff] at hu7
      rw [q_7] at hu7
      clear hΦ
      clear hd
      have hx : ∃ x, y = (upd x 7 (.bool true)) := ⟨y, by rw [← upd_self hu7]⟩
      clear hu7
      obtain ⟨x, rfl⟩ := hx
      simp only [upd, reduceIte, Nat.reduceEqDiff]
      refine .inl ⟨rfl, ?_⟩
      first | go_big_move | go_big_op
      exact hK2 _ _ (by first | exact q_8.symm | (rw [if_neg (by decide)]; exact q_8.symm)) hG (fun _ _ _ h => h)
    | 9, ho =>
      simp at ho; subst ho
      have hu7 := hΦ 7 (hd ⟨7, .data⟩ (by simp) (by rfl))
      simp only [reduceIte, Nat.reduceEqDiff] at hu7
      rw [q_7] at hu7
      have hu8 := hΦ 8 (hd ⟨8, .data⟩ (by simp) (by rfl))
      simp only [reduceIte, Nat.reduceEqDiff] at hu8
      rw [q_8] at hu8
      clear hΦ
      clear hd
      have hx : ∃ x, y = (upd (upd x 7 (.bool true)) 8 (.bool true)) := ⟨y, by rw [← upd_self hu7, ← upd_self hu8]⟩
      clear hu7 hu8
      obtain ⟨x, rfl⟩ := hx
      simp only [upd, reduceIte, Nat.reduceEqDiff]
      refine .inl ⟨rfl, ?_⟩
      first | go_big_move | go_big_op
      exact hK2 _ _ (by first | exact q_9.symm | (rw [if_neg (by decide)]; exact q_9.symm)) hG (fun _ _ _ h => h)
    | 10, ho =>
      simp at ho; subst ho
      have hu9 := hΦ 9 (hd ⟨9, .data⟩ (by simp) (by rfl))
      simp only [reduceIte, Nat.reduceEqDiff] at hu9
      rw [q_9] at hu9
      clear hΦ
      clear hd
      have hx : ∃ x, y = (upd x 9 (.bool true)) := ⟨y, by rw [← upd_self hu9]⟩
      clear hu9
      obtain ⟨x, rfl⟩ := hx
      simp only [upd, reduceIte, Nat.reduceEqDiff]
      refine .inl ⟨rfl, ?_⟩
      first | go_big_move | go_big_op
      exact hK2 _ _ (by first | exact q_10.symm | (rw [if_neg (by decide)]; exact q_10.symm)) hG (fun _ _ _ h => h)
    | 11, ho =>
      simp at ho; subst ho
      have hu10 := hΦ 10 (hd ⟨10, .guard⟩ (by simp) (by rfl))
      simp only [reduceIte, Nat.reduceEqDiff] at hu10
      rw [q_10] at hu10
      clear hΦ
      clear hd
      have hx : ∃ x, y = (upd x 10 (.bool true)) := ⟨y, by rw [← upd_self hu10]⟩
      clear hu10
      obtain ⟨x, rfl⟩ := hx
      simp only [upd, reduceIte, Nat.reduceEqDiff]
      refine .inl ⟨rfl, ?_⟩
      first | go_big_move | go_big_op
      exact hK2 _ _ (by first | exact q_11.symm | (rw [if_neg (by decide)]; exact q_11.symm)) hG (fun _ _ _ h => h)
    | 12, ho =>
      simp at ho; subst ho
      have hu10 := hΦ 10 (hd ⟨10, .data⟩ (by simp) (by rfl))
      simp only [reduceIte, Nat.reduceEqDiff] at hu10
      rw [q_10] at hu10
      have hu11 := hΦ 11 (hd ⟨11, .data⟩ (by simp) (by rfl))
      simp only [reduceIte, Nat.reduceEqDiff] at hu11
      rw [q_11] at hu11
      clear hΦ
      clear hd
      have hx : ∃ x, y = (upd (upd x 10 (.bool true)) 11 (.bool true)) := ⟨y, by rw [← upd_self hu10, ← upd_self hu11]⟩
      clear hu10 hu11
      obtain ⟨x, rfl⟩ := hx
      simp only [upd, reduceIte, Nat.reduceEqDiff]
      refine .inl ⟨rfl, ?_⟩
      first | go_big_move | go_big_op
      exact hK2 _ _ (by first | exact q_12.symm | (rw [if_neg (by decide)]; exact q_12.symm)) hG (fun _ _ _ h => h)
    | 13, ho =>
      simp at ho; subst ho
      have hu12 := hΦ 12 (hd ⟨12, .data⟩ (by simp) (by rfl))
      simp only [reduceIte, Nat.reduceEqDiff] at hu12
      rw [q_12] at hu12
      clear hΦ
      clear hd
      have hx : ∃ x, y = (upd x 12 (.bool true)) := ⟨y, by rw [← upd_self hu12]⟩
      clear hu12
      obtain ⟨x, rfl⟩ := hx
      simp only [upd, reduceIte, Nat.reduceEqDiff]
      refine .inl ⟨rfl, ?_⟩
      first | go_big_move | go_big_op
      exact hK2 _ _ (by first | exact q_13.symm | (rw [if_neg (by decide)]; exact q_13.symm)) hG (fun _ _ _ h => h)
    | 14, ho =>
      simp at ho; subst ho
      have hu13 := hΦ 13 (hd ⟨13, .guard⟩ (by simp) (by rfl))
      simp only [reduceIte, Nat.reduceEqDiff] at hu13
      rw [q_13] at hu13
      clear hΦ
      clear hd
      have hx : ∃ x, y = (upd x 13 (.bool true)) := ⟨y, by rw [← upd_self hu13]⟩
      clear hu13
      obtain ⟨x, rfl⟩ := hx
      simp only [upd, reduceIte, Nat.reduceEqDiff]
      refine .inl ⟨rfl, ?_⟩
      first | go_big_move | go_big_op
      exact hK2 _ _ (by first | exact q_14.symm | (rw [if_neg (by decide)]; exact q_14.symm)) hG (fun _ _ _ h => h)
    | 15, ho =>
      simp at ho; subst ho
      have hu13 := hΦ 13 (hd ⟨13, .data⟩ (by simp) (by rfl))
      simp only [reduceIte, Nat.reduceEqDiff] at hu13
      rw [q_13] at hu13
      have hu14 := hΦ 14 (hd ⟨14, .data⟩ (by simp) (by rfl))
      simp only [reduceIte, Nat.reduceEqDiff] at hu14
      rw [q_14] at hu14
      clear hΦ
      clear hd
      have hx : ∃ x, y = (upd (upd x 13 (.bool true)) 14 (.bool true)) := ⟨y, by rw [← upd_self hu13, ← upd_self hu14]⟩
      clear hu13 hu14
      obtain ⟨x, rfl⟩ := hx
      simp only [upd, reduceIte, Nat.reduceEqDiff]
      refine .inl ⟨rfl, ?_⟩
      first | go_big_move | go_big_op
      exact hK2 _ _ (by first | exact q_15.symm | (rw [if_neg (by decide)]; exact q_15.symm)) hG (fun _ _ _ h => h)
    | 16, ho =>
      simp at ho; subst ho
      have hu15 := hΦ 15 (hd ⟨15, .data⟩ (by simp) (by rfl))
      simp only [reduceIte, Nat.reduceEqDiff] at hu15
      rw [q_15] at hu15
      clear hΦ
      clear hd
      have hx : ∃ x, y = (upd x 15 (.bool true)) := ⟨y, by rw [← upd_self hu15]⟩
      clear hu15
      obtain ⟨x, rfl⟩ := hx
      simp only [upd, reduceIte, Nat.reduceEqDiff]
      refine .inl ⟨rfl, ?_⟩
      first | go_big_move | go_big_op
      exact hK2 _ _ (by first | exact q_16.symm | (rw [if_neg (by decide)]; exact q_16.symm)) hG (fun _ _ _ h => h)
    | 17, ho =>
      simp at ho; subst ho
      have hu16 := hΦ 16 (hd ⟨16, .guard⟩ (by simp) (by rfl))
      simp only [reduceIte, Nat.reduceEqDiff] at hu16
      rw [q_16] at hu16
      clear hΦ
      clear hd
      have hx : ∃ x, y = (upd x 16 (.bool true)) := ⟨y, by rw [← upd_self hu16]⟩
      clear hu16
      obtain ⟨x, rfl⟩ := hx
      simp only [upd, reduceIte, Nat.reduceEqDiff]
      refine .inl ⟨rfl, ?_⟩
      first | go_big_move | go_big_op
      exact hK2 _ _ (by first | exact q_17.symm | (rw [if_neg (by decide)]; exact q_17.symm)) hG (fun _ _ _ h => h)
    | 18, ho =>
      simp at ho; subst ho
      have hu17 := hΦ 17 (hd ⟨17, .data⟩ (by simp) (by rfl))
      simp only [reduceIte, Nat.reduceEqDiff] at hu17
      rw [q_17] at hu17
      have hu16 := hΦ 16 (hd ⟨16, .guard⟩ (by simp) (by rfl))
      simp only [reduceIte, Nat.reduceEqDiff] at hu16
      rw [q_16] at hu16
      clear hΦ
      clear hd
      have hx : ∃ x, y = (upd (upd x 17 (.int .i64 0)) 16 (.bool true)) := ⟨y, by rw [← upd_self hu17, ← upd_self hu16]⟩
      clear hu17 hu16
      obtain ⟨x, rfl⟩ := hx
      simp only [upd, reduceIte, Nat.reduceEqDiff]
      refine .inl ⟨rfl, ?_⟩
      first | go_big_move | go_big_op
      exact hK2 _ _ (by first | exact q_18.symm | (rw [if_neg (by decide)]; exact q_18.symm)) hG (fun _ _ _ h => h)
    | 19, ho =>
      simp at ho; subst ho
      have hu16 := hΦ 16 (hd ⟨16, .data⟩ (by simp) (by rfl))
      simp only [reduceIte, Nat.reduceEqDiff] at hu16
      rw [q_16] at hu16
      have hu18 := hΦ 18 (hd ⟨18, .data⟩ (by simp) (by rfl))
      simp only [reduceIte, Nat.reduceEqDiff] at hu18
      rw [q_18] at hu18
      clear hΦ
      clear hd
      have hx : ∃ x, y = (upd (upd x 16 (.bool true)) 18 (.bool true)) := ⟨y, by rw [← upd_self hu16, ← upd_self hu18]⟩
      clear hu16 hu18
      obtain ⟨x, rfl⟩ := hx
      simp only [upd, reduceIte, Nat.reduceEqDiff]
      refine .inl ⟨rfl, ?_⟩
      first | go_big_move | go_big_op
      exact hK2 _ _ (by first | exact q_19.symm | (rw [if_neg (by decide)]; exact q_19.symm)) hG (fun _ _ _ h => h)
    | 20, ho =>
      simp at ho; subst ho
      have hu19 := hΦ 19 (hd ⟨19, .data⟩ (by simp) (by rfl))
      simp only [reduceIte, Nat.reduceEqDiff] at hu19
      rw [q_19] at hu19
      clear hΦ
      clear hd
      have hx : ∃ x, y = (upd x 19 (.bool true)) := ⟨y, by rw [← upd_self hu19]⟩
      clear hu19
      obtain ⟨x, rfl⟩ := hx
      simp only [upd, reduceIte, Nat.reduceEqDiff]
      refine .inl ⟨rfl, ?_⟩
      first | go_big_move | go_big_op
      exact hK2 _ _ (by first | exact q_20.symm | (rw [if_neg (by decide)]; exact q_20.symm)) hG (fun _ _ _ h => h)
    | 21, ho =>
      simp at ho; subst ho
      have hu20 := hΦ 20 (hd ⟨20, .guard⟩ (by simp) (by rfl))
      simp only [reduceIte, Nat.reduceEqDiff] at hu20
      rw [q_20] at hu20
      clear hΦ
      clear hd
      have hx : ∃ x, y = (upd x 20 (.bool true)) := ⟨y, by rw [← upd_self hu20]⟩
      clear hu20
      obtain ⟨x, rfl⟩ := hx
      simp only [upd, reduceIte, Nat.reduceEqDiff]
      refine .inl ⟨rfl, ?_⟩
      first | go_big_move | go_big_op
      exact hK2 _ _ (by first | exact q_21.symm | (rw [if_neg (by decide)]; exact q_21.symm)) hG (fun _ _ _ h => h)
    | 22, ho =>
      simp at ho; subst ho
      have hu20 := hΦ 20 (hd ⟨20, .guard⟩ (by simp) (by rfl))
      simp only [reduceIte, Nat.reduceEqDiff] at hu20
      rw [q_20] at hu20
      clear hd
      have hst : ∀ w5, Fr noB w4 w5 → ∀ j z, L j = true → (if j = 25 then ∃ g, z = .slice (some ⟨g, 0, none⟩) 18 18 ∧ Bk w4 g 5 (List.replicate 18 (Value.int .u8 0)).toArray else z = V j) → (if j = 25 then ∃ g, z = .slice (some ⟨g, 0, none⟩) 18 18 ∧ Bk w5 g 5 (List.replicate 18 (Value.int .u8 0)).toArray else z = V j) := by intro w5 hf j z _ h; by_cases hj : j = 25; (rw [if_pos hj] at h ⊢; obtain ⟨g, h1, h2⟩ := h; exact ⟨g, h1, h2.keep hf id⟩); (rw [if_neg hj] at h ⊢; exact h)
      clear hΦ
      have hx : ∃ x, y = (upd x 20 (.bool true)) := ⟨y, by rw [← upd_self hu20]⟩
      clear hu20
      obtain ⟨x, rfl⟩ := hx
      simp only [upd, reduceIte, Nat.reduceEqDiff]
      refine .inl ⟨rfl, ?_⟩
      have ch := keepHex v_eh w4 (by decide) v_eh_ok
      rw [vec10] at ch
      go_big_op
      refine ch.mono ?_
      rintro e w5 ⟨rfl, hf5⟩
      exact hK2 _ _ (by first | exact q_22.symm | (rw [if_neg (by decide)]; exact q_22.symm)) (hG.none hf5) (hst w5 hf5)
    | 23, ho =>
      simp at ho; subst ho
      have hu20 := hΦ 20 (hd ⟨20, .guard⟩ (by simp) (by rfl))
      simp only [reduceIte, Nat.reduceEqDiff] at hu20
      rw [q_20] at hu20
      clear hΦ
      clear hd
      have hx : ∃ x, y = (upd x 20 (.bool true)) := ⟨y, by rw [← upd_self hu20]⟩
      clear hu20
      obtain ⟨x, rfl⟩ := hx
      simp only [upd, reduceIte, Nat.reduceEqDiff]
      refine .inl ⟨rfl, ?_⟩
      first | go_big_move | go_big_op
      exact hK2 _ _ (by first | exact q_23.symm | (rw [if_neg (by decide)]; exact q_23.symm)) hG (fun _ _ _ h => h)
    | 24, ho =>
      simp at ho; subst ho
      have hu22 := hΦ 22 (hd ⟨22, .data⟩ (by simp) (by rfl))
      simp only [reduceIte, Nat.reduceEqDiff] at hu22
      rw [q_22] at hu22
      have hu23 := hΦ 23 (hd ⟨23, .data⟩ (by simp) (by rfl))
      simp only [reduceIte, Nat.reduceEqDiff] at hu23
      rw [q_23] at hu23
      have hu20 := hΦ 20 (hd ⟨20, .guard⟩ (by simp) (by rfl))
      simp only [reduceIte, Nat.reduceEqDiff] at hu20
      rw [q_20] at hu20
      clear hΦ
      clear hd
      have hx : ∃ x, y = (upd (upd (upd x 22 (.string (bs vEh))) 23 (.string (bs vAr))) 20 (.bool true)) := ⟨y, by rw [← upd_self hu22, ← upd_self hu23, ← upd_self hu20]⟩
      clear hu22 hu23 hu20
      obtain ⟨x, rfl⟩ := hx
      simp only [upd, reduceIte, Nat.reduceEqDiff]
      refine .inl ⟨rfl, ?_⟩
      first | go_big_move | go_big_op
      exact hK2 _ _ (by first | exact q_24.symm | (rw [if_neg (by decide)]; exact q_24.symm)) hG (fun _ _ _ h => h)
    | 25, ho =>
      simp at ho; subst ho
      have hu20 := hΦ 20 (hd ⟨20, .guard⟩ (by simp) (by rfl))
      simp only [reduceIte, Nat.reduceEqDiff] at hu20
      rw [q_20] at hu20
      clear hd
      have hst : ∀ w5, Fr noB w4 w5 → ∀ j z, L j = true → (if j = 25 then ∃ g, z = .slice (some ⟨g, 0, none⟩) 18 18 ∧ Bk w4 g 5 (List.replicate 18 (Value.int .u8 0)).toArray else z = V j) → (if j = 25 then ∃ g, z = .slice (some ⟨g, 0, none⟩) 18 18 ∧ Bk w5 g 5 (List.replicate 18 (Value.int .u8 0)).toArray else z = V j) := by intro w5 hf j z _ h; by_cases hj : j = 25; (rw [if_pos hj] at h ⊢; obtain ⟨g, h1, h2⟩ := h; exact ⟨g, h1, h2.keep hf id⟩); (rw [if_neg hj] at h ⊢; exact h)
      clear hΦ
      have hx : ∃ x, y = (upd x 20 (.bool true)) := ⟨y, by rw [← upd_self hu20]⟩
      clear hu20
      obtain ⟨x, rfl⟩ := hx
      simp only [upd, reduceIte, Nat.reduceEqDiff]
      refine .inl ⟨rfl, ?_⟩
      have hmk2 := hmk w4
      refine wp_make_run _ _ _ rfl hmk2 rfl rfl ?_
      exact hK2 _ _ ⟨_, rfl, Bk.new w4 _ _⟩ (hG.alloc _) (hst _ ((Fr.refl noB w4).alloc _))
    | 26, ho =>
      simp at ho; subst ho
      have hu25 := hΦ 25 (hd ⟨25, .data⟩ (by simp) (by rfl))
      simp only [reduceIte, Nat.reduceEqDiff] at hu25
      have hu20 := hΦ 20 (hd ⟨20, .guard⟩ (by simp) (by rfl))
      simp only [reduceIte, Nat.reduceEqDiff] at hu20
      rw [q_20] at hu20
      obtain ⟨g, hu25, hbk⟩ := hu25
      clear hΦ
      clear hd
      have hx : ∃ x, y = (upd (upd x 25 (.slice (some ⟨g, 0, none⟩) 18 18)) 20 (.bool true)) := ⟨y, by rw [← upd_self hu25, ← upd_self hu20]⟩
      clear hu25 hu20
      obtain ⟨x, rfl⟩ := hx
      simp only [upd, reduceIte, Nat.reduceEqDiff]
      refine .inl ⟨rfl, ?_⟩
      have hcv := run_str_of (P := Tryd.prog) w4 43 9 5 Tryd.underlying43 Tryd.underlying5 Tryd.underlying9 noB (some ⟨g, 0, none⟩) 18 18 (List.replicate 18 0) (SlR.of_bk (S := noB) (n := 18) (size := 1) hbk id rfl) (.inr ⟨_, _, rfl⟩)
      first | go_big_move | go_big_op
      exact hK2 _ _ (by first | exact q_26.symm | (rw [if_neg (by decide)]; exact q_26.symm)) hG (fun _ _ _ h => h)
    | 27, ho =>
      simp at ho; subst ho
      have hu24 := hΦ 24 (hd ⟨24, .data⟩ (by simp) (by rfl))
      simp only [reduceIte, Nat.reduceEqDiff] at hu24
      rw [q_24] at hu24
      have hu26 := hΦ 26 (hd ⟨26, .data⟩ (by simp) (by rfl))
      simp only [reduceIte, Nat.reduceEqDiff] at hu26
      rw [q_26] at hu26
      have hu20 := hΦ 20 (hd ⟨20, .guard⟩ (by simp) (by rfl))
      simp only [reduceIte, Nat.reduceEqDiff] at hu20
      rw [q_20] at hu20
      clear hΦ
      clear hd
      have hx : ∃ x, y = (upd (upd (upd x 24 (.string (bs (vEh ++ vAr)))) 26 (.string (bs (List.replicate 18 0)))) 20 (.bool true)) := ⟨y, by rw [← upd_self hu24, ← upd_self hu26, ← upd_self hu20]⟩
      clear hu24 hu26 hu20
      obtain ⟨x, rfl⟩ := hx
      simp only [upd, reduceIte, Nat.reduceEqDiff]
      refine .inl ⟨rfl, ?_⟩
      first | go_big_move | go_big_op
      exact hK2 _ _ (by first | exact q_27.symm | (rw [if_neg (by decide)]; exact q_27.symm)) hG (fun _ _ _ h => h)
    | 28, ho =>
      simp at ho; subst ho
      have hu21 := hΦ 21 (hd ⟨21, .data⟩ (by simp) (by rfl))
      simp only [reduceIte, Nat.reduceEqDiff] at hu21
      rw [q_21] at hu21
      have hu27 := hΦ 27 (hd ⟨27, .data⟩ (by simp) (by rfl))
      simp only [reduceIte, Nat.reduceEqDiff] at hu27
      rw [q_27] at hu27
      have hu20 := hΦ 20 (hd ⟨20, .guard⟩ (by simp) (by rfl))
      simp only [reduceIte, Nat.reduceEqDiff] at hu20
      rw [q_20] at hu20
      clear hΦ
      clear hd
      have hx : ∃ x, y = (upd (upd (upd x 21 (.string (bs o12))) 27 (.string (bs o12))) 20 (.bool true)) := ⟨y, by rw [← upd_self hu21, ← upd_self hu27, ← upd_self hu20]⟩
      clear hu21 hu27 hu20
      obtain ⟨x, rfl⟩ := hx
      simp only [upd, reduceIte, Nat.reduceEqDiff]
      refine .inl ⟨rfl, ?_⟩
      first | go_big_move | go_big_op
      exact hK2 _ _ (by first | exact q_28.symm | (rw [if_neg (by decide)]; exact q_28.symm)) hG (fun _ _ _ h => h)
    | 29, ho =>
      simp at ho; subst ho
      have hu20 := hΦ 20 (hd ⟨20, .data⟩ (by simp) (by rfl))
      simp only [reduceIte, Nat.reduceEqDiff] at hu20
      rw [q_20] at hu20
      have hu28 := hΦ 28 (hd ⟨28, .data⟩ (by simp) (by rfl))
      simp only [reduceIte, Nat.reduceEqDiff] at hu28
      rw [q_28] at hu28
      clear hΦ
      clear hd
      have hx : ∃ x, y = (upd (upd x 20 (.bool true)) 28 (.bool true)) := ⟨y, by rw [← upd_self hu20, ← upd_self hu28]⟩
      clear hu20 hu28
      obtain ⟨x, rfl⟩ := hx
      simp only [upd, reduceIte, Nat.reduceEqDiff]
      refine .inl ⟨rfl, ?_⟩
      first | go_big_move | go_big_op
      exact hK2 _ _ (by first | exact q_29.symm | (rw [if_neg (by decide)]; exact q_29.symm)) hG (fun _ _ _ h => h)
    | 30, ho =>
      simp at ho; subst ho
      have hu29 := hΦ 29 (hd ⟨29, .data⟩ (by simp) (by rfl))
      simp only [reduceIte, Nat.reduceEqDiff] at hu29
      rw [q_29] at hu29
      clear hΦ
      clear hd
      have hx : ∃ x, y = (upd x 29 (.bool true)) := ⟨y, by rw [← upd_self hu29]⟩
      clear hu29
      obtain ⟨x, rfl⟩ := hx
      simp only [upd, reduceIte, Nat.reduceEqDiff]
      refine .inl ⟨rfl, ?_⟩
      first | go_big_move | go_big_op
      exact hK2 _ _ (by first | exact q_30.symm | (rw [if_neg (by decide)]; exact q_30.symm)) hG (fun _ _ _ h => h)
  rintro y w4 hΦ L hall hG
  have hlast := hΦ 30 (by decide)
  simp only [reduceIte, Nat.reduceEqDiff] at hlast
  rw [q_30] at hlast
  exact HK.out _ _  ⟨rfl, rfl⟩ (KpU.nil _ _) (hlast) hG

end Go.Proofs.YtcbkaiakdhiloabDoor
