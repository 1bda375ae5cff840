/- tftp.Write's field test, a region that draws its order. Written by mktfw.py. -/
import Derived.Test.YtcbkaiakdhiloabGreatDoorMap
import Derived.Test.YtcbkaiakdhiloabGreatDoorMaq
import Derived.Test.YtcbkaiakdhiloabGreatDoorMaj
set_option linter.unusedSimpArgs false
set_option linter.unusedVariables false
namespace Go.Proofs.YtcbkaiakdhiloabGreatDoor
open Go.RowKit Go.Proofs
attribute [local go_sem] bs_size bs_append bs_extract bs_toList

def tfW (u : Nat → Value) : Act := ⟨#[u 0, u 1, u 2, u 3, u 4, u 5, u 6, u 7, u 8, u 9, u 10, u 11, u 12, u 13, u 14, u 15, u 16, u 17, u 18, u 19, u 20, u 21, u 22, u 23, u 24, u 25, u 26, u 27, u 28, u 29, u 30, u 31, u 32, u 33, u 34, u 35, u 36, u 37, u 38, u 39, u 40, u 41, u 42, u 43, u 44, u 45, u 46, u 47, u 48, u 49, u 50, u 51, u 52, u 53, u 54, u 55, u 56, u 57, u 58, u 59, u 60, u 61, u 62, u 63, u 64, u 65, u 66, u 67, u 68, u 69, u 70, u 71, u 72, u 73, u 74, u 75, u 76, u 77, u 78, u 79, u 80, u 81, u 82, u 83, u 84, u 85, u 86, u 87, u 88, u 89, u 90, u 91, u 92, u 93, u 94, u 95, u 96, u 97, u 98, u 99, u 100, u 101, u 102, u 103, u 104, u 105, u 106, u 107, u 108, u 109, u 110, u 111, u 112, u 113, u 114], []⟩
set_option maxRecDepth 100000 in
theorem tfW_eq (u : Nat → Value) : tfW u = frN 115 u := rfl
theorem tfW_of {a : Act} (h : Sz 115 a) : a = tfW (sl a) := h.eq.trans (tfW_eq _).symm
set_option maxRecDepth 100000 in
theorem tfW_sz (u : Nat → Value) : Sz 115 (tfW u) := ⟨rfl, rfl⟩
set_option maxRecDepth 20000 in
set_option maxHeartbeats 1000000 in
theorem tfR15a (g gm n k cap op bk : Nat) (A : Option Addr) (tx dt : List UInt8) (b4 : List FldD) (nm vl : List UInt8) (a : Act) (w : World) (K : Exit → Act → World → Prop) (hs : Sz 115 a)
    (h1 : sl a 1 = .pointer (some ⟨gm, 0, none⟩)) (h5 : sl a 5 = .int .i64 (k : Int)) (h6 : sl a 6 = .pointer (some ⟨g, 0, none⟩)) (hT : Tabs w) (hnl : nm.length ≤ 1099511627) (hvl : vl.length ≤ 1099511627) (hkn : k < n) (hnc : n ≤ cap) (hnn : n ≤ 4611686018427387904) (ha : wordB nm = false) (hA : SlR w noB 2 A k (fldC b4)) (hfb : Bk w g 83 #[.string (bs nm), .string (bs vl)]) (hmb : Bk w gm 81 #[.int .u16 (op : Int), .int .u16 (bk : Int), .string (bs tx), .string (bs dt), .slice A n cap])
    (hK : ∀ a' w', Sz 115 a' → Kp [0, 1, 2, 3, 4, 5, 6, 7, 8, 9, 10, 11, 12, 13, 14, 15, 16, 17, 18, 19, 20, 21, 22, 23, 24, 25, 26, 27, 28, 29, 30, 31, 32, 33, 34, 35, 36, 37, 38, 39, 40, 41, 42, 43, 71, 72, 73, 74, 75, 76, 77, 78, 79, 80, 81, 82, 83, 84, 85, 86, 87, 88, 89, 90, 91, 92, 93, 94, 95, 96, 97, 98, 99, 100, 101, 102, 103, 104, 105, 106, 107, 108, 109, 110, 111, 112, 113, 114] a a' → sl a' 70 = .bool true → Fr noB w w' → K .normal a' w') :
    (regionOf Tryz.f83 15).wp Tryz.prog K a w := by
  have hK2 : ∀ a' w', Sz 115 a' → KpU [0, 1, 2, 3, 4, 5, 6, 7, 8, 9, 10, 11, 12, 13, 14, 15, 16, 17, 18, 19, 20, 21, 22, 23, 24, 25, 26, 27, 28, 29, 30, 31, 32, 33, 34, 35, 36, 37, 38, 39, 40, 41, 42, 43, 71, 72, 73, 74, 75, 76, 77, 78, 79, 80, 81, 82, 83, 84, 85, 86, 87, 88, 89, 90, 91, 92, 93, 94, 95, 96, 97, 98, 99, 100, 101, 102, 103, 104, 105, 106, 107, 108, 109, 110, 111, 112, 113, 114] (sl a) a' → sl a' 70 = .bool true → Fr noB w w' → K .normal a' w' := hK
  clear hK
  rw [tfW_of hs]
  clear hs
  generalize sl a = z at *
  clear a
  have HK := Lib.hid hK2
  clear hK2
  conv => arg 2; whnf
  simp only [tfW, h1, h5, h6]
  obtain ⟨V, hV⟩ : ∃ V : Nat → Value, V = (fun j => match j with | 0 => .pointer (some ⟨g, 0, none⟩) | 1 => .string (bs nm) | 2 => .bool false | 3 => .bool true | 4 => .bool true | 5 => undef | 6 => undef | 7 => undef | 8 => undef | 9 => .bool true | 10 => .bool true | 11 => undef | 12 => undef | 13 => undef | 14 => undef | 15 => undef | 16 => undef | 17 => .bool true | 18 => .bool true | 19 => undef | 20 => undef | 21 => undef | 22 => undef | 23 => undef | 24 => undef | 25 => undef | 26 => .bool true | _ => undef) := ⟨_, rfl⟩
  have v0 : V 0 = .pointer (some ⟨g, 0, none⟩) := congrFun hV 0
  have v1 : V 1 = .string (bs nm) := congrFun hV 1
  have v2 : V 2 = .bool false := congrFun hV 2
  have v3 : V 3 = .bool true := congrFun hV 3
  have v4 : V 4 = .bool true := congrFun hV 4
  have v5 : V 5 = undef := congrFun hV 5
  have v6 : V 6 = undef := congrFun hV 6
  have v7 : V 7 = undef := congrFun hV 7
  have v8 : V 8 = undef := congrFun hV 8
  have v9 : V 9 = .bool true := congrFun hV 9
  have v10 : V 10 = .bool true := congrFun hV 10
  have v11 : V 11 = undef := congrFun hV 11
  have v12 : V 12 = undef := congrFun hV 12
  have v13 : V 13 = undef := congrFun hV 13
  have v14 : V 14 = undef := congrFun hV 14
  have v15 : V 15 = undef := congrFun hV 15
  have v16 : V 16 = undef := congrFun hV 16
  have v17 : V 17 = .bool true := congrFun hV 17
  have v18 : V 18 = .bool true := congrFun hV 18
  have v19 : V 19 = undef := congrFun hV 19
  have v20 : V 20 = undef := congrFun hV 20
  have v21 : V 21 = undef := congrFun hV 21
  have v22 : V 22 = undef := congrFun hV 22
  have v23 : V 23 = undef := congrFun hV 23
  have v24 : V 24 = undef := congrFun hV 24
  have v25 : V 25 = undef := congrFun hV 25
  have v26 : V 26 = .bool true := congrFun hV 26
  clear hV
  refine wp_region_ssag (by kernel_rfl) (by kernel_rfl)
    (fun u => ⟨List.toArray ((z 0) :: (.pointer (some ⟨gm, 0, none⟩)) :: (z 2) :: (z 3) :: (z 4) :: (.int .i64 (k : Int)) :: (.pointer (some ⟨g, 0, none⟩)) :: (z 7) :: (z 8) :: (z 9) :: (z 10) :: (z 11) :: (z 12) :: (z 13) :: (z 14) :: (z 15) :: (z 16) :: (z 17) :: (z 18) :: (z 19) :: (z 20) :: (z 21) :: (z 22) :: (z 23) :: (z 24) :: (z 25) :: (z 26) :: (z 27) :: (z 28) :: (z 29) :: (z 30) :: (z 31) :: (z 32) :: (z 33) :: (z 34) :: (z 35) :: (z 36) :: (z 37) :: (z 38) :: (z 39) :: (z 40) :: (z 41) :: (z 42) :: (z 43) :: (u 0) :: (u 1) :: (u 2) :: (u 3) :: (u 4) :: (u 5) :: (u 6) :: (u 7) :: (u 8) :: (u 9) :: (u 10) :: (u 11) :: (u 12) :: (u 13) :: (u 14) :: (u 15) :: (u 16) :: (u 17) :: (u 18) :: (u 19) :: (u 20) :: (u 21) :: (u 22) :: (u 23) :: (u 24) :: (u 25) :: (u 26) :: (z 71) :: (z 72) :: (z 73) :: (z 74) :: (z 75) :: (z 76) :: (z 77) :: (z 78) :: (z 79) :: (z 80) :: (z 81) :: (z 82) :: (z 83) :: (z 84) :: (z 85) :: (z 86) :: (z 87) :: (z 88) :: (z 89) :: (z 90) :: (z 91) :: (z 92) :: (z 93) :: (z 94) :: (z 95) :: (z 96) :: (z 97) :: (z 98) :: (z 99) :: (z 100) :: (z 101) :: (z 102) :: (z 103) :: (z 104) :: (z 105) :: (z 106) :: (z 107) :: (z 108) :: (z 109) :: (z 110) :: (z 111) :: (z 112) :: (z 113) :: (z 114) :: []), []⟩)
    (fun j v w3 => v = V j)
    (fun L u w3 => Fr noB w w3) (fun j => if j = 0 then z 44 else if j = 1 then z 45 else if j = 2 then z 46 else if j = 3 then z 47 else if j = 4 then z 48 else if j = 5 then z 49 else if j = 6 then z 50 else if j = 7 then z 51 else if j = 8 then z 52 else if j = 9 then z 53 else if j = 10 then z 54 else if j = 11 then z 55 else if j = 12 then z 56 else if j = 13 then z 57 else if j = 14 then z 58 else if j = 15 then z 59 else if j = 16 then z 60 else if j = 17 then z 61 else if j = 18 then z 62 else if j = 19 then z 63 else if j = 20 then z 64 else if j = 21 then z 65 else if j = 22 then z 66 else if j = 23 then z 67 else if j = 24 then z 68 else if j = 25 then z 69 else if j = 26 then z 70 else undef) ((Fr.refl _ _).drew) ?_ ?_
  · rintro L u w3 i o hG hΦ ho hL hd K2 hK2
    match i, ho with
    | 0, ho =>
      simp at ho; subst ho
      clear hΦ hd
      have hG0 := hG
      refine .inl ⟨rfl, ?_⟩
      go_simp
      exact hK2 _ _ v0.symm hG0 (fun _ _ _ h => h)
    | 1, ho =>
      simp at ho; subst ho
      have hu0 : u 0 = V 0 := hΦ 0 (hd ⟨0, .data⟩ (by simp) (by rfl))
      rw [v0] at hu0
      clear hΦ hd
      have hG0 := hG
      have hx : ∃ y, u = (upd y 0 (.pointer (some ⟨g, 0, none⟩))) := ⟨u, by rw [← upd_self hu0]⟩
      clear hu0
      obtain ⟨y, rfl⟩ := hx
      simp only [upd, reduceIte, Nat.reduceEqDiff]
      refine .inl ⟨rfl, ?_⟩
      have hc0 := ((hfb).keep hG0 (fun x => x)).cells
      go_simp
      exact hK2 _ _ v1.symm hG0 (fun _ _ _ h => h)
    | 2, ho =>
      simp at ho; subst ho
      have hu1 : u 1 = V 1 := hΦ 1 (hd ⟨1, .data⟩ (by simp) (by rfl))
      rw [v1] at hu1
      clear hΦ hd
      have hG0 := hG
      have hx : ∃ y, u = (upd y 1 (.string (bs nm))) := ⟨u, by rw [← upd_self hu1]⟩
      clear hu1
      obtain ⟨y, rfl⟩ := hx
      simp only [upd, reduceIte, Nat.reduceEqDiff]
      refine .inl ⟨rfl, ?_⟩
      go_simp
      refine (tftpAscii nm _ (by omega)).mono ?_
      rintro e w4 ⟨rfl, rfl⟩
      rw [ha]
      exact hK2 _ _ v2.symm hG0 (fun _ _ _ h => h)
    | 3, ho =>
      simp at ho; subst ho
      have hu2 : u 2 = V 2 := hΦ 2 (hd ⟨2, .data⟩ (by simp) (by rfl))
      rw [v2] at hu2
      clear hΦ hd
      have hG0 := hG
      have hx : ∃ y, u = (upd y 2 (.bool false)) := ⟨u, by rw [← upd_self hu2]⟩
      clear hu2
      obtain ⟨y, rfl⟩ := hx
      simp only [upd, reduceIte, Nat.reduceEqDiff]
      refine .inl ⟨rfl, ?_⟩
      go_simp
      exact hK2 _ _ v3.symm hG0 (fun _ _ _ h => h)
    | 4, ho =>
      simp at ho; subst ho
      have hu3 : u 3 = V 3 := hΦ 3 (hd ⟨3, .data⟩ (by simp) (by rfl))
      rw [v3] at hu3
      clear hΦ hd
      have hG0 := hG
      have hx : ∃ y, u = (upd y 3 (.bool true)) := ⟨u, by rw [← upd_self hu3]⟩
      clear hu3
      obtain ⟨y, rfl⟩ := hx
      simp only [upd, reduceIte, Nat.reduceEqDiff]
      refine .inl ⟨rfl, ?_⟩
      go_simp
      exact hK2 _ _ v4.symm hG0 (fun _ _ _ h => h)
    | 5, ho =>
      simp at ho; subst ho
      have hu4 : u 4 = V 4 := hΦ 4 (hd ⟨4, .guard⟩ (by simp) (by rfl))
      rw [v4] at hu4
      clear hΦ hd
      have hG0 := hG
      have hx : ∃ y, u = (upd y 4 (.bool true)) := ⟨u, by rw [← upd_self hu4]⟩
      clear hu4
      obtain ⟨y, rfl⟩ := hx
      simp only [upd, reduceIte, Nat.reduceEqDiff]
      exact .inr ⟨rfl, hK2 undef _ v5.symm hG0 (fun _ _ _ h => h)⟩
    | 6, ho =>
      simp at ho; subst ho
      have hu5 : u 5 = V 5 := hΦ 5 (hd ⟨5, .data⟩ (by simp) (by rfl))
      rw [v5] at hu5
      have hu4 : u 4 = V 4 := hΦ 4 (hd ⟨4, .guard⟩ (by simp) (by rfl))
      rw [v4] at hu4
      clear hΦ hd
      have hG0 := hG
      have hx : ∃ y, u = (upd (upd y 5 (undef)) 4 (.bool true)) := ⟨u, by rw [← upd_self hu5, ← upd_self hu4]⟩
      clear hu5 hu4
      obtain ⟨y, rfl⟩ := hx
      simp only [upd, reduceIte, Nat.reduceEqDiff]
      exact .inr ⟨rfl, hK2 undef _ v6.symm hG0 (fun _ _ _ h => h)⟩
    | 7, ho =>
      simp at ho; subst ho
      have hu6 : u 6 = V 6 := hΦ 6 (hd ⟨6, .data⟩ (by simp) (by rfl))
      rw [v6] at hu6
      have hu4 : u 4 = V 4 := hΦ 4 (hd ⟨4, .guard⟩ (by simp) (by rfl))
      rw [v4] at hu4
      clear hΦ hd
      have hG0 := hG
      have hx : ∃ y, u = (upd (upd y 6 (undef)) 4 (.bool true)) := ⟨u, by rw [← upd_self hu6, ← upd_self hu4]⟩
      clear hu6 hu4
      obtain ⟨y, rfl⟩ := hx
      simp only [upd, reduceIte, Nat.reduceEqDiff]
      exact .inr ⟨rfl, hK2 undef _ v7.symm hG0 (fun _ _ _ h => h)⟩
    | 8, ho =>
      simp at ho; subst ho
      have hu7 : u 7 = V 7 := hΦ 7 (hd ⟨7, .data⟩ (by simp) (by rfl))
      rw [v7] at hu7
      have hu4 : u 4 = V 4 := hΦ 4 (hd ⟨4, .guard⟩ (by simp) (by rfl))
      rw [v4] at hu4
      clear hΦ hd
      have hG0 := hG
      have hx : ∃ y, u = (upd (upd y 7 (undef)) 4 (.bool true)) := ⟨u, by rw [← upd_self hu7, ← upd_self hu4]⟩
      clear hu7 hu4
      obtain ⟨y, rfl⟩ := hx
      simp only [upd, reduceIte, Nat.reduceEqDiff]
      exact .inr ⟨rfl, hK2 undef _ v8.symm hG0 (fun _ _ _ h => h)⟩
    | 9, ho =>
      simp at ho; subst ho
      have hu4 : u 4 = V 4 := hΦ 4 (hd ⟨4, .data⟩ (by simp) (by rfl))
      rw [v4] at hu4
      have hu8 : u 8 = V 8 := hΦ 8 (hd ⟨8, .data⟩ (by simp) (by rfl))
      rw [v8] at hu8
      clear hΦ hd
      have hG0 := hG
      have hx : ∃ y, u = (upd (upd y 4 (.bool true)) 8 (undef)) := ⟨u, by rw [← upd_self hu4, ← upd_self hu8]⟩
      clear hu4 hu8
      obtain ⟨y, rfl⟩ := hx
      simp only [upd, reduceIte, Nat.reduceEqDiff]
      refine .inl ⟨rfl, ?_⟩
      go_simp
      exact hK2 _ _ v9.symm hG0 (fun _ _ _ h => h)
    | 10, ho =>
      simp at ho; subst ho
      have hu9 : u 9 = V 9 := hΦ 9 (hd ⟨9, .data⟩ (by simp) (by rfl))
      rw [v9] at hu9
      clear hΦ hd
      have hG0 := hG
      have hx : ∃ y, u = (upd y 9 (.bool true)) := ⟨u, by rw [← upd_self hu9]⟩
      clear hu9
      obtain ⟨y, rfl⟩ := hx
      simp only [upd, reduceIte, Nat.reduceEqDiff]
      refine .inl ⟨rfl, ?_⟩
      go_simp
      exact hK2 _ _ v10.symm hG0 (fun _ _ _ h => h)
    | 11, ho =>
      simp at ho; subst ho
      have hu10 : u 10 = V 10 := hΦ 10 (hd ⟨10, .guard⟩ (by simp) (by rfl))
      rw [v10] at hu10
      clear hΦ hd
      have hG0 := hG
      have hx : ∃ y, u = (upd y 10 (.bool true)) := ⟨u, by rw [← upd_self hu10]⟩
      clear hu10
      obtain ⟨y, rfl⟩ := hx
      simp only [upd, reduceIte, Nat.reduceEqDiff]
      exact .inr ⟨rfl, hK2 undef _ v11.symm hG0 (fun _ _ _ h => h)⟩
    | 12, ho =>
      simp at ho; subst ho
      have hu11 : u 11 = V 11 := hΦ 11 (hd ⟨11, .data⟩ (by simp) (by rfl))
      rw [v11] at hu11
      have hu10 : u 10 = V 10 := hΦ 10 (hd ⟨10, .guard⟩ (by simp) (by rfl))
      rw [v10] at hu10
      clear hΦ hd
      have hG0 := hG
      have hx : ∃ y, u = (upd (upd y 11 (undef)) 10 (.bool true)) := ⟨u, by rw [← upd_self hu11, ← upd_self hu10]⟩
      clear hu11 hu10
      obtain ⟨y, rfl⟩ := hx
      simp only [upd, reduceIte, Nat.reduceEqDiff]
      exact .inr ⟨rfl, hK2 undef _ v12.symm hG0 (fun _ _ _ h => h)⟩
    | 13, ho =>
      simp at ho; subst ho
      have hu10 : u 10 = V 10 := hΦ 10 (hd ⟨10, .guard⟩ (by simp) (by rfl))
      rw [v10] at hu10
      clear hΦ hd
      have hG0 := hG
      have hx : ∃ y, u = (upd y 10 (.bool true)) := ⟨u, by rw [← upd_self hu10]⟩
      clear hu10
      obtain ⟨y, rfl⟩ := hx
      simp only [upd, reduceIte, Nat.reduceEqDiff]
      exact .inr ⟨rfl, hK2 undef _ v13.symm hG0 (fun _ _ _ h => h)⟩
    | 14, ho =>
      simp at ho; subst ho
      have hu13 : u 13 = V 13 := hΦ 13 (hd ⟨13, .data⟩ (by simp) (by rfl))
      rw [v13] at hu13
      have hu10 : u 10 = V 10 := hΦ 10 (hd ⟨10, .guard⟩ (by simp) (by rfl))
      rw [v10] at hu10
      clear hΦ hd
      have hG0 := hG
      have hx : ∃ y, u = (upd (upd y 13 (undef)) 10 (.bool true)) := ⟨u, by rw [← upd_self hu13, ← upd_self hu10]⟩
      clear hu13 hu10
      obtain ⟨y, rfl⟩ := hx
      simp only [upd, reduceIte, Nat.reduceEqDiff]
      exact .inr ⟨rfl, hK2 undef _ v14.symm hG0 (fun _ _ _ h => h)⟩
    | 15, ho =>
      simp at ho; subst ho
      have hu14 : u 14 = V 14 := hΦ 14 (hd ⟨14, .data⟩ (by simp) (by rfl))
      rw [v14] at hu14
      have hu10 : u 10 = V 10 := hΦ 10 (hd ⟨10, .guard⟩ (by simp) (by rfl))
      rw [v10] at hu10
      clear hΦ hd
      have hG0 := hG
      have hx : ∃ y, u = (upd (upd y 14 (undef)) 10 (.bool true)) := ⟨u, by rw [← upd_self hu14, ← upd_self hu10]⟩
      clear hu14 hu10
      obtain ⟨y, rfl⟩ := hx
      simp only [upd, reduceIte, Nat.reduceEqDiff]
      exact .inr ⟨rfl, hK2 undef _ v15.symm hG0 (fun _ _ _ h => h)⟩
    | 16, ho =>
      simp at ho; subst ho
      have hu12 : u 12 = V 12 := hΦ 12 (hd ⟨12, .data⟩ (by simp) (by rfl))
      rw [v12] at hu12
      have hu15 : u 15 = V 15 := hΦ 15 (hd ⟨15, .data⟩ (by simp) (by rfl))
      rw [v15] at hu15
      have hu10 : u 10 = V 10 := hΦ 10 (hd ⟨10, .guard⟩ (by simp) (by rfl))
      rw [v10] at hu10
      clear hΦ hd
      have hG0 := hG
      have hx : ∃ y, u = (upd (upd (upd y 12 (undef)) 15 (undef)) 10 (.bool true)) := ⟨u, by rw [← upd_self hu12, ← upd_self hu15, ← upd_self hu10]⟩
      clear hu12 hu15 hu10
      obtain ⟨y, rfl⟩ := hx
      simp only [upd, reduceIte, Nat.reduceEqDiff]
      exact .inr ⟨rfl, hK2 undef _ v16.symm hG0 (fun _ _ _ h => h)⟩
    | 17, ho =>
      simp at ho; subst ho
      have hu10 : u 10 = V 10 := hΦ 10 (hd ⟨10, .data⟩ (by simp) (by rfl))
      rw [v10] at hu10
      have hu16 : u 16 = V 16 := hΦ 16 (hd ⟨16, .data⟩ (by simp) (by rfl))
      rw [v16] at hu16
      clear hΦ hd
      have hG0 := hG
      have hx : ∃ y, u = (upd (upd y 10 (.bool true)) 16 (undef)) := ⟨u, by rw [← upd_self hu10, ← upd_self hu16]⟩
      clear hu10 hu16
      obtain ⟨y, rfl⟩ := hx
      simp only [upd, reduceIte, Nat.reduceEqDiff]
      refine .inl ⟨rfl, ?_⟩
      go_simp
      exact hK2 _ _ v17.symm hG0 (fun _ _ _ h => h)
    | 18, ho =>
      simp at ho; subst ho
      have hu17 : u 17 = V 17 := hΦ 17 (hd ⟨17, .data⟩ (by simp) (by rfl))
      rw [v17] at hu17
      clear hΦ hd
      have hG0 := hG
      have hx : ∃ y, u = (upd y 17 (.bool true)) := ⟨u, by rw [← upd_self hu17]⟩
      clear hu17
      obtain ⟨y, rfl⟩ := hx
      simp only [upd, reduceIte, Nat.reduceEqDiff]
      refine .inl ⟨rfl, ?_⟩
      go_simp
      exact hK2 _ _ v18.symm hG0 (fun _ _ _ h => h)
    | 19, ho =>
      simp at ho; subst ho
      have hu18 : u 18 = V 18 := hΦ 18 (hd ⟨18, .guard⟩ (by simp) (by rfl))
      rw [v18] at hu18
      clear hΦ hd
      have hG0 := hG
      have hx : ∃ y, u = (upd y 18 (.bool true)) := ⟨u, by rw [← upd_self hu18]⟩
      clear hu18
      obtain ⟨y, rfl⟩ := hx
      simp only [upd, reduceIte, Nat.reduceEqDiff]
      exact .inr ⟨rfl, hK2 undef _ v19.symm hG0 (fun _ _ _ h => h)⟩
    | 20, ho =>
      simp at ho; subst ho
      have hu19 : u 19 = V 19 := hΦ 19 (hd ⟨19, .data⟩ (by simp) (by rfl))
      rw [v19] at hu19
      have hu18 : u 18 = V 18 := hΦ 18 (hd ⟨18, .guard⟩ (by simp) (by rfl))
      rw [v18] at hu18
      clear hΦ hd
      have hG0 := hG
      have hx : ∃ y, u = (upd (upd y 19 (undef)) 18 (.bool true)) := ⟨u, by rw [← upd_self hu19, ← upd_self hu18]⟩
      clear hu19 hu18
      obtain ⟨y, rfl⟩ := hx
      simp only [upd, reduceIte, Nat.reduceEqDiff]
      exact .inr ⟨rfl, hK2 undef _ v20.symm hG0 (fun _ _ _ h => h)⟩
    | 21, ho =>
      simp at ho; subst ho
      have hu18 : u 18 = V 18 := hΦ 18 (hd ⟨18, .guard⟩ (by simp) (by rfl))
      rw [v18] at hu18
      clear hΦ hd
      have hG0 := hG
      have hx : ∃ y, u = (upd y 18 (.bool true)) := ⟨u, by rw [← upd_self hu18]⟩
      clear hu18
      obtain ⟨y, rfl⟩ := hx
      simp only [upd, reduceIte, Nat.reduceEqDiff]
      exact .inr ⟨rfl, hK2 undef _ v21.symm hG0 (fun _ _ _ h => h)⟩
    | 22, ho =>
      simp at ho; subst ho
      have hu20 : u 20 = V 20 := hΦ 20 (hd ⟨20, .data⟩ (by simp) (by rfl))
      rw [v20] at hu20
      have hu21 : u 21 = V 21 := hΦ 21 (hd ⟨21, .data⟩ (by simp) (by rfl))
      rw [v21] at hu21
      have hu18 : u 18 = V 18 := hΦ 18 (hd ⟨18, .guard⟩ (by simp) (by rfl))
      rw [v18] at hu18
      clear hΦ hd
      have hG0 := hG
      have hx : ∃ y, u = (upd (upd (upd y 20 (undef)) 21 (undef)) 18 (.bool true)) := ⟨u, by rw [← upd_self hu20, ← upd_self hu21, ← upd_self hu18]⟩
      clear hu20 hu21 hu18
      obtain ⟨y, rfl⟩ := hx
      simp only [upd, reduceIte, Nat.reduceEqDiff]
      exact .inr ⟨rfl, hK2 undef _ v22.symm hG0 (fun _ _ _ h => h)⟩
    | 23, ho =>
      simp at ho; subst ho
      have hu18 : u 18 = V 18 := hΦ 18 (hd ⟨18, .guard⟩ (by simp) (by rfl))
      rw [v18] at hu18
      clear hΦ hd
      have hG0 := hG
      have hx : ∃ y, u = (upd y 18 (.bool true)) := ⟨u, by rw [← upd_self hu18]⟩
      clear hu18
      obtain ⟨y, rfl⟩ := hx
      simp only [upd, reduceIte, Nat.reduceEqDiff]
      exact .inr ⟨rfl, hK2 undef _ v23.symm hG0 (fun _ _ _ h => h)⟩
    | 24, ho =>
      simp at ho; subst ho
      have hu23 : u 23 = V 23 := hΦ 23 (hd ⟨23, .data⟩ (by simp) (by rfl))
      rw [v23] at hu23
      have hu18 : u 18 = V 18 := hΦ 18 (hd ⟨18, .guard⟩ (by simp) (by rfl))
      rw [v18] at hu18
      clear hΦ hd
      have hG0 := hG
      have hx : ∃ y, u = (upd (upd y 23 (undef)) 18 (.bool true)) := ⟨u, by rw [← upd_self hu23, ← upd_self hu18]⟩
      clear hu23 hu18
      obtain ⟨y, rfl⟩ := hx
      simp only [upd, reduceIte, Nat.reduceEqDiff]
      exact .inr ⟨rfl, hK2 undef _ v24.symm hG0 (fun _ _ _ h => h)⟩
    | 25, ho =>
      simp at ho; subst ho
      have hu22 : u 22 = V 22 := hΦ 22 (hd ⟨22, .data⟩ (by simp) (by rfl))
      rw [v22] at hu22
      have hu24 : u 24 = V 24 := hΦ 24 (hd ⟨24, .data⟩ (by simp) (by rfl))
      rw [v24] at hu24
      have hu18 : u 18 = V 18 := hΦ 18 (hd ⟨18, .guard⟩ (by simp) (by rfl))
      rw [v18] at hu18
      clear hΦ hd
      have hG0 := hG
      have hx : ∃ y, u = (upd (upd (upd y 22 (undef)) 24 (undef)) 18 (.bool true)) := ⟨u, by rw [← upd_self hu22, ← upd_self hu24, ← upd_self hu18]⟩
      clear hu22 hu24 hu18
      obtain ⟨y, rfl⟩ := hx
      simp only [upd, reduceIte, Nat.reduceEqDiff]
      exact .inr ⟨rfl, hK2 undef _ v25.symm hG0 (fun _ _ _ h => h)⟩
    | 26, ho =>
      simp at ho; subst ho
      have hu18 : u 18 = V 18 := hΦ 18 (hd ⟨18, .data⟩ (by simp) (by rfl))
      rw [v18] at hu18
      have hu25 : u 25 = V 25 := hΦ 25 (hd ⟨25, .data⟩ (by simp) (by rfl))
      rw [v25] at hu25
      clear hΦ hd
      have hG0 := hG
      have hx : ∃ y, u = (upd (upd y 18 (.bool true)) 25 (undef)) := ⟨u, by rw [← upd_self hu18, ← upd_self hu25]⟩
      clear hu18 hu25
      obtain ⟨y, rfl⟩ := hx
      simp only [upd, reduceIte, Nat.reduceEqDiff]
      refine .inl ⟨rfl, ?_⟩
      go_simp
      exact hK2 _ _ v26.symm hG0 (fun _ _ _ h => h)
  · rintro u w3 hu L hall hG
    have hG0 := hG
    have ho70 : u 26 = V 26 := hu 26 (by decide)
    rw [v26] at ho70
    exact HK.out _ _ ⟨rfl, rfl⟩ (KpU.cons (rfl) (KpU.cons (h1.symm) (KpU.cons (rfl) (KpU.cons (rfl) (KpU.cons (rfl) (KpU.cons (h5.symm) (KpU.cons (h6.symm) (KpU.cons (rfl) (KpU.cons (rfl) (KpU.cons (rfl) (KpU.cons (rfl) (KpU.cons (rfl) (KpU.cons (rfl) (KpU.cons (rfl) (KpU.cons (rfl) (KpU.cons (rfl) (KpU.cons (rfl) (KpU.cons (rfl) (KpU.cons (rfl) (KpU.cons (rfl) (KpU.cons (rfl) (KpU.cons (rfl) (KpU.cons (rfl) (KpU.cons (rfl) (KpU.cons (rfl) (KpU.cons (rfl) (KpU.cons (rfl) (KpU.cons (rfl) (KpU.cons (rfl) (KpU.cons (rfl) (KpU.cons (rfl) (KpU.cons (rfl) (KpU.cons (rfl) (KpU.cons (rfl) (KpU.cons (rfl) (KpU.cons (rfl) (KpU.cons (rfl) (KpU.cons (rfl) (KpU.cons (rfl) (KpU.cons (rfl) (KpU.cons (rfl) (KpU.cons (rfl) (KpU.cons (rfl) (KpU.cons (rfl) (KpU.cons (rfl) (KpU.cons (rfl) (KpU.cons (rfl) (KpU.cons (rfl) (KpU.cons (rfl) (KpU.cons (rfl) (KpU.cons (rfl) (KpU.cons (rfl) (KpU.cons (rfl) (KpU.cons (rfl) (KpU.cons (rfl) (KpU.cons (rfl) (KpU.cons (rfl) (KpU.cons (rfl) (KpU.cons (rfl) (KpU.cons (rfl) (KpU.cons (rfl) (KpU.cons (rfl) (KpU.cons (rfl) (KpU.cons (rfl) (KpU.cons (rfl) (KpU.cons (rfl) (KpU.cons (rfl) (KpU.cons (rfl) (KpU.cons (rfl) (KpU.cons (rfl) (KpU.cons (rfl) (KpU.cons (rfl) (KpU.cons (rfl) (KpU.cons (rfl) (KpU.cons (rfl) (KpU.cons (rfl) (KpU.cons (rfl) (KpU.cons (rfl) (KpU.cons (rfl) (KpU.cons (rfl) (KpU.cons (rfl) (KpU.cons (rfl) (KpU.cons (rfl) (KpU.cons (rfl) (KpU.cons (rfl) (KpU.cons (rfl) (KpU.cons (rfl) (KpU.cons (rfl) (KpU.nil _ _))))))))))))))))))))))))))))))))))))))))))))))))))))))))))))))))))))))))))))))))))))))))) ho70 hG0

set_option maxRecDepth 20000 in
set_option maxHeartbeats 1000000 in
theorem tfR15b (g gm n k cap op bk : Nat) (A : Option Addr) (tx dt : List UInt8) (b4 : List FldD) (nm vl : List UInt8) (a : Act) (w : World) (K : Exit → Act → World → Prop) (hs : Sz 115 a)
    (h1 : sl a 1 = .pointer (some ⟨gm, 0, none⟩)) (h5 : sl a 5 = .int .i64 (k : Int)) (h6 : sl a 6 = .pointer (some ⟨g, 0, none⟩)) (hT : Tabs w) (hnl : nm.length ≤ 1099511627) (hvl : vl.length ≤ 1099511627) (hkn : k < n) (hnc : n ≤ cap) (hnn : n ≤ 4611686018427387904) (ha : wordB nm = true) (hv : wordB vl = false) (hA : SlR w noB 2 A k (fldC b4)) (hfb : Bk w g 83 #[.string (bs nm), .string (bs vl)]) (hmb : Bk w gm 81 #[.int .u16 (op : Int), .int .u16 (bk : Int), .string (bs tx), .string (bs dt), .slice A n cap])
    (hK : ∀ a' w', Sz 115 a' → Kp [0, 1, 2, 3, 4, 5, 6, 7, 8, 9, 10, 11, 12, 13, 14, 15, 16, 17, 18, 19, 20, 21, 22, 23, 24, 25, 26, 27, 28, 29, 30, 31, 32, 33, 34, 35, 36, 37, 38, 39, 40, 41, 42, 43, 71, 72, 73, 74, 75, 76, 77, 78, 79, 80, 81, 82, 83, 84, 85, 86, 87, 88, 89, 90, 91, 92, 93, 94, 95, 96, 97, 98, 99, 100, 101, 102, 103, 104, 105, 106, 107, 108, 109, 110, 111, 112, 113, 114] a a' → sl a' 70 = .bool true → Fr noB w w' → K .normal a' w') :
    (regionOf Tryz.f83 15).wp Tryz.prog K a w := by
  have hK2 : ∀ a' w', Sz 115 a' → KpU [0, 1, 2, 3, 4, 5, 6, 7, 8, 9, 10, 11, 12, 13, 14, 15, 16, 17, 18, 19, 20, 21, 22, 23, 24, 25, 26, 27, 28, 29, 30, 31, 32, 33, 34, 35, 36, 37, 38, 39, 40, 41, 42, 43, 71, 72, 73, 74, 75, 76, 77, 78, 79, 80, 81, 82, 83, 84, 85, 86, 87, 88, 89, 90, 91, 92, 93, 94, 95, 96, 97, 98, 99, 100, 101, 102, 103, 104, 105, 106, 107, 108, 109, 110, 111, 112, 113, 114] (sl a) a' → sl a' 70 = .bool true → Fr noB w w' → K .normal a' w' := hK
  clear hK
  rw [tfW_of hs]
  clear hs
  generalize sl a = z at *
  clear a
  have HK := Lib.hid hK2
  clear hK2
  conv => arg 2; whnf
  simp only [tfW, h1, h5, h6]
  obtain ⟨V, hV⟩ : ∃ V : Nat → Value, V = (fun j => match j with | 0 => .pointer (some ⟨g, 0, none⟩) | 1 => .string (bs nm) | 2 => .bool true | 3 => .bool false | 4 => .bool false | 5 => .pointer (some ⟨g, 1, none⟩) | 6 => .string (bs vl) | 7 => .bool false | 8 => .bool true | 9 => .bool true | 10 => .bool true | 11 => undef | 12 => undef | 13 => undef | 14 => undef | 15 => undef | 16 => undef | 17 => .bool true | 18 => .bool true | 19 => undef | 20 => undef | 21 => undef | 22 => undef | 23 => undef | 24 => undef | 25 => undef | 26 => .bool true | _ => undef) := ⟨_, rfl⟩
  have v0 : V 0 = .pointer (some ⟨g, 0, none⟩) := congrFun hV 0
  have v1 : V 1 = .string (bs nm) := congrFun hV 1
  have v2 : V 2 = .bool true := congrFun hV 2
  have v3 : V 3 = .bool false := congrFun hV 3
  have v4 : V 4 = .bool false := congrFun hV 4
  have v5 : V 5 = .pointer (some ⟨g, 1, none⟩) := congrFun hV 5
  have v6 : V 6 = .string (bs vl) := congrFun hV 6
  have v7 : V 7 = .bool false := congrFun hV 7
  have v8 : V 8 = .bool true := congrFun hV 8
  have v9 : V 9 = .bool true := congrFun hV 9
  have v10 : V 10 = .bool true := congrFun hV 10
  have v11 : V 11 = undef := congrFun hV 11
  have v12 : V 12 = undef := congrFun hV 12
  have v13 : V 13 = undef := congrFun hV 13
  have v14 : V 14 = undef := congrFun hV 14
  have v15 : V 15 = undef := congrFun hV 15
  have v16 : V 16 = undef := congrFun hV 16
  have v17 : V 17 = .bool true := congrFun hV 17
  have v18 : V 18 = .bool true := congrFun hV 18
  have v19 : V 19 = undef := congrFun hV 19
  have v20 : V 20 = undef := congrFun hV 20
  have v21 : V 21 = undef := congrFun hV 21
  have v22 : V 22 = undef := congrFun hV 22
  have v23 : V 23 = undef := congrFun hV 23
  have v24 : V 24 = undef := congrFun hV 24
  have v25 : V 25 = undef := congrFun hV 25
  have v26 : V 26 = .bool true := congrFun hV 26
  clear hV
  refine wp_region_ssag (by kernel_rfl) (by kernel_rfl)
    (fun u => ⟨List.toArray ((z 0) :: (.pointer (some ⟨gm, 0, none⟩)) :: (z 2) :: (z 3) :: (z 4) :: (.int .i64 (k : Int)) :: (.pointer (some ⟨g, 0, none⟩)) :: (z 7) :: (z 8) :: (z 9) :: (z 10) :: (z 11) :: (z 12) :: (z 13) :: (z 14) :: (z 15) :: (z 16) :: (z 17) :: (z 18) :: (z 19) :: (z 20) :: (z 21) :: (z 22) :: (z 23) :: (z 24) :: (z 25) :: (z 26) :: (z 27) :: (z 28) :: (z 29) :: (z 30) :: (z 31) :: (z 32) :: (z 33) :: (z 34) :: (z 35) :: (z 36) :: (z 37) :: (z 38) :: (z 39) :: (z 40) :: (z 41) :: (z 42) :: (z 43) :: (u 0) :: (u 1) :: (u 2) :: (u 3) :: (u 4) :: (u 5) :: (u 6) :: (u 7) :: (u 8) :: (u 9) :: (u 10) :: (u 11) :: (u 12) :: (u 13) :: (u 14) :: (u 15) :: (u 16) :: (u 17) :: (u 18) :: (u 19) :: (u 20) :: (u 21) :: (u 22) :: (u 23) :: (u 24) :: (u 25) :: (u 26) :: (z 71) :: (z 72) :: (z 73) :: (z 74) :: (z 75) :: (z 76) :: (z 77) :: (z 78) :: (z 79) :: (z 80) :: (z 81) :: (z 82) :: (z 83) :: (z 84) :: (z 85) :: (z 86) :: (z 87) :: (z 88) :: (z 89) :: (z 90) :: (z 91) :: (z 92) :: (z 93) :: (z 94) :: (z 95) :: (z 96) :: (z 97) :: (z 98) :: (z 99) :: (z 100) :: (z 101) :: (z 102) :: (z 103) :: (z 104) :: (z 105) :: (z 106) :: (z 107) :: (z 108) :: (z 109) :: (z 110) :: (z 111) :: (z 112) :: (z 113) :: (z 114) :: []), []⟩)
    (fun j v w3 => v = V j)
    (fun L u w3 => Fr noB w w3) (fun j => if j = 0 then z 44 else if j = 1 then z 45 else if j = 2 then z 46 else if j = 3 then z 47 else if j = 4 then z 48 else if j = 5 then z 49 else if j = 6 then z 50 else if j = 7 then z 51 else if j = 8 then z 52 else if j = 9 then z 53 else if j = 10 then z 54 else if j = 11 then z 55 else if j = 12 then z 56 else if j = 13 then z 57 else if j = 14 then z 58 else if j = 15 then z 59 else if j = 16 then z 60 else if j = 17 then z 61 else if j = 18 then z 62 else if j = 19 then z 63 else if j = 20 then z 64 else if j = 21 then z 65 else if j = 22 then z 66 else if j = 23 then z 67 else if j = 24 then z 68 else if j = 25 then z 69 else if j = 26 then z 70 else undef) ((Fr.refl _ _).drew) ?_ ?_
  · rintro L u w3 i o hG hΦ ho hL hd K2 hK2
    match i, ho with
    | 0, ho =>
      simp at ho; subst ho
      clear hΦ hd
      have hG0 := hG
      refine .inl ⟨rfl, ?_⟩
      go_simp
      exact hK2 _ _ v0.symm hG0 (fun _ _ _ h => h)
    | 1, ho =>
      simp at ho; subst ho
      have hu0 : u 0 = V 0 := hΦ 0 (hd ⟨0, .data⟩ (by simp) (by rfl))
      rw [v0] at hu0
      clear hΦ hd
      have hG0 := hG
      have hx : ∃ y, u = (upd y 0 (.pointer (some ⟨g, 0, none⟩))) := ⟨u, by rw [← upd_self hu0]⟩
      clear hu0
      obtain ⟨y, rfl⟩ := hx
      simp only [upd, reduceIte, Nat.reduceEqDiff]
      refine .inl ⟨rfl, ?_⟩
      have hc0 := ((hfb).keep hG0 (fun x => x)).cells
      go_simp
      exact hK2 _ _ v1.symm hG0 (fun _ _ _ h => h)
    | 2, ho =>
      simp at ho; subst ho
      have hu1 : u 1 = V 1 := hΦ 1 (hd ⟨1, .data⟩ (by simp) (by rfl))
      rw [v1] at hu1
      clear hΦ hd
      have hG0 := hG
      have hx : ∃ y, u = (upd y 1 (.string (bs nm))) := ⟨u, by rw [← upd_self hu1]⟩
      clear hu1
      obtain ⟨y, rfl⟩ := hx
      simp only [upd, reduceIte, Nat.reduceEqDiff]
      refine .inl ⟨rfl, ?_⟩
      go_simp
      refine (tftpAscii nm _ (by omega)).mono ?_
      rintro e w4 ⟨rfl, rfl⟩
      rw [ha]
      exact hK2 _ _ v2.symm hG0 (fun _ _ _ h => h)
    | 3, ho =>
      simp at ho; subst ho
      have hu2 : u 2 = V 2 := hΦ 2 (hd ⟨2, .data⟩ (by simp) (by rfl))
      rw [v2] at hu2
      clear hΦ hd
      have hG0 := hG
      have hx : ∃ y, u = (upd y 2 (.bool true)) := ⟨u, by rw [← upd_self hu2]⟩
      clear hu2
      obtain ⟨y, rfl⟩ := hx
      simp only [upd, reduceIte, Nat.reduceEqDiff]
      refine .inl ⟨rfl, ?_⟩
      go_simp
      exact hK2 _ _ v3.symm hG0 (fun _ _ _ h => h)
    | 4, ho =>
      simp at ho; subst ho
      have hu3 : u 3 = V 3 := hΦ 3 (hd ⟨3, .data⟩ (by simp) (by rfl))
      rw [v3] at hu3
      clear hΦ hd
      have hG0 := hG
      have hx : ∃ y, u = (upd y 3 (.bool false)) := ⟨u, by rw [← upd_self hu3]⟩
      clear hu3
      obtain ⟨y, rfl⟩ := hx
      simp only [upd, reduceIte, Nat.reduceEqDiff]
      refine .inl ⟨rfl, ?_⟩
      go_simp
      exact hK2 _ _ v4.symm hG0 (fun _ _ _ h => h)
    | 5, ho =>
      simp at ho; subst ho
      have hu4 : u 4 = V 4 := hΦ 4 (hd ⟨4, .guard⟩ (by simp) (by rfl))
      rw [v4] at hu4
      clear hΦ hd
      have hG0 := hG
      have hx : ∃ y, u = (upd y 4 (.bool false)) := ⟨u, by rw [← upd_self hu4]⟩
      clear hu4
      obtain ⟨y, rfl⟩ := hx
      simp only [upd, reduceIte, Nat.reduceEqDiff]
      refine .inl ⟨rfl, ?_⟩
      go_simp
      exact hK2 _ _ v5.symm hG0 (fun _ _ _ h => h)
    | 6, ho =>
      simp at ho; subst ho
      have hu5 : u 5 = V 5 := hΦ 5 (hd ⟨5, .data⟩ (by simp) (by rfl))
      rw [v5] at hu5
      have hu4 : u 4 = V 4 := hΦ 4 (hd ⟨4, .guard⟩ (by simp) (by rfl))
      rw [v4] at hu4
      clear hΦ hd
      have hG0 := hG
      have hx : ∃ y, u = (upd (upd y 5 (.pointer (some ⟨g, 1, none⟩))) 4 (.bool false)) := ⟨u, by rw [← upd_self hu5, ← upd_self hu4]⟩
      clear hu5 hu4
      obtain ⟨y, rfl⟩ := hx
      simp only [upd, reduceIte, Nat.reduceEqDiff]
      refine .inl ⟨rfl, ?_⟩
      have hc0 := ((hfb).keep hG0 (fun x => x)).cells
      go_simp
      exact hK2 _ _ v6.symm hG0 (fun _ _ _ h => h)
    | 7, ho =>
      simp at ho; subst ho
      have hu6 : u 6 = V 6 := hΦ 6 (hd ⟨6, .data⟩ (by simp) (by rfl))
      rw [v6] at hu6
      have hu4 : u 4 = V 4 := hΦ 4 (hd ⟨4, .guard⟩ (by simp) (by rfl))
      rw [v4] at hu4
      clear hΦ hd
      have hG0 := hG
      have hx : ∃ y, u = (upd (upd y 6 (.string (bs vl))) 4 (.bool false)) := ⟨u, by rw [← upd_self hu6, ← upd_self hu4]⟩
      clear hu6 hu4
      obtain ⟨y, rfl⟩ := hx
      simp only [upd, reduceIte, Nat.reduceEqDiff]
      refine .inl ⟨rfl, ?_⟩
      go_simp
      refine (tftpAscii vl _ (by omega)).mono ?_
      rintro e w4 ⟨rfl, rfl⟩
      rw [hv]
      exact hK2 _ _ v7.symm hG0 (fun _ _ _ h => h)
    | 8, ho =>
      simp at ho; subst ho
      have hu7 : u 7 = V 7 := hΦ 7 (hd ⟨7, .data⟩ (by simp) (by rfl))
      rw [v7] at hu7
      have hu4 : u 4 = V 4 := hΦ 4 (hd ⟨4, .guard⟩ (by simp) (by rfl))
      rw [v4] at hu4
      clear hΦ hd
      have hG0 := hG
      have hx : ∃ y, u = (upd (upd y 7 (.bool false)) 4 (.bool false)) := ⟨u, by rw [← upd_self hu7, ← upd_self hu4]⟩
      clear hu7 hu4
      obtain ⟨y, rfl⟩ := hx
      simp only [upd, reduceIte, Nat.reduceEqDiff]
      refine .inl ⟨rfl, ?_⟩
      go_simp
      exact hK2 _ _ v8.symm hG0 (fun _ _ _ h => h)
    | 9, ho =>
      simp at ho; subst ho
      have hu4 : u 4 = V 4 := hΦ 4 (hd ⟨4, .data⟩ (by simp) (by rfl))
      rw [v4] at hu4
      have hu8 : u 8 = V 8 := hΦ 8 (hd ⟨8, .data⟩ (by simp) (by rfl))
      rw [v8] at hu8
      clear hΦ hd
      have hG0 := hG
      have hx : ∃ y, u = (upd (upd y 4 (.bool false)) 8 (.bool true)) := ⟨u, by rw [← upd_self hu4, ← upd_self hu8]⟩
      clear hu4 hu8
      obtain ⟨y, rfl⟩ := hx
      simp only [upd, reduceIte, Nat.reduceEqDiff]
      refine .inl ⟨rfl, ?_⟩
      go_simp
      exact hK2 _ _ v9.symm hG0 (fun _ _ _ h => h)
    | 10, ho =>
      simp at ho; subst ho
      have hu9 : u 9 = V 9 := hΦ 9 (hd ⟨9, .data⟩ (by simp) (by rfl))
      rw [v9] at hu9
      clear hΦ hd
      have hG0 := hG
      have hx : ∃ y, u = (upd y 9 (.bool true)) := ⟨u, by rw [← upd_self hu9]⟩
      clear hu9
      obtain ⟨y, rfl⟩ := hx
      simp only [upd, reduceIte, Nat.reduceEqDiff]
      refine .inl ⟨rfl, ?_⟩
      go_simp
      exact hK2 _ _ v10.symm hG0 (fun _ _ _ h => h)
    | 11, ho =>
      simp at ho; subst ho
      have hu10 : u 10 = V 10 := hΦ 10 (hd ⟨10, .guard⟩ (by simp) (by rfl))
      rw [v10] at hu10
      clear hΦ hd
      have hG0 := hG
      have hx : ∃ y, u = (upd y 10 (.bool true)) := ⟨u, by rw [← upd_self hu10]⟩
      clear hu10
      obtain ⟨y, rfl⟩ := hx
      simp only [upd, reduceIte, Nat.reduceEqDiff]
      exact .inr ⟨rfl, hK2 undef _ v11.symm hG0 (fun _ _ _ h => h)⟩
    | 12, ho =>
      simp at ho; subst ho
      have hu11 : u 11 = V 11 := hΦ 11 (hd ⟨11, .data⟩ (by simp) (by rfl))
      rw [v11] at hu11
      have hu10 : u 10 = V 10 := hΦ 10 (hd ⟨10, .guard⟩ (by simp) (by rfl))
      rw [v10] at hu10
      clear hΦ hd
      have hG0 := hG
      have hx : ∃ y, u = (upd (upd y 11 (undef)) 10 (.bool true)) := ⟨u, by rw [← upd_self hu11, ← upd_self hu10]⟩
      clear hu11 hu10
      obtain ⟨y, rfl⟩ := hx
      simp only [upd, reduceIte, Nat.reduceEqDiff]
      exact .inr ⟨rfl, hK2 undef _ v12.symm hG0 (fun _ _ _ h => h)⟩
    | 13, ho =>
      simp at ho; subst ho
      have hu10 : u 10 = V 10 := hΦ 10 (hd ⟨10, .guard⟩ (by simp) (by rfl))
      rw [v10] at hu10
      clear hΦ hd
      have hG0 := hG
      have hx : ∃ y, u = (upd y 10 (.bool true)) := ⟨u, by rw [← upd_self hu10]⟩
      clear hu10
      obtain ⟨y, rfl⟩ := hx
      simp only [upd, reduceIte, Nat.reduceEqDiff]
      exact .inr ⟨rfl, hK2 undef _ v13.symm hG0 (fun _ _ _ h => h)⟩
    | 14, ho =>
      simp at ho; subst ho
      have hu13 : u 13 = V 13 := hΦ 13 (hd ⟨13, .data⟩ (by simp) (by rfl))
      rw [v13] at hu13
      have hu10 : u 10 = V 10 := hΦ 10 (hd ⟨10, .guard⟩ (by simp) (by rfl))
      rw [v10] at hu10
      clear hΦ hd
      have hG0 := hG
      have hx : ∃ y, u = (upd (upd y 13 (undef)) 10 (.bool true)) := ⟨u, by rw [← upd_self hu13, ← upd_self hu10]⟩
      clear hu13 hu10
      obtain ⟨y, rfl⟩ := hx
      simp only [upd, reduceIte, Nat.reduceEqDiff]
      exact .inr ⟨rfl, hK2 undef _ v14.symm hG0 (fun _ _ _ h => h)⟩
    | 15, ho =>
      simp at ho; subst ho
      have hu14 : u 14 = V 14 := hΦ 14 (hd ⟨14, .data⟩ (by simp) (by rfl))
      rw [v14] at hu14
      have hu10 : u 10 = V 10 := hΦ 10 (hd ⟨10, .guard⟩ (by simp) (by rfl))
      rw [v10] at hu10
      clear hΦ hd
      have hG0 := hG
      have hx : ∃ y, u = (upd (upd y 14 (undef)) 10 (.bool true)) := ⟨u, by rw [← upd_self hu14, ← upd_self hu10]⟩
      clear hu14 hu10
      obtain ⟨y, rfl⟩ := hx
      simp only [upd, reduceIte, Nat.reduceEqDiff]
      exact .inr ⟨rfl, hK2 undef _ v15.symm hG0 (fun _ _ _ h => h)⟩
    | 16, ho =>
      simp at ho; subst ho
      have hu12 : u 12 = V 12 := hΦ 12 (hd ⟨12, .data⟩ (by simp) (by rfl))
      rw [v12] at hu12
      have hu15 : u 15 = V 15 := hΦ 15 (hd ⟨15, .data⟩ (by simp) (by rfl))
      rw [v15] at hu15
      have hu10 : u 10 = V 10 := hΦ 10 (hd ⟨10, .guard⟩ (by simp) (by rfl))
      rw [v10] at hu10
      clear hΦ hd
      have hG0 := hG
      have hx : ∃ y, u = (upd (upd (upd y 12 (undef)) 15 (undef)) 10 (.bool true)) := ⟨u, by rw [← upd_self hu12, ← upd_self hu15, ← upd_self hu10]⟩
      clear hu12 hu15 hu10
      obtain ⟨y, rfl⟩ := hx
      simp only [upd, reduceIte, Nat.reduceEqDiff]
      exact .inr ⟨rfl, hK2 undef _ v16.symm hG0 (fun _ _ _ h => h)⟩
    | 17, ho =>
      simp at ho; subst ho
      have hu10 : u 10 = V 10 := hΦ 10 (hd ⟨10, .data⟩ (by simp) (by rfl))
      rw [v10] at hu10
      have hu16 : u 16 = V 16 := hΦ 16 (hd ⟨16, .data⟩ (by simp) (by rfl))
      rw [v16] at hu16
      clear hΦ hd
      have hG0 := hG
      have hx : ∃ y, u = (upd (upd y 10 (.bool true)) 16 (undef)) := ⟨u, by rw [← upd_self hu10, ← upd_self hu16]⟩
      clear hu10 hu16
      obtain ⟨y, rfl⟩ := hx
      simp only [upd, reduceIte, Nat.reduceEqDiff]
      refine .inl ⟨rfl, ?_⟩
      go_simp
      exact hK2 _ _ v17.symm hG0 (fun _ _ _ h => h)
    | 18, ho =>
      simp at ho; subst ho
      have hu17 : u 17 = V 17 := hΦ 17 (hd ⟨17, .data⟩ (by simp) (by rfl))
      rw [v17] at hu17
      clear hΦ hd
      have hG0 := hG
      have hx : ∃ y, u = (upd y 17 (.bool true)) := ⟨u, by rw [← upd_self hu17]⟩
      clear hu17
      obtain ⟨y, rfl⟩ := hx
      simp only [upd, reduceIte, Nat.reduceEqDiff]
      refine .inl ⟨rfl, ?_⟩
      go_simp
      exact hK2 _ _ v18.symm hG0 (fun _ _ _ h => h)
    | 19, ho =>
      simp at ho; subst ho
      have hu18 : u 18 = V 18 := hΦ 18 (hd ⟨18, .guard⟩ (by simp) (by rfl))
      rw [v18] at hu18
      clear hΦ hd
      have hG0 := hG
      have hx : ∃ y, u = (upd y 18 (.bool true)) := ⟨u, by rw [← upd_self hu18]⟩
      clear hu18
      obtain ⟨y, rfl⟩ := hx
      simp only [upd, reduceIte, Nat.reduceEqDiff]
      exact .inr ⟨rfl, hK2 undef _ v19.symm hG0 (fun _ _ _ h => h)⟩
    | 20, ho =>
      simp at ho; subst ho
      have hu19 : u 19 = V 19 := hΦ 19 (hd ⟨19, .data⟩ (by simp) (by rfl))
      rw [v19] at hu19
      have hu18 : u 18 = V 18 := hΦ 18 (hd ⟨18, .guard⟩ (by simp) (by rfl))
      rw [v18] at hu18
      clear hΦ hd
      have hG0 := hG
      have hx : ∃ y, u = (upd (upd y 19 (undef)) 18 (.bool true)) := ⟨u, by rw [← upd_self hu19, ← upd_self hu18]⟩
      clear hu19 hu18
      obtain ⟨y, rfl⟩ := hx
      simp only [upd, reduceIte, Nat.reduceEqDiff]
      exact .inr ⟨rfl, hK2 undef _ v20.symm hG0 (fun _ _ _ h => h)⟩
    | 21, ho =>
      simp at ho; subst ho
      have hu18 : u 18 = V 18 := hΦ 18 (hd ⟨18, .guard⟩ (by simp) (by rfl))
      rw [v18] at hu18
      clear hΦ hd
      have hG0 := hG
      have hx : ∃ y, u = (upd y 18 (.bool true)) := ⟨u, by rw [← upd_self hu18]⟩
      clear hu18
      obtain ⟨y, rfl⟩ := hx
      simp only [upd, reduceIte, Nat.reduceEqDiff]
      exact .inr ⟨rfl, hK2 undef _ v21.symm hG0 (fun _ _ _ h => h)⟩
    | 22, ho =>
      simp at ho; subst ho
      have hu20 : u 20 = V 20 := hΦ 20 (hd ⟨20, .data⟩ (by simp) (by rfl))
      rw [v20] at hu20
      have hu21 : u 21 = V 21 := hΦ 21 (hd ⟨21, .data⟩ (by simp) (by rfl))
      rw [v21] at hu21
      have hu18 : u 18 = V 18 := hΦ 18 (hd ⟨18, .guard⟩ (by simp) (by rfl))
      rw [v18] at hu18
      clear hΦ hd
      have hG0 := hG
      have hx : ∃ y, u = (upd (upd (upd y 20 (undef)) 21 (undef)) 18 (.bool true)) := ⟨u, by rw [← upd_self hu20, ← upd_self hu21, ← upd_self hu18]⟩
      clear hu20 hu21 hu18
      obtain ⟨y, rfl⟩ := hx
      simp only [upd, reduceIte, Nat.reduceEqDiff]
      exact .inr ⟨rfl, hK2 undef _ v22.symm hG0 (fun _ _ _ h => h)⟩
    | 23, ho =>
      simp at ho; subst ho
      have hu18 : u 18 = V 18 := hΦ 18 (hd ⟨18, .guard⟩ (by simp) (by rfl))
      rw [v18] at hu18
      clear hΦ hd
      have hG0 := hG
      have hx : ∃ y, u = (upd y 18 (.bool true)) := ⟨u, by rw [← upd_self hu18]⟩
      clear hu18
      obtain ⟨y, rfl⟩ := hx
      simp only [upd, reduceIte, Nat.reduceEqDiff]
      exact .inr ⟨rfl, hK2 undef _ v23.symm hG0 (fun _ _ _ h => h)⟩
    | 24, ho =>
      simp at ho; subst ho
      have hu23 : u 23 = V 23 := hΦ 23 (hd ⟨23, .data⟩ (by simp) (by rfl))
      rw [v23] at hu23
      have hu18 : u 18 = V 18 := hΦ 18 (hd ⟨18, .guard⟩ (by simp) (by rfl))
      rw [v18] at hu18
      clear hΦ hd
      have hG0 := hG
      have hx : ∃ y, u = (upd (upd y 23 (undef)) 18 (.bool true)) := ⟨u, by rw [← upd_self hu23, ← upd_self hu18]⟩
      clear hu23 hu18
      obtain ⟨y, rfl⟩ := hx
      simp only [upd, reduceIte, Nat.reduceEqDiff]
      exact .inr ⟨rfl, hK2 undef _ v24.symm hG0 (fun _ _ _ h => h)⟩
    | 25, ho =>
      simp at ho; subst ho
      have hu22 : u 22 = V 22 := hΦ 22 (hd ⟨22, .data⟩ (by simp) (by rfl))
      rw [v22] at hu22
      have hu24 : u 24 = V 24 := hΦ 24 (hd ⟨24, .data⟩ (by simp) (by rfl))
      rw [v24] at hu24
      have hu18 : u 18 = V 18 := hΦ 18 (hd ⟨18, .guard⟩ (by simp) (by rfl))
      rw [v18] at hu18
      clear hΦ hd
      have hG0 := hG
      have hx : ∃ y, u = (upd (upd (upd y 22 (undef)) 24 (undef)) 18 (.bool true)) := ⟨u, by rw [← upd_self hu22, ← upd_self hu24, ← upd_self hu18]⟩
      clear hu22 hu24 hu18
      obtain ⟨y, rfl⟩ := hx
      simp only [upd, reduceIte, Nat.reduceEqDiff]
      exact .inr ⟨rfl, hK2 undef _ v25.symm hG0 (fun _ _ _ h => h)⟩
    | 26, ho =>
      simp at ho; subst ho
      have hu18 : u 18 = V 18 := hΦ 18 (hd ⟨18, .data⟩ (by simp) (by rfl))
      rw [v18] at hu18
      have hu25 : u 25 = V 25 := hΦ 25 (hd ⟨25, .data⟩ (by simp) (by rfl))
      rw [v25] at hu25
      clear hΦ hd
      have hG0 := hG
      have hx : ∃ y, u = (upd (upd y 18 (.bool true)) 25 (undef)) := ⟨u, by rw [← upd_self hu18, ← upd_self hu25]⟩
      clear hu18 hu25
      obtain ⟨y, rfl⟩ := hx
      simp only [upd, reduceIte, Nat.reduceEqDiff]
      refine .inl ⟨rfl, ?_⟩
      go_simp
      exact hK2 _ _ v26.symm hG0 (fun _ _ _ h => h)
  · rintro u w3 hu L hall hG
    have hG0 := hG
    have ho70 : u 26 = V 26 := hu 26 (by decide)
    rw [v26] at ho70
    exact HK.out _ _ ⟨rfl, rfl⟩ (KpU.cons (rfl) (KpU.cons (h1.symm) (KpU.cons (rfl) (KpU.cons (rfl) (KpU.cons (rfl) (KpU.cons (h5.symm) (KpU.cons (h6.symm) (KpU.cons (rfl) (KpU.cons (rfl) (KpU.cons (rfl) (KpU.cons (rfl) (KpU.cons (rfl) (KpU.cons (rfl) (KpU.cons (rfl) (KpU.cons (rfl) (KpU.cons (rfl) (KpU.cons (rfl) (KpU.cons (rfl) (KpU.cons (rfl) (KpU.cons (rfl) (KpU.cons (rfl) (KpU.cons (rfl) (KpU.cons (rfl) (KpU.cons (rfl) (KpU.cons (rfl) (KpU.cons (rfl) (KpU.cons (rfl) (KpU.cons (rfl) (KpU.cons (rfl) (KpU.cons (rfl) (KpU.cons (rfl) (KpU.cons (rfl) (KpU.cons (rfl) (KpU.cons (rfl) (KpU.cons (rfl) (KpU.cons (rfl) (KpU.cons (rfl) (KpU.cons (rfl) (KpU.cons (rfl) (KpU.cons (rfl) (KpU.cons (rfl) (KpU.cons (rfl) (KpU.cons (rfl) (KpU.cons (rfl) (KpU.cons (rfl) (KpU.cons (rfl) (KpU.cons (rfl) (KpU.cons (rfl) (KpU.cons (rfl) (KpU.cons (rfl) (KpU.cons (rfl) (KpU.cons (rfl) (KpU.cons (rfl) (KpU.cons (rfl) (KpU.cons (rfl) (KpU.cons (rfl) (KpU.cons (rfl) (KpU.cons (rfl) (KpU.cons (rfl) (KpU.cons (rfl) (KpU.cons (rfl) (KpU.cons (rfl) (KpU.cons (rfl) (KpU.cons (rfl) (KpU.cons (rfl) (KpU.cons (rfl) (KpU.cons (rfl) (KpU.cons (rfl) (KpU.cons (rfl) (KpU.cons (rfl) (KpU.cons (rfl) (KpU.cons (rfl) (KpU.cons (rfl) (KpU.cons (rfl) (KpU.cons (rfl) (KpU.cons (rfl) (KpU.cons (rfl) (KpU.cons (rfl) (KpU.cons (rfl) (KpU.cons (rfl) (KpU.cons (rfl) (KpU.cons (rfl) (KpU.cons (rfl) (KpU.cons (rfl) (KpU.cons (rfl) (KpU.cons (rfl) (KpU.cons (rfl) (KpU.cons (rfl) (KpU.nil _ _))))))))))))))))))))))))))))))))))))))))))))))))))))))))))))))))))))))))))))))))))))))))) ho70 hG0

set_option maxRecDepth 20000 in
set_option maxHeartbeats 1000000 in
theorem tfR15c (g gm n k cap op bk : Nat) (A : Option Addr) (tx dt : List UInt8) (b4 : List FldD) (nm vl : List UInt8) (a : Act) (w : World) (K : Exit → Act → World → Prop) (hs : Sz 115 a)
    (h1 : sl a 1 = .pointer (some ⟨gm, 0, none⟩)) (h5 : sl a 5 = .int .i64 (k : Int)) (h6 : sl a 6 = .pointer (some ⟨g, 0, none⟩)) (hT : Tabs w) (hnl : nm.length ≤ 1099511627) (hvl : vl.length ≤ 1099511627) (hkn : k < n) (hnc : n ≤ cap) (hnn : n ≤ 4611686018427387904) (ha : wordB nm = true) (hv : wordB vl = true) (hs0 : (nm == lowD nm) = false) (hA : SlR w noB 2 A k (fldC b4)) (hfb : Bk w g 83 #[.string (bs nm), .string (bs vl)]) (hmb : Bk w gm 81 #[.int .u16 (op : Int), .int .u16 (bk : Int), .string (bs tx), .string (bs dt), .slice A n cap])
    (hK : ∀ a' w', Sz 115 a' → Kp [0, 1, 2, 3, 4, 5, 6, 7, 8, 9, 10, 11, 12, 13, 14, 15, 16, 17, 18, 19, 20, 21, 22, 23, 24, 25, 26, 27, 28, 29, 30, 31, 32, 33, 34, 35, 36, 37, 38, 39, 40, 41, 42, 43, 71, 72, 73, 74, 75, 76, 77, 78, 79, 80, 81, 82, 83, 84, 85, 86, 87, 88, 89, 90, 91, 92, 93, 94, 95, 96, 97, 98, 99, 100, 101, 102, 103, 104, 105, 106, 107, 108, 109, 110, 111, 112, 113, 114] a a' → sl a' 70 = .bool true → Fr noB w w' → K .normal a' w') :
    (regionOf Tryz.f83 15).wp Tryz.prog K a w := by
  have hK2 : ∀ a' w', Sz 115 a' → KpU [0, 1, 2, 3, 4, 5, 6, 7, 8, 9, 10, 11, 12, 13, 14, 15, 16, 17, 18, 19, 20, 21, 22, 23, 24, 25, 26, 27, 28, 29, 30, 31, 32, 33, 34, 35, 36, 37, 38, 39, 40, 41, 42, 43, 71, 72, 73, 74, 75, 76, 77, 78, 79, 80, 81, 82, 83, 84, 85, 86, 87, 88, 89, 90, 91, 92, 93, 94, 95, 96, 97, 98, 99, 100, 101, 102, 103, 104, 105, 106, 107, 108, 109, 110, 111, 112, 113, 114] (sl a) a' → sl a' 70 = .bool true → Fr noB w w' → K .normal a' w' := hK
  clear hK
  rw [tfW_of hs]
  clear hs
  generalize sl a = z at *
  clear a
  have HK := Lib.hid hK2
  clear hK2
  conv => arg 2; whnf
  simp only [tfW, h1, h5, h6]
  obtain ⟨V, hV⟩ : ∃ V : Nat → Value, V = (fun j => match j with | 0 => .pointer (some ⟨g, 0, none⟩) | 1 => .string (bs nm) | 2 => .bool true | 3 => .bool false | 4 => .bool false | 5 => .pointer (some ⟨g, 1, none⟩) | 6 => .string (bs vl) | 7 => .bool true | 8 => .bool false | 9 => .bool false | 10 => .bool false | 11 => .pointer (some ⟨g, 0, none⟩) | 12 => .string (bs nm) | 13 => .pointer (some ⟨g, 0, none⟩) | 14 => .string (bs nm) | 15 => .string (bs (lowD nm)) | 16 => .bool true | 17 => .bool true | 18 => .bool true | 19 => undef | 20 => undef | 21 => undef | 22 => undef | 23 => undef | 24 => undef | 25 => undef | 26 => .bool true | _ => undef) := ⟨_, rfl⟩
  have v0 : V 0 = .pointer (some ⟨g, 0, none⟩) := congrFun hV 0
  have v1 : V 1 = .string (bs nm) := congrFun hV 1
  have v2 : V 2 = .bool true := congrFun hV 2
  have v3 : V 3 = .bool false := congrFun hV 3
  have v4 : V 4 = .bool false := congrFun hV 4
  have v5 : V 5 = .pointer (some ⟨g, 1, none⟩) := congrFun hV 5
  have v6 : V 6 = .string (bs vl) := congrFun hV 6
  have v7 : V 7 = .bool true := congrFun hV 7
  have v8 : V 8 = .bool false := congrFun hV 8
  have v9 : V 9 = .bool false := congrFun hV 9
  have v10 : V 10 = .bool false := congrFun hV 10
  have v11 : V 11 = .pointer (some ⟨g, 0, none⟩) := congrFun hV 11
  have v12 : V 12 = .string (bs nm) := congrFun hV 12
  have v13 : V 13 = .pointer (some ⟨g, 0, none⟩) := congrFun hV 13
  have v14 : V 14 = .string (bs nm) := congrFun hV 14
  have v15 : V 15 = .string (bs (lowD nm)) := congrFun hV 15
  have v16 : V 16 = .bool true := congrFun hV 16
  have v17 : V 17 = .bool true := congrFun hV 17
  have v18 : V 18 = .bool true := congrFun hV 18
  have v19 : V 19 = undef := congrFun hV 19
  have v20 : V 20 = undef := congrFun hV 20
  have v21 : V 21 = undef := congrFun hV 21
  have v22 : V 22 = undef := congrFun hV 22
  have v23 : V 23 = undef := congrFun hV 23
  have v24 : V 24 = undef := congrFun hV 24
  have v25 : V 25 = undef := congrFun hV 25
  have v26 : V 26 = .bool true := congrFun hV 26
  clear hV
  refine wp_region_ssag (by kernel_rfl) (by kernel_rfl)
    (fun u => ⟨List.toArray ((z 0) :: (.pointer (some ⟨gm, 0, none⟩)) :: (z 2) :: (z 3) :: (z 4) :: (.int .i64 (k : Int)) :: (.pointer (some ⟨g, 0, none⟩)) :: (z 7) :: (z 8) :: (z 9) :: (z 10) :: (z 11) :: (z 12) :: (z 13) :: (z 14) :: (z 15) :: (z 16) :: (z 17) :: (z 18) :: (z 19) :: (z 20) :: (z 21) :: (z 22) :: (z 23) :: (z 24) :: (z 25) :: (z 26) :: (z 27) :: (z 28) :: (z 29) :: (z 30) :: (z 31) :: (z 32) :: (z 33) :: (z 34) :: (z 35) :: (z 36) :: (z 37) :: (z 38) :: (z 39) :: (z 40) :: (z 41) :: (z 42) :: (z 43) :: (u 0) :: (u 1) :: (u 2) :: (u 3) :: (u 4) :: (u 5) :: (u 6) :: (u 7) :: (u 8) :: (u 9) :: (u 10) :: (u 11) :: (u 12) :: (u 13) :: (u 14) :: (u 15) :: (u 16) :: (u 17) :: (u 18) :: (u 19) :: (u 20) :: (u 21) :: (u 22) :: (u 23) :: (u 24) :: (u 25) :: (u 26) :: (z 71) :: (z 72) :: (z 73) :: (z 74) :: (z 75) :: (z 76) :: (z 77) :: (z 78) :: (z 79) :: (z 80) :: (z 81) :: (z 82) :: (z 83) :: (z 84) :: (z 85) :: (z 86) :: (z 87) :: (z 88) :: (z 89) :: (z 90) :: (z 91) :: (z 92) :: (z 93) :: (z 94) :: (z 95) :: (z 96) :: (z 97) :: (z 98) :: (z 99) :: (z 100) :: (z 101) :: (z 102) :: (z 103) :: (z 104) :: (z 105) :: (z 106) :: (z 107) :: (z 108) :: (z 109) :: (z 110) :: (z 111) :: (z 112) :: (z 113) :: (z 114) :: []), []⟩)
    (fun j v w3 => v = V j)
    (fun L u w3 => Fr noB w w3) (fun j => if j = 0 then z 44 else if j = 1 then z 45 else if j = 2 then z 46 else if j = 3 then z 47 else if j = 4 then z 48 else if j = 5 then z 49 else if j = 6 then z 50 else if j = 7 then z 51 else if j = 8 then z 52 else if j = 9 then z 53 else if j = 10 then z 54 else if j = 11 then z 55 else if j = 12 then z 56 else if j = 13 then z 57 else if j = 14 then z 58 else if j = 15 then z 59 else if j = 16 then z 60 else if j = 17 then z 61 else if j = 18 then z 62 else if j = 19 then z 63 else if j = 20 then z 64 else if j = 21 then z 65 else if j = 22 then z 66 else if j = 23 then z 67 else if j = 24 then z 68 else if j = 25 then z 69 else if j = 26 then z 70 else undef) ((Fr.refl _ _).drew) ?_ ?_
  · rintro L u w3 i o hG hΦ ho hL hd K2 hK2
    match i, ho with
    | 0, ho =>
      simp at ho; subst ho
      clear hΦ hd
      have hG0 := hG
      refine .inl ⟨rfl, ?_⟩
      go_simp
      exact hK2 _ _ v0.symm hG0 (fun _ _ _ h => h)
    | 1, ho =>
      simp at ho; subst ho
      have hu0 : u 0 = V 0 := hΦ 0 (hd ⟨0, .data⟩ (by simp) (by rfl))
      rw [v0] at hu0
      clear hΦ hd
      have hG0 := hG
      have hx : ∃ y, u = (upd y 0 (.pointer (some ⟨g, 0, none⟩))) := ⟨u, by rw [← upd_self hu0]⟩
      clear hu0
      obtain ⟨y, rfl⟩ := hx
      simp only [upd, reduceIte, Nat.reduceEqDiff]
      refine .inl ⟨rfl, ?_⟩
      have hc0 := ((hfb).keep hG0 (fun x => x)).cells
      go_simp
      exact hK2 _ _ v1.symm hG0 (fun _ _ _ h => h)
    | 2, ho =>
      simp at ho; subst ho
      have hu1 : u 1 = V 1 := hΦ 1 (hd ⟨1, .data⟩ (by simp) (by rfl))
      rw [v1] at hu1
      clear hΦ hd
      have hG0 := hG
      have hx : ∃ y, u = (upd y 1 (.string (bs nm))) := ⟨u, by rw [← upd_self hu1]⟩
      clear hu1
      obtain ⟨y, rfl⟩ := hx
      simp only [upd, reduceIte, Nat.reduceEqDiff]
      refine .inl ⟨rfl, ?_⟩
      go_simp
      refine (tftpAscii nm _ (by omega)).mono ?_
      rintro e w4 ⟨rfl, rfl⟩
      rw [ha]
      exact hK2 _ _ v2.symm hG0 (fun _ _ _ h => h)
    | 3, ho =>
      simp at ho; subst ho
      have hu2 : u 2 = V 2 := hΦ 2 (hd ⟨2, .data⟩ (by simp) (by rfl))
      rw [v2] at hu2
      clear hΦ hd
      have hG0 := hG
      have hx : ∃ y, u = (upd y 2 (.bool true)) := ⟨u, by rw [← upd_self hu2]⟩
      clear hu2
      obtain ⟨y, rfl⟩ := hx
      simp only [upd, reduceIte, Nat.reduceEqDiff]
      refine .inl ⟨rfl, ?_⟩
      go_simp
      exact hK2 _ _ v3.symm hG0 (fun _ _ _ h => h)
    | 4, ho =>
      simp at ho; subst ho
      have hu3 : u 3 = V 3 := hΦ 3 (hd ⟨3, .data⟩ (by simp) (by rfl))
      rw [v3] at hu3
      clear hΦ hd
      have hG0 := hG
      have hx : ∃ y, u = (upd y 3 (.bool false)) := ⟨u, by rw [← upd_self hu3]⟩
      clear hu3
      obtain ⟨y, rfl⟩ := hx
      simp only [upd, reduceIte, Nat.reduceEqDiff]
      refine .inl ⟨rfl, ?_⟩
      go_simp
      exact hK2 _ _ v4.symm hG0 (fun _ _ _ h => h)
    | 5, ho =>
      simp at ho; subst ho
      have hu4 : u 4 = V 4 := hΦ 4 (hd ⟨4, .guard⟩ (by simp) (by rfl))
      rw [v4] at hu4
      clear hΦ hd
      have hG0 := hG
      have hx : ∃ y, u = (upd y 4 (.bool false)) := ⟨u, by rw [← upd_self hu4]⟩
      clear hu4
      obtain ⟨y, rfl⟩ := hx
      simp only [upd, reduceIte, Nat.reduceEqDiff]
      refine .inl ⟨rfl, ?_⟩
      go_simp
      exact hK2 _ _ v5.symm hG0 (fun _ _ _ h => h)
    | 6, ho =>
      simp at ho; subst ho
      have hu5 : u 5 = V 5 := hΦ 5 (hd ⟨5, .data⟩ (by simp) (by rfl))
      rw [v5] at hu5
      have hu4 : u 4 = V 4 := hΦ 4 (hd ⟨4, .guard⟩ (by simp) (by rfl))
      rw [v4] at hu4
      clear hΦ hd
      have hG0 := hG
      have hx : ∃ y, u = (upd (upd y 5 (.pointer (some ⟨g, 1, none⟩))) 4 (.bool false)) := ⟨u, by rw [← upd_self hu5, ← upd_self hu4]⟩
      clear hu5 hu4
      obtain ⟨y, rfl⟩ := hx
      simp only [upd, reduceIte, Nat.reduceEqDiff]
      refine .inl ⟨rfl, ?_⟩
      have hc0 := ((hfb).keep hG0 (fun x => x)).cells
      go_simp
      exact hK2 _ _ v6.symm hG0 (fun _ _ _ h => h)
    | 7, ho =>
      simp at ho; subst ho
      have hu6 : u 6 = V 6 := hΦ 6 (hd ⟨6, .data⟩ (by simp) (by rfl))
      rw [v6] at hu6
      have hu4 : u 4 = V 4 := hΦ 4 (hd ⟨4, .guard⟩ (by simp) (by rfl))
      rw [v4] at hu4
      clear hΦ hd
      have hG0 := hG
      have hx : ∃ y, u = (upd (upd y 6 (.string (bs vl))) 4 (.bool false)) := ⟨u, by rw [← upd_self hu6, ← upd_self hu4]⟩
      clear hu6 hu4
      obtain ⟨y, rfl⟩ := hx
      simp only [upd, reduceIte, Nat.reduceEqDiff]
      refine .inl ⟨rfl, ?_⟩
      go_simp
      refine (tftpAscii vl _ (by omega)).mono ?_
      rintro e w4 ⟨rfl, rfl⟩
      rw [hv]
      exact hK2 _ _ v7.symm hG0 (fun _ _ _ h => h)
    | 8, ho =>
      simp at ho; subst ho
      have hu7 : u 7 = V 7 := hΦ 7 (hd ⟨7, .data⟩ (by simp) (by rfl))
      rw [v7] at hu7
      have hu4 : u 4 = V 4 := hΦ 4 (hd ⟨4, .guard⟩ (by simp) (by rfl))
      rw [v4] at hu4
      clear hΦ hd
      have hG0 := hG
      have hx : ∃ y, u = (upd (upd y 7 (.bool true)) 4 (.bool false)) := ⟨u, by rw [← upd_self hu7, ← upd_self hu4]⟩
      clear hu7 hu4
      obtain ⟨y, rfl⟩ := hx
      simp only [upd, reduceIte, Nat.reduceEqDiff]
      refine .inl ⟨rfl, ?_⟩
      go_simp
      exact hK2 _ _ v8.symm hG0 (fun _ _ _ h => h)
    | 9, ho =>
      simp at ho; subst ho
      have hu4 : u 4 = V 4 := hΦ 4 (hd ⟨4, .data⟩ (by simp) (by rfl))
      rw [v4] at hu4
      have hu8 : u 8 = V 8 := hΦ 8 (hd ⟨8, .data⟩ (by simp) (by rfl))
      rw [v8] at hu8
      clear hΦ hd
      have hG0 := hG
      have hx : ∃ y, u = (upd (upd y 4 (.bool false)) 8 (.bool false)) := ⟨u, by rw [← upd_self hu4, ← upd_self hu8]⟩
      clear hu4 hu8
      obtain ⟨y, rfl⟩ := hx
      simp only [upd, reduceIte, Nat.reduceEqDiff]
      refine .inl ⟨rfl, ?_⟩
      go_simp
      exact hK2 _ _ v9.symm hG0 (fun _ _ _ h => h)
    | 10, ho =>
      simp at ho; subst ho
      have hu9 : u 9 = V 9 := hΦ 9 (hd ⟨9, .data⟩ (by simp) (by rfl))
      rw [v9] at hu9
      clear hΦ hd
      have hG0 := hG
      have hx : ∃ y, u = (upd y 9 (.bool false)) := ⟨u, by rw [← upd_self hu9]⟩
      clear hu9
      obtain ⟨y, rfl⟩ := hx
      simp only [upd, reduceIte, Nat.reduceEqDiff]
      refine .inl ⟨rfl, ?_⟩
      go_simp
      exact hK2 _ _ v10.symm hG0 (fun _ _ _ h => h)
    | 11, ho =>
      simp at ho; subst ho
      have hu10 : u 10 = V 10 := hΦ 10 (hd ⟨10, .guard⟩ (by simp) (by rfl))
      rw [v10] at hu10
      clear hΦ hd
      have hG0 := hG
      have hx : ∃ y, u = (upd y 10 (.bool false)) := ⟨u, by rw [← upd_self hu10]⟩
      clear hu10
      obtain ⟨y, rfl⟩ := hx
      simp only [upd, reduceIte, Nat.reduceEqDiff]
      refine .inl ⟨rfl, ?_⟩
      go_simp
      exact hK2 _ _ v11.symm hG0 (fun _ _ _ h => h)
    | 12, ho =>
      simp at ho; subst ho
      have hu11 : u 11 = V 11 := hΦ 11 (hd ⟨11, .data⟩ (by simp) (by rfl))
      rw [v11] at hu11
      have hu10 : u 10 = V 10 := hΦ 10 (hd ⟨10, .guard⟩ (by simp) (by rfl))
      rw [v10] at hu10
      clear hΦ hd
      have hG0 := hG
      have hx : ∃ y, u = (upd (upd y 11 (.pointer (some ⟨g, 0, none⟩))) 10 (.bool false)) := ⟨u, by rw [← upd_self hu11, ← upd_self hu10]⟩
      clear hu11 hu10
      obtain ⟨y, rfl⟩ := hx
      simp only [upd, reduceIte, Nat.reduceEqDiff]
      refine .inl ⟨rfl, ?_⟩
      have hc0 := ((hfb).keep hG0 (fun x => x)).cells
      go_simp
      exact hK2 _ _ v12.symm hG0 (fun _ _ _ h => h)
    | 13, ho =>
      simp at ho; subst ho
      have hu10 : u 10 = V 10 := hΦ 10 (hd ⟨10, .guard⟩ (by simp) (by rfl))
      rw [v10] at hu10
      clear hΦ hd
      have hG0 := hG
      have hx : ∃ y, u = (upd y 10 (.bool false)) := ⟨u, by rw [← upd_self hu10]⟩
      clear hu10
      obtain ⟨y, rfl⟩ := hx
      simp only [upd, reduceIte, Nat.reduceEqDiff]
      refine .inl ⟨rfl, ?_⟩
      go_simp
      exact hK2 _ _ v13.symm hG0 (fun _ _ _ h => h)
    | 14, ho =>
      simp at ho; subst ho
      have hu13 : u 13 = V 13 := hΦ 13 (hd ⟨13, .data⟩ (by simp) (by rfl))
      rw [v13] at hu13
      have hu10 : u 10 = V 10 := hΦ 10 (hd ⟨10, .guard⟩ (by simp) (by rfl))
      rw [v10] at hu10
      clear hΦ hd
      have hG0 := hG
      have hx : ∃ y, u = (upd (upd y 13 (.pointer (some ⟨g, 0, none⟩))) 10 (.bool false)) := ⟨u, by rw [← upd_self hu13, ← upd_self hu10]⟩
      clear hu13 hu10
      obtain ⟨y, rfl⟩ := hx
      simp only [upd, reduceIte, Nat.reduceEqDiff]
      refine .inl ⟨rfl, ?_⟩
      have hc0 := ((hfb).keep hG0 (fun x => x)).cells
      go_simp
      exact hK2 _ _ v14.symm hG0 (fun _ _ _ h => h)
    | 15, ho =>
      simp at ho; subst ho
      have hu14 : u 14 = V 14 := hΦ 14 (hd ⟨14, .data⟩ (by simp) (by rfl))
      rw [v14] at hu14
      have hu10 : u 10 = V 10 := hΦ 10 (hd ⟨10, .guard⟩ (by simp) (by rfl))
      rw [v10] at hu10
      clear hΦ hd
      have hG0 := hG
      have hx : ∃ y, u = (upd (upd y 14 (.string (bs nm))) 10 (.bool false)) := ⟨u, by rw [← upd_self hu14, ← upd_self hu10]⟩
      clear hu14 hu10
      obtain ⟨y, rfl⟩ := hx
      simp only [upd, reduceIte, Nat.reduceEqDiff]
      refine .inl ⟨rfl, ?_⟩
      go_simp
      refine (tftLower nm _ (by omega) (hT.none hG0)).mono ?_
      rintro e w4 ⟨rfl, hf4⟩
      exact hK2 _ _ v15.symm (hG0.none hf4) (fun _ _ _ h => h)
    | 16, ho =>
      simp at ho; subst ho
      have hu12 : u 12 = V 12 := hΦ 12 (hd ⟨12, .data⟩ (by simp) (by rfl))
      rw [v12] at hu12
      have hu15 : u 15 = V 15 := hΦ 15 (hd ⟨15, .data⟩ (by simp) (by rfl))
      rw [v15] at hu15
      have hu10 : u 10 = V 10 := hΦ 10 (hd ⟨10, .guard⟩ (by simp) (by rfl))
      rw [v10] at hu10
      clear hΦ hd
      have hG0 := hG
      have hx : ∃ y, u = (upd (upd (upd y 12 (.string (bs nm))) 15 (.string (bs (lowD nm)))) 10 (.bool false)) := ⟨u, by rw [← upd_self hu12, ← upd_self hu15, ← upd_self hu10]⟩
      clear hu12 hu15 hu10
      obtain ⟨y, rfl⟩ := hx
      simp only [upd, reduceIte, Nat.reduceEqDiff]
      refine .inl ⟨rfl, ?_⟩
      go_simp
      try simp [hs0]
      exact hK2 _ _ v16.symm hG0 (fun _ _ _ h => h)
    | 17, ho =>
      simp at ho; subst ho
      have hu10 : u 10 = V 10 := hΦ 10 (hd ⟨10, .data⟩ (by simp) (by rfl))
      rw [v10] at hu10
      have hu16 : u 16 = V 16 := hΦ 16 (hd ⟨16, .data⟩ (by simp) (by rfl))
      rw [v16] at hu16
      clear hΦ hd
      have hG0 := hG
      have hx : ∃ y, u = (upd (upd y 10 (.bool false)) 16 (.bool true)) := ⟨u, by rw [← upd_self hu10, ← upd_self hu16]⟩
      clear hu10 hu16
      obtain ⟨y, rfl⟩ := hx
      simp only [upd, reduceIte, Nat.reduceEqDiff]
      refine .inl ⟨rfl, ?_⟩
      go_simp
      exact hK2 _ _ v17.symm hG0 (fun _ _ _ h => h)
    | 18, ho =>
      simp at ho; subst ho
      have hu17 : u 17 = V 17 := hΦ 17 (hd ⟨17, .data⟩ (by simp) (by rfl))
      rw [v17] at hu17
      clear hΦ hd
      have hG0 := hG
      have hx : ∃ y, u = (upd y 17 (.bool true)) := ⟨u, by rw [← upd_self hu17]⟩
      clear hu17
      obtain ⟨y, rfl⟩ := hx
      simp only [upd, reduceIte, Nat.reduceEqDiff]
      refine .inl ⟨rfl, ?_⟩
      go_simp
      exact hK2 _ _ v18.symm hG0 (fun _ _ _ h => h)
    | 19, ho =>
      simp at ho; subst ho
      have hu18 : u 18 = V 18 := hΦ 18 (hd ⟨18, .guard⟩ (by simp) (by rfl))
      rw [v18] at hu18
      clear hΦ hd
      have hG0 := hG
      have hx : ∃ y, u = (upd y 18 (.bool true)) := ⟨u, by rw [← upd_self hu18]⟩
      clear hu18
      obtain ⟨y, rfl⟩ := hx
      simp only [upd, reduceIte, Nat.reduceEqDiff]
      exact .inr ⟨rfl, hK2 undef _ v19.symm hG0 (fun _ _ _ h => h)⟩
    | 20, ho =>
      simp at ho; subst ho
      have hu19 : u 19 = V 19 := hΦ 19 (hd ⟨19, .data⟩ (by simp) (by rfl))
      rw [v19] at hu19
      have hu18 : u 18 = V 18 := hΦ 18 (hd ⟨18, .guard⟩ (by simp) (by rfl))
      rw [v18] at hu18
      clear hΦ hd
      have hG0 := hG
      have hx : ∃ y, u = (upd (upd y 19 (undef)) 18 (.bool true)) := ⟨u, by rw [← upd_self hu19, ← upd_self hu18]⟩
      clear hu19 hu18
      obtain ⟨y, rfl⟩ := hx
      simp only [upd, reduceIte, Nat.reduceEqDiff]
      exact .inr ⟨rfl, hK2 undef _ v20.symm hG0 (fun _ _ _ h => h)⟩
    | 21, ho =>
      simp at ho; subst ho
      have hu18 : u 18 = V 18 := hΦ 18 (hd ⟨18, .guard⟩ (by simp) (by rfl))
      rw [v18] at hu18
      clear hΦ hd
      have hG0 := hG
      have hx : ∃ y, u = (upd y 18 (.bool true)) := ⟨u, by rw [← upd_self hu18]⟩
      clear hu18
      obtain ⟨y, rfl⟩ := hx
      simp only [upd, reduceIte, Nat.reduceEqDiff]
      exact .inr ⟨rfl, hK2 undef _ v21.symm hG0 (fun _ _ _ h => h)⟩
    | 22, ho =>
      simp at ho; subst ho
      have hu20 : u 20 = V 20 := hΦ 20 (hd ⟨20, .data⟩ (by simp) (by rfl))
      rw [v20] at hu20
      have hu21 : u 21 = V 21 := hΦ 21 (hd ⟨21, .data⟩ (by simp) (by rfl))
      rw [v21] at hu21
      have hu18 : u 18 = V 18 := hΦ 18 (hd ⟨18, .guard⟩ (by simp) (by rfl))
      rw [v18] at hu18
      clear hΦ hd
      have hG0 := hG
      have hx : ∃ y, u = (upd (upd (upd y 20 (undef)) 21 (undef)) 18 (.bool true)) := ⟨u, by rw [← upd_self hu20, ← upd_self hu21, ← upd_self hu18]⟩
      clear hu20 hu21 hu18
      obtain ⟨y, rfl⟩ := hx
      simp only [upd, reduceIte, Nat.reduceEqDiff]
      exact .inr ⟨rfl, hK2 undef _ v22.symm hG0 (fun _ _ _ h => h)⟩
    | 23, ho =>
      simp at ho; subst ho
      have hu18 : u 18 = V 18 := hΦ 18 (hd ⟨18, .guard⟩ (by simp) (by rfl))
      rw [v18] at hu18
      clear hΦ hd
      have hG0 := hG
      have hx : ∃ y, u = (upd y 18 (.bool true)) := ⟨u, by rw [← upd_self hu18]⟩
      clear hu18
      obtain ⟨y, rfl⟩ := hx
      simp only [upd, reduceIte, Nat.reduceEqDiff]
      exact .inr ⟨rfl, hK2 undef _ v23.symm hG0 (fun _ _ _ h => h)⟩
    | 24, ho =>
      simp at ho; subst ho
      have hu23 : u 23 = V 23 := hΦ 23 (hd ⟨23, .data⟩ (by simp) (by rfl))
      rw [v23] at hu23
      have hu18 : u 18 = V 18 := hΦ 18 (hd ⟨18, .guard⟩ (by simp) (by rfl))
      rw [v18] at hu18
      clear hΦ hd
      have hG0 := hG
      have hx : ∃ y, u = (upd (upd y 23 (undef)) 18 (.bool true)) := ⟨u, by rw [← upd_self hu23, ← upd_self hu18]⟩
      clear hu23 hu18
      obtain ⟨y, rfl⟩ := hx
      simp only [upd, reduceIte, Nat.reduceEqDiff]
      exact .inr ⟨rfl, hK2 undef _ v24.symm hG0 (fun _ _ _ h => h)⟩
    | 25, ho =>
      simp at ho; subst ho
      have hu22 : u 22 = V 22 := hΦ 22 (hd ⟨22, .data⟩ (by simp) (by rfl))
      rw [v22] at hu22
      have hu24 : u 24 = V 24 := hΦ 24 (hd ⟨24, .data⟩ (by simp) (by rfl))
      rw [v24] at hu24
      have hu18 : u 18 = V 18 := hΦ 18 (hd ⟨18, .guard⟩ (by simp) (by rfl))
      rw [v18] at hu18
      clear hΦ hd
      have hG0 := hG
      have hx : ∃ y, u = (upd (upd (upd y 22 (undef)) 24 (undef)) 18 (.bool true)) := ⟨u, by rw [← upd_self hu22, ← upd_self hu24, ← upd_self hu18]⟩
      clear hu22 hu24 hu18
      obtain ⟨y, rfl⟩ := hx
      simp only [upd, reduceIte, Nat.reduceEqDiff]
      exact .inr ⟨rfl, hK2 undef _ v25.symm hG0 (fun _ _ _ h => h)⟩
    | 26, ho =>
      simp at ho; subst ho
      have hu18 : u 18 = V 18 := hΦ 18 (hd ⟨18, .data⟩ (by simp) (by rfl))
      rw [v18] at hu18
      have hu25 : u 25 = V 25 := hΦ 25 (hd ⟨25, .data⟩ (by simp) (by rfl))
      rw [v25] at hu25
      clear hΦ hd
      have hG0 := hG
      have hx : ∃ y, u = (upd (upd y 18 (.bool true)) 25 (undef)) := ⟨u, by rw [← upd_self hu18, ← upd_self hu25]⟩
      clear hu18 hu25
      obtain ⟨y, rfl⟩ := hx
      simp only [upd, reduceIte, Nat.reduceEqDiff]
      refine .inl ⟨rfl, ?_⟩
      go_simp
      exact hK2 _ _ v26.symm hG0 (fun _ _ _ h => h)
  · rintro u w3 hu L hall hG
    have hG0 := hG
    have ho70 : u 26 = V 26 := hu 26 (by decide)
    rw [v26] at ho70
    exact HK.out _ _ ⟨rfl, rfl⟩ (KpU.cons (rfl) (KpU.cons (h1.symm) (KpU.cons (rfl) (KpU.cons (rfl) (KpU.cons (rfl) (KpU.cons (h5.symm) (KpU.cons (h6.symm) (KpU.cons (rfl) (KpU.cons (rfl) (KpU.cons (rfl) (KpU.cons (rfl) (KpU.cons (rfl) (KpU.cons (rfl) (KpU.cons (rfl) (KpU.cons (rfl) (KpU.cons (rfl) (KpU.cons (rfl) (KpU.cons (rfl) (KpU.cons (rfl) (KpU.cons (rfl) (KpU.cons (rfl) (KpU.cons (rfl) (KpU.cons (rfl) (KpU.cons (rfl) (KpU.cons (rfl) (KpU.cons (rfl) (KpU.cons (rfl) (KpU.cons (rfl) (KpU.cons (rfl) (KpU.cons (rfl) (KpU.cons (rfl) (KpU.cons (rfl) (KpU.cons (rfl) (KpU.cons (rfl) (KpU.cons (rfl) (KpU.cons (rfl) (KpU.cons (rfl) (KpU.cons (rfl) (KpU.cons (rfl) (KpU.cons (rfl) (KpU.cons (rfl) (KpU.cons (rfl) (KpU.cons (rfl) (KpU.cons (rfl) (KpU.cons (rfl) (KpU.cons (rfl) (KpU.cons (rfl) (KpU.cons (rfl) (KpU.cons (rfl) (KpU.cons (rfl) (KpU.cons (rfl) (KpU.cons (rfl) (KpU.cons (rfl) (KpU.cons (rfl) (KpU.cons (rfl) (KpU.cons (rfl) (KpU.cons (rfl) (KpU.cons (rfl) (KpU.cons (rfl) (KpU.cons (rfl) (KpU.cons (rfl) (KpU.cons (rfl) (KpU.cons (rfl) (KpU.cons (rfl) (KpU.cons (rfl) (KpU.cons (rfl) (KpU.cons (rfl) (KpU.cons (rfl) (KpU.cons (rfl) (KpU.cons (rfl) (KpU.cons (rfl) (KpU.cons (rfl) (KpU.cons (rfl) (KpU.cons (rfl) (KpU.cons (rfl) (KpU.cons (rfl) (KpU.cons (rfl) (KpU.cons (rfl) (KpU.cons (rfl) (KpU.cons (rfl) (KpU.cons (rfl) (KpU.cons (rfl) (KpU.cons (rfl) (KpU.cons (rfl) (KpU.cons (rfl) (KpU.cons (rfl) (KpU.cons (rfl) (KpU.cons (rfl) (KpU.nil _ _))))))))))))))))))))))))))))))))))))))))))))))))))))))))))))))))))))))))))))))))))))))))) ho70 hG0

set_option maxRecDepth 20000 in
set_option maxHeartbeats 1000000 in
theorem tfR15d (g gm n k cap op bk : Nat) (A : Option Addr) (tx dt : List UInt8) (b4 : List FldD) (nm vl : List UInt8) (a : Act) (w : World) (K : Exit → Act → World → Prop) (hs : Sz 115 a)
    (h1 : sl a 1 = .pointer (some ⟨gm, 0, none⟩)) (h5 : sl a 5 = .int .i64 (k : Int)) (h6 : sl a 6 = .pointer (some ⟨g, 0, none⟩)) (hT : Tabs w) (hnl : nm.length ≤ 1099511627) (hvl : vl.length ≤ 1099511627) (hkn : k < n) (hnc : n ≤ cap) (hnn : n ≤ 4611686018427387904) (ha : wordB nm = true) (hv : wordB vl = true) (hs0 : (nm == lowD nm) = true) (hn : named b4 nm = true) (hA : SlR w noB 2 A k (fldC b4)) (hfb : Bk w g 83 #[.string (bs nm), .string (bs vl)]) (hmb : Bk w gm 81 #[.int .u16 (op : Int), .int .u16 (bk : Int), .string (bs tx), .string (bs dt), .slice A n cap])
    (hK : ∀ a' w', Sz 115 a' → Kp [0, 1, 2, 3, 4, 5, 6, 7, 8, 9, 10, 11, 12, 13, 14, 15, 16, 17, 18, 19, 20, 21, 22, 23, 24, 25, 26, 27, 28, 29, 30, 31, 32, 33, 34, 35, 36, 37, 38, 39, 40, 41, 42, 43, 71, 72, 73, 74, 75, 76, 77, 78, 79, 80, 81, 82, 83, 84, 85, 86, 87, 88, 89, 90, 91, 92, 93, 94, 95, 96, 97, 98, 99, 100, 101, 102, 103, 104, 105, 106, 107, 108, 109, 110, 111, 112, 113, 114] a a' → sl a' 70 = .bool true → Fr noB w w' → K .normal a' w') :
    (regionOf Tryz.f83 15).wp Tryz.prog K a w := by
  have hK2 : ∀ a' w', Sz 115 a' → KpU [0, 1, 2, 3, 4, 5, 6, 7, 8, 9, 10, 11, 12, 13, 14, 15, 16, 17, 18, 19, 20, 21, 22, 23, 24, 25, 26, 27, 28, 29, 30, 31, 32, 33, 34, 35, 36, 37, 38, 39, 40, 41, 42, 43, 71, 72, 73, 74, 75, 76, 77, 78, 79, 80, 81, 82, 83, 84, 85, 86, 87, 88, 89, 90, 91, 92, 93, 94, 95, 96, 97, 98, 99, 100, 101, 102, 103, 104, 105, 106, 107, 108, 109, 110, 111, 112, 113, 114] (sl a) a' → sl a' 70 = .bool true → Fr noB w w' → K .normal a' w' := hK
  clear hK
  rw [tfW_of hs]
  clear hs
  generalize sl a = z at *
  clear a
  have HK := Lib.hid hK2
  clear hK2
  conv => arg 2; whnf
  simp only [tfW, h1, h5, h6]
  obtain ⟨V, hV⟩ : ∃ V : Nat → Value, V = (fun j => match j with | 0 => .pointer (some ⟨g, 0, none⟩) | 1 => .string (bs nm) | 2 => .bool true | 3 => .bool false | 4 => .bool false | 5 => .pointer (some ⟨g, 1, none⟩) | 6 => .string (bs vl) | 7 => .bool true | 8 => .bool false | 9 => .bool false | 10 => .bool false | 11 => .pointer (some ⟨g, 0, none⟩) | 12 => .string (bs nm) | 13 => .pointer (some ⟨g, 0, none⟩) | 14 => .string (bs nm) | 15 => .string (bs (lowD nm)) | 16 => .bool false | 17 => .bool false | 18 => .bool false | 19 => .pointer (some ⟨gm, 4, none⟩) | 20 => .slice A n cap | 21 => .int .i64 (k : Int) | 22 => .slice A k cap | 23 => .pointer (some ⟨g, 0, none⟩) | 24 => .string (bs nm) | 25 => .bool true | 26 => .bool true | _ => undef) := ⟨_, rfl⟩
  have v0 : V 0 = .pointer (some ⟨g, 0, none⟩) := congrFun hV 0
  have v1 : V 1 = .string (bs nm) := congrFun hV 1
  have v2 : V 2 = .bool true := congrFun hV 2
  have v3 : V 3 = .bool false := congrFun hV 3
  have v4 : V 4 = .bool false := congrFun hV 4
  have v5 : V 5 = .pointer (some ⟨g, 1, none⟩) := congrFun hV 5
  have v6 : V 6 = .string (bs vl) := congrFun hV 6
  have v7 : V 7 = .bool true := congrFun hV 7
  have v8 : V 8 = .bool false := congrFun hV 8
  have v9 : V 9 = .bool false := congrFun hV 9
  have v10 : V 10 = .bool false := congrFun hV 10
  have v11 : V 11 = .pointer (some ⟨g, 0, none⟩) := congrFun hV 11
  have v12 : V 12 = .string (bs nm) := congrFun hV 12
  have v13 : V 13 = .pointer (some ⟨g, 0, none⟩) := congrFun hV 13
  have v14 : V 14 = .string (bs nm) := congrFun hV 14
  have v15 : V 15 = .string (bs (lowD nm)) := congrFun hV 15
  have v16 : V 16 = .bool false := congrFun hV 16
  have v17 : V 17 = .bool false := congrFun hV 17
  have v18 : V 18 = .bool false := congrFun hV 18
  have v19 : V 19 = .pointer (some ⟨gm, 4, none⟩) := congrFun hV 19
  have v20 : V 20 = .slice A n cap := congrFun hV 20
  have v21 : V 21 = .int .i64 (k : Int) := congrFun hV 21
  have v22 : V 22 = .slice A k cap := congrFun hV 22
  have v23 : V 23 = .pointer (some ⟨g, 0, none⟩) := congrFun hV 23
  have v24 : V 24 = .string (bs nm) := congrFun hV 24
  have v25 : V 25 = .bool true := congrFun hV 25
  have v26 : V 26 = .bool true := congrFun hV 26
  clear hV
  refine wp_region_ssag (by kernel_rfl) (by kernel_rfl)
    (fun u => ⟨List.toArray ((z 0) :: (.pointer (some ⟨gm, 0, none⟩)) :: (z 2) :: (z 3) :: (z 4) :: (.int .i64 (k : Int)) :: (.pointer (some ⟨g, 0, none⟩)) :: (z 7) :: (z 8) :: (z 9) :: (z 10) :: (z 11) :: (z 12) :: (z 13) :: (z 14) :: (z 15) :: (z 16) :: (z 17) :: (z 18) :: (z 19) :: (z 20) :: (z 21) :: (z 22) :: (z 23) :: (z 24) :: (z 25) :: (z 26) :: (z 27) :: (z 28) :: (z 29) :: (z 30) :: (z 31) :: (z 32) :: (z 33) :: (z 34) :: (z 35) :: (z 36) :: (z 37) :: (z 38) :: (z 39) :: (z 40) :: (z 41) :: (z 42) :: (z 43) :: (u 0) :: (u 1) :: (u 2) :: (u 3) :: (u 4) :: (u 5) :: (u 6) :: (u 7) :: (u 8) :: (u 9) :: (u 10) :: (u 11) :: (u 12) :: (u 13) :: (u 14) :: (u 15) :: (u 16) :: (u 17) :: (u 18) :: (u 19) :: (u 20) :: (u 21) :: (u 22) :: (u 23) :: (u 24) :: (u 25) :: (u 26) :: (z 71) :: (z 72) :: (z 73) :: (z 74) :: (z 75) :: (z 76) :: (z 77) :: (z 78) :: (z 79) :: (z 80) :: (z 81) :: (z 82) :: (z 83) :: (z 84) :: (z 85) :: (z 86) :: (z 87) :: (z 88) :: (z 89) :: (z 90) :: (z 91) :: (z 92) :: (z 93) :: (z 94) :: (z 95) :: (z 96) :: (z 97) :: (z 98) :: (z 99) :: (z 100) :: (z 101) :: (z 102) :: (z 103) :: (z 104) :: (z 105) :: (z 106) :: (z 107) :: (z 108) :: (z 109) :: (z 110) :: (z 111) :: (z 112) :: (z 113) :: (z 114) :: []), []⟩)
    (fun j v w3 => v = V j)
    (fun L u w3 => Fr noB w w3) (fun j => if j = 0 then z 44 else if j = 1 then z 45 else if j = 2 then z 46 else if j = 3 then z 47 else if j = 4 then z 48 else if j = 5 then z 49 else if j = 6 then z 50 else if j = 7 then z 51 else if j = 8 then z 52 else if j = 9 then z 53 else if j = 10 then z 54 else if j = 11 then z 55 else if j = 12 then z 56 else if j = 13 then z 57 else if j = 14 then z 58 else if j = 15 then z 59 else if j = 16 then z 60 else if j = 17 then z 61 else if j = 18 then z 62 else if j = 19 then z 63 else if j = 20 then z 64 else if j = 21 then z 65 else if j = 22 then z 66 else if j = 23 then z 67 else if j = 24 then z 68 else if j = 25 then z 69 else if j = 26 then z 70 else undef) ((Fr.refl _ _).drew) ?_ ?_
  · rintro L u w3 i o hG hΦ ho hL hd K2 hK2
    match i, ho with
    | 0, ho =>
      simp at ho; subst ho
      clear hΦ hd
      have hG0 := hG
      refine .inl ⟨rfl, ?_⟩
      go_simp
      exact hK2 _ _ v0.symm hG0 (fun _ _ _ h => h)
    | 1, ho =>
      simp at ho; subst ho
      have hu0 : u 0 = V 0 := hΦ 0 (hd ⟨0, .data⟩ (by simp) (by rfl))
      rw [v0] at hu0
      clear hΦ hd
      have hG0 := hG
      have hx : ∃ y, u = (upd y 0 (.pointer (some ⟨g, 0, none⟩))) := ⟨u, by rw [← upd_self hu0]⟩
      clear hu0
      obtain ⟨y, rfl⟩ := hx
      simp only [upd, reduceIte, Nat.reduceEqDiff]
      refine .inl ⟨rfl, ?_⟩
      have hc0 := ((hfb).keep hG0 (fun x => x)).cells
      go_simp
      exact hK2 _ _ v1.symm hG0 (fun _ _ _ h => h)
    | 2, ho =>
      simp at ho; subst ho
      have hu1 : u 1 = V 1 := hΦ 1 (hd ⟨1, .data⟩ (by simp) (by rfl))
      rw [v1] at hu1
      clear hΦ hd
      have hG0 := hG
      have hx : ∃ y, u = (upd y 1 (.string (bs nm))) := ⟨u, by rw [← upd_self hu1]⟩
      clear hu1
      obtain ⟨y, rfl⟩ := hx
      simp only [upd, reduceIte, Nat.reduceEqDiff]
      refine .inl ⟨rfl, ?_⟩
      go_simp
      refine (tftpAscii nm _ (by omega)).mono ?_
      rintro e w4 ⟨rfl, rfl⟩
      rw [ha]
      exact hK2 _ _ v2.symm hG0 (fun _ _ _ h => h)
    | 3, ho =>
      simp at ho; subst ho
      have hu2 : u 2 = V 2 := hΦ 2 (hd ⟨2, .data⟩ (by simp) (by rfl))
      rw [v2] at hu2
      clear hΦ hd
      have hG0 := hG
      have hx : ∃ y, u = (upd y 2 (.bool true)) := ⟨u, by rw [← upd_self hu2]⟩
      clear hu2
      obtain ⟨y, rfl⟩ := hx
      simp only [upd, reduceIte, Nat.reduceEqDiff]
      refine .inl ⟨rfl, ?_⟩
      go_simp
      exact hK2 _ _ v3.symm hG0 (fun _ _ _ h => h)
    | 4, ho =>
      simp at ho; subst ho
      have hu3 : u 3 = V 3 := hΦ 3 (hd ⟨3, .data⟩ (by simp) (by rfl))
      rw [v3] at hu3
      clear hΦ hd
      have hG0 := hG
      have hx : ∃ y, u = (upd y 3 (.bool false)) := ⟨u, by rw [← upd_self hu3]⟩
      clear hu3
      obtain ⟨y, rfl⟩ := hx
      simp only [upd, reduceIte, Nat.reduceEqDiff]
      refine .inl ⟨rfl, ?_⟩
      go_simp
      exact hK2 _ _ v4.symm hG0 (fun _ _ _ h => h)
    | 5, ho =>
      simp at ho; subst ho
      have hu4 : u 4 = V 4 := hΦ 4 (hd ⟨4, .guard⟩ (by simp) (by rfl))
      rw [v4] at hu4
      clear hΦ hd
      have hG0 := hG
      have hx : ∃ y, u = (upd y 4 (.bool false)) := ⟨u, by rw [← upd_self hu4]⟩
      clear hu4
      obtain ⟨y, rfl⟩ := hx
      simp only [upd, reduceIte, Nat.reduceEqDiff]
      refine .inl ⟨rfl, ?_⟩
      go_simp
      exact hK2 _ _ v5.symm hG0 (fun _ _ _ h => h)
    | 6, ho =>
      simp at ho; subst ho
      have hu5 : u 5 = V 5 := hΦ 5 (hd ⟨5, .data⟩ (by simp) (by rfl))
      rw [v5] at hu5
      have hu4 : u 4 = V 4 := hΦ 4 (hd ⟨4, .guard⟩ (by simp) (by rfl))
      rw [v4] at hu4
      clear hΦ hd
      have hG0 := hG
      have hx : ∃ y, u = (upd (upd y 5 (.pointer (some ⟨g, 1, none⟩))) 4 (.bool false)) := ⟨u, by rw [← upd_self hu5, ← upd_self hu4]⟩
      clear hu5 hu4
      obtain ⟨y, rfl⟩ := hx
      simp only [upd, reduceIte, Nat.reduceEqDiff]
      refine .inl ⟨rfl, ?_⟩
      have hc0 := ((hfb).keep hG0 (fun x => x)).cells
      go_simp
      exact hK2 _ _ v6.symm hG0 (fun _ _ _ h => h)
    | 7, ho =>
      simp at ho; subst ho
      have hu6 : u 6 = V 6 := hΦ 6 (hd ⟨6, .data⟩ (by simp) (by rfl))
      rw [v6] at hu6
      have hu4 : u 4 = V 4 := hΦ 4 (hd ⟨4, .guard⟩ (by simp) (by rfl))
      rw [v4] at hu4
      clear hΦ hd
      have hG0 := hG
      have hx : ∃ y, u = (upd (upd y 6 (.string (bs vl))) 4 (.bool false)) := ⟨u, by rw [← upd_self hu6, ← upd_self hu4]⟩
      clear hu6 hu4
      obtain ⟨y, rfl⟩ := hx
      simp only [upd, reduceIte, Nat.reduceEqDiff]
      refine .inl ⟨rfl, ?_⟩
      go_simp
      refine (tftpAscii vl _ (by omega)).mono ?_
      rintro e w4 ⟨rfl, rfl⟩
      rw [hv]
      exact hK2 _ _ v7.symm hG0 (fun _ _ _ h => h)
    | 8, ho =>
      simp at ho; subst ho
      have hu7 : u 7 = V 7 := hΦ 7 (hd ⟨7, .data⟩ (by simp) (by rfl))
      rw [v7] at hu7
      have hu4 : u 4 = V 4 := hΦ 4 (hd ⟨4, .guard⟩ (by simp) (by rfl))
      rw [v4] at hu4
      clear hΦ hd
      have hG0 := hG
      have hx : ∃ y, u = (upd (upd y 7 (.bool true)) 4 (.bool false)) := ⟨u, by rw [← upd_self hu7, ← upd_self hu4]⟩
      clear hu7 hu4
      obtain ⟨y, rfl⟩ := hx
      simp only [upd, reduceIte, Nat.reduceEqDiff]
      refine .inl ⟨rfl, ?_⟩
      go_simp
      exact hK2 _ _ v8.symm hG0 (fun _ _ _ h => h)
    | 9, ho =>
      simp at ho; subst ho
      have hu4 : u 4 = V 4 := hΦ 4 (hd ⟨4, .data⟩ (by simp) (by rfl))
      rw [v4] at hu4
      have hu8 : u 8 = V 8 := hΦ 8 (hd ⟨8, .data⟩ (by simp) (by rfl))
      rw [v8] at hu8
      clear hΦ hd
      have hG0 := hG
      have hx : ∃ y, u = (upd (upd y 4 (.bool false)) 8 (.bool false)) := ⟨u, by rw [← upd_self hu4, ← upd_self hu8]⟩
      clear hu4 hu8
      obtain ⟨y, rfl⟩ := hx
      simp only [upd, reduceIte, Nat.reduceEqDiff]
      refine .inl ⟨rfl, ?_⟩
      go_simp
      exact hK2 _ _ v9.symm hG0 (fun _ _ _ h => h)
    | 10, ho =>
      simp at ho; subst ho
      have hu9 : u 9 = V 9 := hΦ 9 (hd ⟨9, .data⟩ (by simp) (by rfl))
      rw [v9] at hu9
      clear hΦ hd
      have hG0 := hG
      have hx : ∃ y, u = (upd y 9 (.bool false)) := ⟨u, by rw [← upd_self hu9]⟩
      clear hu9
      obtain ⟨y, rfl⟩ := hx
      simp only [upd, reduceIte, Nat.reduceEqDiff]
      refine .inl ⟨rfl, ?_⟩
      go_simp
      exact hK2 _ _ v10.symm hG0 (fun _ _ _ h => h)
    | 11, ho =>
      simp at ho; subst ho
      have hu10 : u 10 = V 10 := hΦ 10 (hd ⟨10, .guard⟩ (by simp) (by rfl))
      rw [v10] at hu10
      clear hΦ hd
      have hG0 := hG
      have hx : ∃ y, u = (upd y 10 (.bool false)) := ⟨u, by rw [← upd_self hu10]⟩
      clear hu10
      obtain ⟨y, rfl⟩ := hx
      simp only [upd, reduceIte, Nat.reduceEqDiff]
      refine .inl ⟨rfl, ?_⟩
      go_simp
      exact hK2 _ _ v11.symm hG0 (fun _ _ _ h => h)
    | 12, ho =>
      simp at ho; subst ho
      have hu11 : u 11 = V 11 := hΦ 11 (hd ⟨11, .data⟩ (by simp) (by rfl))
      rw [v11] at hu11
      have hu10 : u 10 = V 10 := hΦ 10 (hd ⟨10, .guard⟩ (by simp) (by rfl))
      rw [v10] at hu10
      clear hΦ hd
      have hG0 := hG
      have hx : ∃ y, u = (upd (upd y 11 (.pointer (some ⟨g, 0, none⟩))) 10 (.bool false)) := ⟨u, by rw [← upd_self hu11, ← upd_self hu10]⟩
      clear hu11 hu10
      obtain ⟨y, rfl⟩ := hx
      simp only [upd, reduceIte, Nat.reduceEqDiff]
      refine .inl ⟨rfl, ?_⟩
      have hc0 := ((hfb).keep hG0 (fun x => x)).cells
      go_simp
      exact hK2 _ _ v12.symm hG0 (fun _ _ _ h => h)
    | 13, ho =>
      simp at ho; subst ho
      have hu10 : u 10 = V 10 := hΦ 10 (hd ⟨10, .guard⟩ (by simp) (by rfl))
      rw [v10] at hu10
      clear hΦ hd
      have hG0 := hG
      have hx : ∃ y, u = (upd y 10 (.bool false)) := ⟨u, by rw [← upd_self hu10]⟩
      clear hu10
      obtain ⟨y, rfl⟩ := hx
      simp only [upd, reduceIte, Nat.reduceEqDiff]
      refine .inl ⟨rfl, ?_⟩
      go_simp
      exact hK2 _ _ v13.symm hG0 (fun _ _ _ h => h)
    | 14, ho =>
      simp at ho; subst ho
      have hu13 : u 13 = V 13 := hΦ 13 (hd ⟨13, .data⟩ (by simp) (by rfl))
      rw [v13] at hu13
      have hu10 : u 10 = V 10 := hΦ 10 (hd ⟨10, .guard⟩ (by simp) (by rfl))
      rw [v10] at hu10
      clear hΦ hd
      have hG0 := hG
      have hx : ∃ y, u = (upd (upd y 13 (.pointer (some ⟨g, 0, none⟩))) 10 (.bool false)) := ⟨u, by rw [← upd_self hu13, ← upd_self hu10]⟩
      clear hu13 hu10
      obtain ⟨y, rfl⟩ := hx
      simp only [upd, reduceIte, Nat.reduceEqDiff]
      refine .inl ⟨rfl, ?_⟩
      have hc0 := ((hfb).keep hG0 (fun x => x)).cells
      go_simp
      exact hK2 _ _ v14.symm hG0 (fun _ _ _ h => h)
    | 15, ho =>
      simp at ho; subst ho
      have hu14 : u 14 = V 14 := hΦ 14 (hd ⟨14, .data⟩ (by simp) (by rfl))
      rw [v14] at hu14
      have hu10 : u 10 = V 10 := hΦ 10 (hd ⟨10, .guard⟩ (by simp) (by rfl))
      rw [v10] at hu10
      clear hΦ hd
      have hG0 := hG
      have hx : ∃ y, u = (upd (upd y 14 (.string (bs nm))) 10 (.bool false)) := ⟨u, by rw [← upd_self hu14, ← upd_self hu10]⟩
      clear hu14 hu10
      obtain ⟨y, rfl⟩ := hx
      simp only [upd, reduceIte, Nat.reduceEqDiff]
      refine .inl ⟨rfl, ?_⟩
      go_simp
      refine (tftLower nm _ (by omega) (hT.none hG0)).mono ?_
      rintro e w4 ⟨rfl, hf4⟩
      exact hK2 _ _ v15.symm (hG0.none hf4) (fun _ _ _ h => h)
    | 16, ho =>
      simp at ho; subst ho
      have hu12 : u 12 = V 12 := hΦ 12 (hd ⟨12, .data⟩ (by simp) (by rfl))
      rw [v12] at hu12
      have hu15 : u 15 = V 15 := hΦ 15 (hd ⟨15, .data⟩ (by simp) (by rfl))
      rw [v15] at hu15
      have hu10 : u 10 = V 10 := hΦ 10 (hd ⟨10, .guard⟩ (by simp) (by rfl))
      rw [v10] at hu10
      clear hΦ hd
      have hG0 := hG
      have hx : ∃ y, u = (upd (upd (upd y 12 (.string (bs nm))) 15 (.string (bs (lowD nm)))) 10 (.bool false)) := ⟨u, by rw [← upd_self hu12, ← upd_self hu15, ← upd_self hu10]⟩
      clear hu12 hu15 hu10
      obtain ⟨y, rfl⟩ := hx
      simp only [upd, reduceIte, Nat.reduceEqDiff]
      refine .inl ⟨rfl, ?_⟩
      go_simp
      try simp [hs0]
      exact hK2 _ _ v16.symm hG0 (fun _ _ _ h => h)
    | 17, ho =>
      simp at ho; subst ho
      have hu10 : u 10 = V 10 := hΦ 10 (hd ⟨10, .data⟩ (by simp) (by rfl))
      rw [v10] at hu10
      have hu16 : u 16 = V 16 := hΦ 16 (hd ⟨16, .data⟩ (by simp) (by rfl))
      rw [v16] at hu16
      clear hΦ hd
      have hG0 := hG
      have hx : ∃ y, u = (upd (upd y 10 (.bool false)) 16 (.bool false)) := ⟨u, by rw [← upd_self hu10, ← upd_self hu16]⟩
      clear hu10 hu16
      obtain ⟨y, rfl⟩ := hx
      simp only [upd, reduceIte, Nat.reduceEqDiff]
      refine .inl ⟨rfl, ?_⟩
      go_simp
      exact hK2 _ _ v17.symm hG0 (fun _ _ _ h => h)
    | 18, ho =>
      simp at ho; subst ho
      have hu17 : u 17 = V 17 := hΦ 17 (hd ⟨17, .data⟩ (by simp) (by rfl))
      rw [v17] at hu17
      clear hΦ hd
      have hG0 := hG
      have hx : ∃ y, u = (upd y 17 (.bool false)) := ⟨u, by rw [← upd_self hu17]⟩
      clear hu17
      obtain ⟨y, rfl⟩ := hx
      simp only [upd, reduceIte, Nat.reduceEqDiff]
      refine .inl ⟨rfl, ?_⟩
      go_simp
      exact hK2 _ _ v18.symm hG0 (fun _ _ _ h => h)
    | 19, ho =>
      simp at ho; subst ho
      have hu18 : u 18 = V 18 := hΦ 18 (hd ⟨18, .guard⟩ (by simp) (by rfl))
      rw [v18] at hu18
      clear hΦ hd
      have hG0 := hG
      have hx : ∃ y, u = (upd y 18 (.bool false)) := ⟨u, by rw [← upd_self hu18]⟩
      clear hu18
      obtain ⟨y, rfl⟩ := hx
      simp only [upd, reduceIte, Nat.reduceEqDiff]
      refine .inl ⟨rfl, ?_⟩
      go_simp
      exact hK2 _ _ v19.symm hG0 (fun _ _ _ h => h)
    | 20, ho =>
      simp at ho; subst ho
      have hu19 : u 19 = V 19 := hΦ 19 (hd ⟨19, .data⟩ (by simp) (by rfl))
      rw [v19] at hu19
      have hu18 : u 18 = V 18 := hΦ 18 (hd ⟨18, .guard⟩ (by simp) (by rfl))
      rw [v18] at hu18
      clear hΦ hd
      have hG0 := hG
      have hx : ∃ y, u = (upd (upd y 19 (.pointer (some ⟨gm, 4, none⟩))) 18 (.bool false)) := ⟨u, by rw [← upd_self hu19, ← upd_self hu18]⟩
      clear hu19 hu18
      obtain ⟨y, rfl⟩ := hx
      simp only [upd, reduceIte, Nat.reduceEqDiff]
      refine .inl ⟨rfl, ?_⟩
      have hc0 := ((hmb).keep hG0 (fun x => x)).cells
      go_simp
      exact hK2 _ _ v20.symm hG0 (fun _ _ _ h => h)
    | 21, ho =>
      simp at ho; subst ho
      have hu18 : u 18 = V 18 := hΦ 18 (hd ⟨18, .guard⟩ (by simp) (by rfl))
      rw [v18] at hu18
      clear hΦ hd
      have hG0 := hG
      have hx : ∃ y, u = (upd y 18 (.bool false)) := ⟨u, by rw [← upd_self hu18]⟩
      clear hu18
      obtain ⟨y, rfl⟩ := hx
      simp only [upd, reduceIte, Nat.reduceEqDiff]
      refine .inl ⟨rfl, ?_⟩
      go_simp
      exact hK2 _ _ v21.symm hG0 (fun _ _ _ h => h)
    | 22, ho =>
      simp at ho; subst ho
      have hu20 : u 20 = V 20 := hΦ 20 (hd ⟨20, .data⟩ (by simp) (by rfl))
      rw [v20] at hu20
      have hu21 : u 21 = V 21 := hΦ 21 (hd ⟨21, .data⟩ (by simp) (by rfl))
      rw [v21] at hu21
      have hu18 : u 18 = V 18 := hΦ 18 (hd ⟨18, .guard⟩ (by simp) (by rfl))
      rw [v18] at hu18
      clear hΦ hd
      have hG0 := hG
      have hx : ∃ y, u = (upd (upd (upd y 20 (.slice A n cap)) 21 (.int .i64 (k : Int))) 18 (.bool false)) := ⟨u, by rw [← upd_self hu20, ← upd_self hu21, ← upd_self hu18]⟩
      clear hu20 hu21 hu18
      obtain ⟨y, rfl⟩ := hx
      simp only [upd, reduceIte, Nat.reduceEqDiff]
      refine .inl ⟨rfl, ?_⟩
      go_simp
      rw [if_pos (by omega)]
      go_simp
      exact hK2 _ _ v22.symm hG0 (fun _ _ _ h => h)
    | 23, ho =>
      simp at ho; subst ho
      have hu18 : u 18 = V 18 := hΦ 18 (hd ⟨18, .guard⟩ (by simp) (by rfl))
      rw [v18] at hu18
      clear hΦ hd
      have hG0 := hG
      have hx : ∃ y, u = (upd y 18 (.bool false)) := ⟨u, by rw [← upd_self hu18]⟩
      clear hu18
      obtain ⟨y, rfl⟩ := hx
      simp only [upd, reduceIte, Nat.reduceEqDiff]
      refine .inl ⟨rfl, ?_⟩
      go_simp
      exact hK2 _ _ v23.symm hG0 (fun _ _ _ h => h)
    | 24, ho =>
      simp at ho; subst ho
      have hu23 : u 23 = V 23 := hΦ 23 (hd ⟨23, .data⟩ (by simp) (by rfl))
      rw [v23] at hu23
      have hu18 : u 18 = V 18 := hΦ 18 (hd ⟨18, .guard⟩ (by simp) (by rfl))
      rw [v18] at hu18
      clear hΦ hd
      have hG0 := hG
      have hx : ∃ y, u = (upd (upd y 23 (.pointer (some ⟨g, 0, none⟩))) 18 (.bool false)) := ⟨u, by rw [← upd_self hu23, ← upd_self hu18]⟩
      clear hu23 hu18
      obtain ⟨y, rfl⟩ := hx
      simp only [upd, reduceIte, Nat.reduceEqDiff]
      refine .inl ⟨rfl, ?_⟩
      have hc0 := ((hfb).keep hG0 (fun x => x)).cells
      go_simp
      exact hK2 _ _ v24.symm hG0 (fun _ _ _ h => h)
    | 25, ho =>
      simp at ho; subst ho
      have hu22 : u 22 = V 22 := hΦ 22 (hd ⟨22, .data⟩ (by simp) (by rfl))
      rw [v22] at hu22
      have hu24 : u 24 = V 24 := hΦ 24 (hd ⟨24, .data⟩ (by simp) (by rfl))
      rw [v24] at hu24
      have hu18 : u 18 = V 18 := hΦ 18 (hd ⟨18, .guard⟩ (by simp) (by rfl))
      rw [v18] at hu18
      clear hΦ hd
      have hG0 := hG
      have hx : ∃ y, u = (upd (upd (upd y 22 (.slice A k cap)) 24 (.string (bs nm))) 18 (.bool false)) := ⟨u, by rw [← upd_self hu22, ← upd_self hu24, ← upd_self hu18]⟩
      clear hu22 hu24 hu18
      obtain ⟨y, rfl⟩ := hx
      simp only [upd, reduceIte, Nat.reduceEqDiff]
      refine .inl ⟨rfl, ?_⟩
      go_simp
      refine (tftHas A k cap b4 nm _ (hA.keep hG0) (by omega)).mono ?_
      rintro e w4 ⟨rfl, hf4⟩
      rw [hn]
      exact hK2 _ _ v25.symm (hG0.none hf4) (fun _ _ _ h => h)
    | 26, ho =>
      simp at ho; subst ho
      have hu18 : u 18 = V 18 := hΦ 18 (hd ⟨18, .data⟩ (by simp) (by rfl))
      rw [v18] at hu18
      have hu25 : u 25 = V 25 := hΦ 25 (hd ⟨25, .data⟩ (by simp) (by rfl))
      rw [v25] at hu25
      clear hΦ hd
      have hG0 := hG
      have hx : ∃ y, u = (upd (upd y 18 (.bool false)) 25 (.bool true)) := ⟨u, by rw [← upd_self hu18, ← upd_self hu25]⟩
      clear hu18 hu25
      obtain ⟨y, rfl⟩ := hx
      simp only [upd, reduceIte, Nat.reduceEqDiff]
      refine .inl ⟨rfl, ?_⟩
      go_simp
      exact hK2 _ _ v26.symm hG0 (fun _ _ _ h => h)
  · rintro u w3 hu L hall hG
    have hG0 := hG
    have ho70 : u 26 = V 26 := hu 26 (by decide)
    rw [v26] at ho70
    exact HK.out _ _ ⟨rfl, rfl⟩ (KpU.cons (rfl) (KpU.cons (h1.symm) (KpU.cons (rfl) (KpU.cons (rfl) (KpU.cons (rfl) (KpU.cons (h5.symm) (KpU.cons (h6.symm) (KpU.cons (rfl) (KpU.cons (rfl) (KpU.cons (rfl) (KpU.cons (rfl) (KpU.cons (rfl) (KpU.cons (rfl) (KpU.cons (rfl) (KpU.cons (rfl) (KpU.cons (rfl) (KpU.cons (rfl) (KpU.cons (rfl) (KpU.cons (rfl) (KpU.cons (rfl) (KpU.cons (rfl) (KpU.cons (rfl) (KpU.cons (rfl) (KpU.cons (rfl) (KpU.cons (rfl) (KpU.cons (rfl) (KpU.cons (rfl) (KpU.cons (rfl) (KpU.cons (rfl) (KpU.cons (rfl) (KpU.cons (rfl) (KpU.cons (rfl) (KpU.cons (rfl) (KpU.cons (rfl) (KpU.cons (rfl) (KpU.cons (rfl) (KpU.cons (rfl) (KpU.cons (rfl) (KpU.cons (rfl) (KpU.cons (rfl) (KpU.cons (rfl) (KpU.cons (rfl) (KpU.cons (rfl) (KpU.cons (rfl) (KpU.cons (rfl) (KpU.cons (rfl) (KpU.cons (rfl) (KpU.cons (rfl) (KpU.cons (rfl) (KpU.cons (rfl) (KpU.cons (rfl) (KpU.cons (rfl) (KpU.cons (rfl) (KpU.cons (rfl) (KpU.cons (rfl) (KpU.cons (rfl) (KpU.cons (rfl) (KpU.cons (rfl) (KpU.cons (rfl) (KpU.cons (rfl) (KpU.cons (rfl) (KpU.cons (rfl) (KpU.cons (rfl) (KpU.cons (rfl) (KpU.cons (rfl) (KpU.cons (rfl) (KpU.cons (rfl) (KpU.cons (rfl) (KpU.cons (rfl) (KpU.cons (rfl) (KpU.cons (rfl) (KpU.cons (rfl) (KpU.cons (rfl) (KpU.cons (rfl) (KpU.cons (rfl) (KpU.cons (rfl) (KpU.cons (rfl) (KpU.cons (rfl) (KpU.cons (rfl) (KpU.cons (rfl) (KpU.cons (rfl) (KpU.cons (rfl) (KpU.cons (rfl) (KpU.cons (rfl) (KpU.cons (rfl) (KpU.cons (rfl) (KpU.cons (rfl) (KpU.cons (rfl) (KpU.nil _ _))))))))))))))))))))))))))))))))))))))))))))))))))))))))))))))))))))))))))))))))))))))))) ho70 hG0

set_option maxRecDepth 20000 in
set_option maxHeartbeats 1000000 in
theorem tfR15e (g gm n k cap op bk : Nat) (A : Option Addr) (tx dt : List UInt8) (b4 : List FldD) (nm vl : List UInt8) (a : Act) (w : World) (K : Exit → Act → World → Prop) (hs : Sz 115 a)
    (h1 : sl a 1 = .pointer (some ⟨gm, 0, none⟩)) (h5 : sl a 5 = .int .i64 (k : Int)) (h6 : sl a 6 = .pointer (some ⟨g, 0, none⟩)) (hT : Tabs w) (hnl : nm.length ≤ 1099511627) (hvl : vl.length ≤ 1099511627) (hkn : k < n) (hnc : n ≤ cap) (hnn : n ≤ 4611686018427387904) (ha : wordB nm = true) (hv : wordB vl = true) (hs0 : (nm == lowD nm) = true) (hn : named b4 nm = false) (hA : SlR w noB 2 A k (fldC b4)) (hfb : Bk w g 83 #[.string (bs nm), .string (bs vl)]) (hmb : Bk w gm 81 #[.int .u16 (op : Int), .int .u16 (bk : Int), .string (bs tx), .string (bs dt), .slice A n cap])
    (hK : ∀ a' w', Sz 115 a' → Kp [0, 1, 2, 3, 4, 5, 6, 7, 8, 9, 10, 11, 12, 13, 14, 15, 16, 17, 18, 19, 20, 21, 22, 23, 24, 25, 26, 27, 28, 29, 30, 31, 32, 33, 34, 35, 36, 37, 38, 39, 40, 41, 42, 43, 71, 72, 73, 74, 75, 76, 77, 78, 79, 80, 81, 82, 83, 84, 85, 86, 87, 88, 89, 90, 91, 92, 93, 94, 95, 96, 97, 98, 99, 100, 101, 102, 103, 104, 105, 106, 107, 108, 109, 110, 111, 112, 113, 114] a a' → sl a' 70 = .bool false → Fr noB w w' → K .normal a' w') :
    (regionOf Tryz.f83 15).wp Tryz.prog K a w := by
  have hK2 : ∀ a' w', Sz 115 a' → KpU [0, 1, 2, 3, 4, 5, 6, 7, 8, 9, 10, 11, 12, 13, 14, 15, 16, 17, 18, 19, 20, 21, 22, 23, 24, 25, 26, 27, 28, 29, 30, 31, 32, 33, 34, 35, 36, 37, 38, 39, 40, 41, 42, 43, 71, 72, 73, 74, 75, 76, 77, 78, 79, 80, 81, 82, 83, 84, 85, 86, 87, 88, 89, 90, 91, 92, 93, 94, 95, 96, 97, 98, 99, 100, 101, 102, 103, 104, 105, 106, 107, 108, 109, 110, 111, 112, 113, 114] (sl a) a' → sl a' 70 = .bool false → Fr noB w w' → K .normal a' w' := hK
  clear hK
  rw [tfW_of hs]
  clear hs
  generalize sl a = z at *
  clear a
  have HK := Lib.hid hK2
  clear hK2
  conv => arg 2; whnf
  simp only [tfW, h1, h5, h6]
  obtain ⟨V, hV⟩ : ∃ V : Nat → Value, V = (fun j => match j with | 0 => .pointer (some ⟨g, 0, none⟩) | 1 => .string (bs nm) | 2 => .bool true | 3 => .bool false | 4 => .bool false | 5 => .pointer (some ⟨g, 1, none⟩) | 6 => .string (bs vl) | 7 => .bool true | 8 => .bool false | 9 => .bool false | 10 => .bool false | 11 => .pointer (some ⟨g, 0, none⟩) | 12 => .string (bs nm) | 13 => .pointer (some ⟨g, 0, none⟩) | 14 => .string (bs nm) | 15 => .string (bs (lowD nm)) | 16 => .bool false | 17 => .bool false | 18 => .bool false | 19 => .pointer (some ⟨gm, 4, none⟩) | 20 => .slice A n cap | 21 => .int .i64 (k : Int) | 22 => .slice A k cap | 23 => .pointer (some ⟨g, 0, none⟩) | 24 => .string (bs nm) | 25 => .bool false | 26 => .bool false | _ => undef) := ⟨_, rfl⟩
  have v0 : V 0 = .pointer (some ⟨g, 0, none⟩) := congrFun hV 0
  have v1 : V 1 = .string (bs nm) := congrFun hV 1
  have v2 : V 2 = .bool true := congrFun hV 2
  have v3 : V 3 = .bool false := congrFun hV 3
  have v4 : V 4 = .bool false := congrFun hV 4
  have v5 : V 5 = .pointer (some ⟨g, 1, none⟩) := congrFun hV 5
  have v6 : V 6 = .string (bs vl) := congrFun hV 6
  have v7 : V 7 = .bool true := congrFun hV 7
  have v8 : V 8 = .bool false := congrFun hV 8
  have v9 : V 9 = .bool false := congrFun hV 9
  have v10 : V 10 = .bool false := congrFun hV 10
  have v11 : V 11 = .pointer (some ⟨g, 0, none⟩) := congrFun hV 11
  have v12 : V 12 = .string (bs nm) := congrFun hV 12
  have v13 : V 13 = .pointer (some ⟨g, 0, none⟩) := congrFun hV 13
  have v14 : V 14 = .string (bs nm) := congrFun hV 14
  have v15 : V 15 = .string (bs (lowD nm)) := congrFun hV 15
  have v16 : V 16 = .bool false := congrFun hV 16
  have v17 : V 17 = .bool false := congrFun hV 17
  have v18 : V 18 = .bool false := congrFun hV 18
  have v19 : V 19 = .pointer (some ⟨gm, 4, none⟩) := congrFun hV 19
  have v20 : V 20 = .slice A n cap := congrFun hV 20
  have v21 : V 21 = .int .i64 (k : Int) := congrFun hV 21
  have v22 : V 22 = .slice A k cap := congrFun hV 22
  have v23 : V 23 = .pointer (some ⟨g, 0, none⟩) := congrFun hV 23
  have v24 : V 24 = .string (bs nm) := congrFun hV 24
  have v25 : V 25 = .bool false := congrFun hV 25
  have v26 : V 26 = .bool false := congrFun hV 26
  clear hV
  refine wp_region_ssag (by kernel_rfl) (by kernel_rfl)
    (fun u => ⟨List.toArray ((z 0) :: (.pointer (some ⟨gm, 0, none⟩)) :: (z 2) :: (z 3) :: (z 4) :: (.int .i64 (k : Int)) :: (.pointer (some ⟨g, 0, none⟩)) :: (z 7) :: (z 8) :: (z 9) :: (z 10) :: (z 11) :: (z 12) :: (z 13) :: (z 14) :: (z 15) :: (z 16) :: (z 17) :: (z 18) :: (z 19) :: (z 20) :: (z 21) :: (z 22) :: (z 23) :: (z 24) :: (z 25) :: (z 26) :: (z 27) :: (z 28) :: (z 29) :: (z 30) :: (z 31) :: (z 32) :: (z 33) :: (z 34) :: (z 35) :: (z 36) :: (z 37) :: (z 38) :: (z 39) :: (z 40) :: (z 41) :: (z 42) :: (z 43) :: (u 0) :: (u 1) :: (u 2) :: (u 3) :: (u 4) :: (u 5) :: (u 6) :: (u 7) :: (u 8) :: (u 9) :: (u 10) :: (u 11) :: (u 12) :: (u 13) :: (u 14) :: (u 15) :: (u 16) :: (u 17) :: (u 18) :: (u 19) :: (u 20) :: (u 21) :: (u 22) :: (u 23) :: (u 24) :: (u 25) :: (u 26) :: (z 71) :: (z 72) :: (z 73) :: (z 74) :: (z 75) :: (z 76) :: (z 77) :: (z 78) :: (z 79) :: (z 80) :: (z 81) :: (z 82) :: (z 83) :: (z 84) :: (z 85) :: (z 86) :: (z 87) :: (z 88) :: (z 89) :: (z 90) :: (z 91) :: (z 92) :: (z 93) :: (z 94) :: (z 95) :: (z 96) :: (z 97) :: (z 98) :: (z 99) :: (z 100) :: (z 101) :: (z 102) :: (z 103) :: (z 104) :: (z 105) :: (z 106) :: (z 107) :: (z 108) :: (z 109) :: (z 110) :: (z 111) :: (z 112) :: (z 113) :: (z 114) :: []), []⟩)
    (fun j v w3 => v = V j)
    (fun L u w3 => Fr noB w w3) (fun j => if j = 0 then z 44 else if j = 1 then z 45 else if j = 2 then z 46 else if j = 3 then z 47 else if j = 4 then z 48 else if j = 5 then z 49 else if j = 6 then z 50 else if j = 7 then z 51 else if j = 8 then z 52 else if j = 9 then z 53 else if j = 10 then z 54 else if j = 11 then z 55 else if j = 12 then z 56 else if j = 13 then z 57 else if j = 14 then z 58 else if j = 15 then z 59 else if j = 16 then z 60 else if j = 17 then z 61 else if j = 18 then z 62 else if j = 19 then z 63 else if j = 20 then z 64 else if j = 21 then z 65 else if j = 22 then z 66 else if j = 23 then z 67 else if j = 24 then z 68 else if j = 25 then z 69 else if j = 26 then z 70 else undef) ((Fr.refl _ _).drew) ?_ ?_
  · rintro L u w3 i o hG hΦ ho hL hd K2 hK2
    match i, ho with
    | 0, ho =>
      simp at ho; subst ho
      clear hΦ hd
      have hG0 := hG
      refine .inl ⟨rfl, ?_⟩
      go_simp
      exact hK2 _ _ v0.symm hG0 (fun _ _ _ h => h)
    | 1, ho =>
      simp at ho; subst ho
      have hu0 : u 0 = V 0 := hΦ 0 (hd ⟨0, .data⟩ (by simp) (by rfl))
      rw [v0] at hu0
      clear hΦ hd
      have hG0 := hG
      have hx : ∃ y, u = (upd y 0 (.pointer (some ⟨g, 0, none⟩))) := ⟨u, by rw [← upd_self hu0]⟩
      clear hu0
      obtain ⟨y, rfl⟩ := hx
      simp only [upd, reduceIte, Nat.reduceEqDiff]
      refine .inl ⟨rfl, ?_⟩
      have hc0 := ((hfb).keep hG0 (fun x => x)).cells
      go_simp
      exact hK2 _ _ v1.symm hG0 (fun _ _ _ h => h)
    | 2, ho =>
      simp at ho; subst ho
      have hu1 : u 1 = V 1 := hΦ 1 (hd ⟨1, .data⟩ (by simp) (by rfl))
      rw [v1] at hu1
      clear hΦ hd
      have hG0 := hG
      have hx : ∃ y, u = (upd y 1 (.string (bs nm))) := ⟨u, by rw [← upd_self hu1]⟩
      clear hu1
      obtain ⟨y, rfl⟩ := hx
      simp only [upd, reduceIte, Nat.reduceEqDiff]
      refine .inl ⟨rfl, ?_⟩
      go_simp
      refine (tftpAscii nm _ (by omega)).mono ?_
      rintro e w4 ⟨rfl, rfl⟩
      rw [ha]
      exact hK2 _ _ v2.symm hG0 (fun _ _ _ h => h)
    | 3, ho =>
      simp at ho; subst ho
      have hu2 : u 2 = V 2 := hΦ 2 (hd ⟨2, .data⟩ (by simp) (by rfl))
      rw [v2] at hu2
      clear hΦ hd
      have hG0 := hG
      have hx : ∃ y, u = (upd y 2 (.bool true)) := ⟨u, by rw [← upd_self hu2]⟩
      clear hu2
      obtain ⟨y, rfl⟩ := hx
      simp only [upd, reduceIte, Nat.reduceEqDiff]
      refine .inl ⟨rfl, ?_⟩
      go_simp
      exact hK2 _ _ v3.symm hG0 (fun _ _ _ h => h)
    | 4, ho =>
      simp at ho; subst ho
      have hu3 : u 3 = V 3 := hΦ 3 (hd ⟨3, .data⟩ (by simp) (by rfl))
      rw [v3] at hu3
      clear hΦ hd
      have hG0 := hG
      have hx : ∃ y, u = (upd y 3 (.bool false)) := ⟨u, by rw [← upd_self hu3]⟩
      clear hu3
      obtain ⟨y, rfl⟩ := hx
      simp only [upd, reduceIte, Nat.reduceEqDiff]
      refine .inl ⟨rfl, ?_⟩
      go_simp
      exact hK2 _ _ v4.symm hG0 (fun _ _ _ h => h)
    | 5, ho =>
      simp at ho; subst ho
      have hu4 : u 4 = V 4 := hΦ 4 (hd ⟨4, .guard⟩ (by simp) (by rfl))
      rw [v4] at hu4
      clear hΦ hd
      have hG0 := hG
      have hx : ∃ y, u = (upd y 4 (.bool false)) := ⟨u, by rw [← upd_self hu4]⟩
      clear hu4
      obtain ⟨y, rfl⟩ := hx
      simp only [upd, reduceIte, Nat.reduceEqDiff]
      refine .inl ⟨rfl, ?_⟩
      go_simp
      exact hK2 _ _ v5.symm hG0 (fun _ _ _ h => h)
    | 6, ho =>
      simp at ho; subst ho
      have hu5 : u 5 = V 5 := hΦ 5 (hd ⟨5, .data⟩ (by simp) (by rfl))
      rw [v5] at hu5
      have hu4 : u 4 = V 4 := hΦ 4 (hd ⟨4, .guard⟩ (by simp) (by rfl))
      rw [v4] at hu4
      clear hΦ hd
      have hG0 := hG
      have hx : ∃ y, u = (upd (upd y 5 (.pointer (some ⟨g, 1, none⟩))) 4 (.bool false)) := ⟨u, by rw [← upd_self hu5, ← upd_self hu4]⟩
      clear hu5 hu4
      obtain ⟨y, rfl⟩ := hx
      simp only [upd, reduceIte, Nat.reduceEqDiff]
      refine .inl ⟨rfl, ?_⟩
      have hc0 := ((hfb).keep hG0 (fun x => x)).cells
      go_simp
      exact hK2 _ _ v6.symm hG0 (fun _ _ _ h => h)
    | 7, ho =>
      simp at ho; subst ho
      have hu6 : u 6 = V 6 := hΦ 6 (hd ⟨6, .data⟩ (by simp) (by rfl))
      rw [v6] at hu6
      have hu4 : u 4 = V 4 := hΦ 4 (hd ⟨4, .guard⟩ (by simp) (by rfl))
      rw [v4] at hu4
      clear hΦ hd
      have hG0 := hG
      have hx : ∃ y, u = (upd (upd y 6 (.string (bs vl))) 4 (.bool false)) := ⟨u, by rw [← upd_self hu6, ← upd_self hu4]⟩
      clear hu6 hu4
      obtain ⟨y, rfl⟩ := hx
      simp only [upd, reduceIte, Nat.reduceEqDiff]
      refine .inl ⟨rfl, ?_⟩
      go_simp
      refine (tftpAscii vl _ (by omega)).mono ?_
      rintro e w4 ⟨rfl, rfl⟩
      rw [hv]
      exact hK2 _ _ v7.symm hG0 (fun _ _ _ h => h)
    | 8, ho =>
      simp at ho; subst ho
      have hu7 : u 7 = V 7 := hΦ 7 (hd ⟨7, .data⟩ (by simp) (by rfl))
      rw [v7] at hu7
      have hu4 : u 4 = V 4 := hΦ 4 (hd ⟨4, .guard⟩ (by simp) (by rfl))
      rw [v4] at hu4
      clear hΦ hd
      have hG0 := hG
      have hx : ∃ y, u = (upd (upd y 7 (.bool true)) 4 (.bool false)) := ⟨u, by rw [← upd_self hu7, ← upd_self hu4]⟩
      clear hu7 hu4
      obtain ⟨y, rfl⟩ := hx
      simp only [upd, reduceIte, Nat.reduceEqDiff]
      refine .inl ⟨rfl, ?_⟩
      go_simp
      exact hK2 _ _ v8.symm hG0 (fun _ _ _ h => h)
    | 9, ho =>
      simp at ho; subst ho
      have hu4 : u 4 = V 4 := hΦ 4 (hd ⟨4, .data⟩ (by simp) (by rfl))
      rw [v4] at hu4
      have hu8 : u 8 = V 8 := hΦ 8 (hd ⟨8, .data⟩ (by simp) (by rfl))
      rw [v8] at hu8
      clear hΦ hd
      have hG0 := hG
      have hx : ∃ y, u = (upd (upd y 4 (.bool false)) 8 (.bool false)) := ⟨u, by rw [← upd_self hu4, ← upd_self hu8]⟩
      clear hu4 hu8
      obtain ⟨y, rfl⟩ := hx
      simp only [upd, reduceIte, Nat.reduceEqDiff]
      refine .inl ⟨rfl, ?_⟩
      go_simp
      exact hK2 _ _ v9.symm hG0 (fun _ _ _ h => h)
    | 10, ho =>
      simp at ho; subst ho
      have hu9 : u 9 = V 9 := hΦ 9 (hd ⟨9, .data⟩ (by simp) (by rfl))
      rw [v9] at hu9
      clear hΦ hd
      have hG0 := hG
      have hx : ∃ y, u = (upd y 9 (.bool false)) := ⟨u, by rw [← upd_self hu9]⟩
      clear hu9
      obtain ⟨y, rfl⟩ := hx
      simp only [upd, reduceIte, Nat.reduceEqDiff]
      refine .inl ⟨rfl, ?_⟩
      go_simp
      exact hK2 _ _ v10.symm hG0 (fun _ _ _ h => h)
    | 11, ho =>
      simp at ho; subst ho
      have hu10 : u 10 = V 10 := hΦ 10 (hd ⟨10, .guard⟩ (by simp) (by rfl))
      rw [v10] at hu10
      clear hΦ hd
      have hG0 := hG
      have hx : ∃ y, u = (upd y 10 (.bool false)) := ⟨u, by rw [← upd_self hu10]⟩
      clear hu10
      obtain ⟨y, rfl⟩ := hx
      simp only [upd, reduceIte, Nat.reduceEqDiff]
      refine .inl ⟨rfl, ?_⟩
      go_simp
      exact hK2 _ _ v11.symm hG0 (fun _ _ _ h => h)
    | 12, ho =>
      simp at ho; subst ho
      have hu11 : u 11 = V 11 := hΦ 11 (hd ⟨11, .data⟩ (by simp) (by rfl))
      rw [v11] at hu11
      have hu10 : u 10 = V 10 := hΦ 10 (hd ⟨10, .guard⟩ (by simp) (by rfl))
      rw [v10] at hu10
      clear hΦ hd
      have hG0 := hG
      have hx : ∃ y, u = (upd (upd y 11 (.pointer (some ⟨g, 0, none⟩))) 10 (.bool false)) := ⟨u, by rw [← upd_self hu11, ← upd_self hu10]⟩
      clear hu11 hu10
      obtain ⟨y, rfl⟩ := hx
      simp only [upd, reduceIte, Nat.reduceEqDiff]
      refine .inl ⟨rfl, ?_⟩
      have hc0 := ((hfb).keep hG0 (fun x => x)).cells
      go_simp
      exact hK2 _ _ v12.symm hG0 (fun _ _ _ h => h)
    | 13, ho =>
      simp at ho; subst ho
      have hu10 : u 10 = V 10 := hΦ 10 (hd ⟨10, .guard⟩ (by simp) (by rfl))
      rw [v10] at hu10
      clear hΦ hd
      have hG0 := hG
      have hx : ∃ y, u = (upd y 10 (.bool false)) := ⟨u, by rw [← upd_self hu10]⟩
      clear hu10
      obtain ⟨y, rfl⟩ := hx
      simp only [upd, reduceIte, Nat.reduceEqDiff]
      refine .inl ⟨rfl, ?_⟩
      go_simp
      exact hK2 _ _ v13.symm hG0 (fun _ _ _ h => h)
    | 14, ho =>
      simp at ho; subst ho
      have hu13 : u 13 = V 13 := hΦ 13 (hd ⟨13, .data⟩ (by simp) (by rfl))
      rw [v13] at hu13
      have hu10 : u 10 = V 10 := hΦ 10 (hd ⟨10, .guard⟩ (by simp) (by rfl))
      rw [v10] at hu10
      clear hΦ hd
      have hG0 := hG
      have hx : ∃ y, u = (upd (upd y 13 (.pointer (some ⟨g, 0, none⟩))) 10 (.bool false)) := ⟨u, by rw [← upd_self hu13, ← upd_self hu10]⟩
      clear hu13 hu10
      obtain ⟨y, rfl⟩ := hx
      simp only [upd, reduceIte, Nat.reduceEqDiff]
      refine .inl ⟨rfl, ?_⟩
      have hc0 := ((hfb).keep hG0 (fun x => x)).cells
      go_simp
      exact hK2 _ _ v14.symm hG0 (fun _ _ _ h => h)
    | 15, ho =>
      simp at ho; subst ho
      have hu14 : u 14 = V 14 := hΦ 14 (hd ⟨14, .data⟩ (by simp) (by rfl))
      rw [v14] at hu14
      have hu10 : u 10 = V 10 := hΦ 10 (hd ⟨10, .guard⟩ (by simp) (by rfl))
      rw [v10] at hu10
      clear hΦ hd
      have hG0 := hG
      have hx : ∃ y, u = (upd (upd y 14 (.string (bs nm))) 10 (.bool false)) := ⟨u, by rw [← upd_self hu14, ← upd_self hu10]⟩
      clear hu14 hu10
      obtain ⟨y, rfl⟩ := hx
      simp only [upd, reduceIte, Nat.reduceEqDiff]
      refine .inl ⟨rfl, ?_⟩
      go_simp
      refine (tftLower nm _ (by omega) (hT.none hG0)).mono ?_
      rintro e w4 ⟨rfl, hf4⟩
      exact hK2 _ _ v15.symm (hG0.none hf4) (fun _ _ _ h => h)
    | 16, ho =>
      simp at ho; subst ho
      have hu12 : u 12 = V 12 := hΦ 12 (hd ⟨12, .data⟩ (by simp) (by rfl))
      rw [v12] at hu12
      have hu15 : u 15 = V 15 := hΦ 15 (hd ⟨15, .data⟩ (by simp) (by rfl))
      rw [v15] at hu15
      have hu10 : u 10 = V 10 := hΦ 10 (hd ⟨10, .guard⟩ (by simp) (by rfl))
      rw [v10] at hu10
      clear hΦ hd
      have hG0 := hG
      have hx : ∃ y, u = (upd (upd (upd y 12 (.string (bs nm))) 15 (.string (bs (lowD nm)))) 10 (.bool false)) := ⟨u, by rw [← upd_self hu12, ← upd_self hu15, ← upd_self hu10]⟩
      clear hu12 hu15 hu10
      obtain ⟨y, rfl⟩ := hx
      simp only [upd, reduceIte, Nat.reduceEqDiff]
      refine .inl ⟨rfl, ?_⟩
      go_simp
      try simp [hs0]
      exact hK2 _ _ v16.symm hG0 (fun _ _ _ h => h)
    | 17, ho =>
      simp at ho; subst ho
      have hu10 : u 10 = V 10 := hΦ 10 (hd ⟨10, .data⟩ (by simp) (by rfl))
      rw [v10] at hu10
      have hu16 : u 16 = V 16 := hΦ 16 (hd ⟨16, .data⟩ (by simp) (by rfl))
      rw [v16] at hu16
      clear hΦ hd
      have hG0 := hG
      have hx : ∃ y, u = (upd (upd y 10 (.bool false)) 16 (.bool false)) := ⟨u, by rw [← upd_self hu10, ← upd_self hu16]⟩
      clear hu10 hu16
      obtain ⟨y, rfl⟩ := hx
      simp only [upd, reduceIte, Nat.reduceEqDiff]
      refine .inl ⟨rfl, ?_⟩
      go_simp
      exact hK2 _ _ v17.symm hG0 (fun _ _ _ h => h)
    | 18, ho =>
      simp at ho; subst ho
      have hu17 : u 17 = V 17 := hΦ 17 (hd ⟨17, .data⟩ (by simp) (by rfl))
      rw [v17] at hu17
      clear hΦ hd
      have hG0 := hG
      have hx : ∃ y, u = (upd y 17 (.bool false)) := ⟨u, by rw [← upd_self hu17]⟩
      clear hu17
      obtain ⟨y, rfl⟩ := hx
      simp only [upd, reduceIte, Nat.reduceEqDiff]
      refine .inl ⟨rfl, ?_⟩
      go_simp
      exact hK2 _ _ v18.symm hG0 (fun _ _ _ h => h)
    | 19, ho =>
      simp at ho; subst ho
      have hu18 : u 18 = V 18 := hΦ 18 (hd ⟨18, .guard⟩ (by simp) (by rfl))
      rw [v18] at hu18
      clear hΦ hd
      have hG0 := hG
      have hx : ∃ y, u = (upd y 18 (.bool false)) := ⟨u, by rw [← upd_self hu18]⟩
      clear hu18
      obtain ⟨y, rfl⟩ := hx
      simp only [upd, reduceIte, Nat.reduceEqDiff]
      refine .inl ⟨rfl, ?_⟩
      go_simp
      exact hK2 _ _ v19.symm hG0 (fun _ _ _ h => h)
    | 20, ho =>
      simp at ho; subst ho
      have hu19 : u 19 = V 19 := hΦ 19 (hd ⟨19, .data⟩ (by simp) (by rfl))
      rw [v19] at hu19
      have hu18 : u 18 = V 18 := hΦ 18 (hd ⟨18, .guard⟩ (by simp) (by rfl))
      rw [v18] at hu18
      clear hΦ hd
      have hG0 := hG
      have hx : ∃ y, u = (upd (upd y 19 (.pointer (some ⟨gm, 4, none⟩))) 18 (.bool false)) := ⟨u, by rw [← upd_self hu19, ← upd_self hu18]⟩
      clear hu19 hu18
      obtain ⟨y, rfl⟩ := hx
      simp only [upd, reduceIte, Nat.reduceEqDiff]
      refine .inl ⟨rfl, ?_⟩
      have hc0 := ((hmb).keep hG0 (fun x => x)).cells
      go_simp
      exact hK2 _ _ v20.symm hG0 (fun _ _ _ h => h)
    | 21, ho =>
      simp at ho; subst ho
      have hu18 : u 18 = V 18 := hΦ 18 (hd ⟨18, .guard⟩ (by simp) (by rfl))
      rw [v18] at hu18
      clear hΦ hd
      have hG0 := hG
      have hx : ∃ y, u = (upd y 18 (.bool false)) := ⟨u, by rw [← upd_self hu18]⟩
      clear hu18
      obtain ⟨y, rfl⟩ := hx
      simp only [upd, reduceIte, Nat.reduceEqDiff]
      refine .inl ⟨rfl, ?_⟩
      go_simp
      exact hK2 _ _ v21.symm hG0 (fun _ _ _ h => h)
    | 22, ho =>
      simp at ho; subst ho
      have hu20 : u 20 = V 20 := hΦ 20 (hd ⟨20, .data⟩ (by simp) (by rfl))
      rw [v20] at hu20
      have hu21 : u 21 = V 21 := hΦ 21 (hd ⟨21, .data⟩ (by simp) (by rfl))
      rw [v21] at hu21
      have hu18 : u 18 = V 18 := hΦ 18 (hd ⟨18, .guard⟩ (by simp) (by rfl))
      rw [v18] at hu18
      clear hΦ hd
      have hG0 := hG
      have hx : ∃ y, u = (upd (upd (upd y 20 (.slice A n cap)) 21 (.int .i64 (k : Int))) 18 (.bool false)) := ⟨u, by rw [← upd_self hu20, ← upd_self hu21, ← upd_self hu18]⟩
      clear hu20 hu21 hu18
      obtain ⟨y, rfl⟩ := hx
      simp only [upd, reduceIte, Nat.reduceEqDiff]
      refine .inl ⟨rfl, ?_⟩
      go_simp
      rw [if_pos (by omega)]
      go_simp
      exact hK2 _ _ v22.symm hG0 (fun _ _ _ h => h)
    | 23, ho =>
      simp at ho; subst ho
      have hu18 : u 18 = V 18 := hΦ 18 (hd ⟨18, .guard⟩ (by simp) (by rfl))
      rw [v18] at hu18
      clear hΦ hd
      have hG0 := hG
      have hx : ∃ y, u = (upd y 18 (.bool false)) := ⟨u, by rw [← upd_self hu18]⟩
      clear hu18
      obtain ⟨y, rfl⟩ := hx
      simp only [upd, reduceIte, Nat.reduceEqDiff]
      refine .inl ⟨rfl, ?_⟩
      go_simp
      exact hK2 _ _ v23.symm hG0 (fun _ _ _ h => h)
    | 24, ho =>
      simp at ho; subst ho
      have hu23 : u 23 = V 23 := hΦ 23 (hd ⟨23, .data⟩ (by simp) (by rfl))
      rw [v23] at hu23
      have hu18 : u 18 = V 18 := hΦ 18 (hd ⟨18, .guard⟩ (by simp) (by rfl))
      rw [v18] at hu18
      clear hΦ hd
      have hG0 := hG
      have hx : ∃ y, u = (upd (upd y 23 (.pointer (some ⟨g, 0, none⟩))) 18 (.bool false)) := ⟨u, by rw [← upd_self hu23, ← upd_self hu18]⟩
      clear hu23 hu18
      obtain ⟨y, rfl⟩ := hx
      simp only [upd, reduceIte, Nat.reduceEqDiff]
      refine .inl ⟨rfl, ?_⟩
      have hc0 := ((hfb).keep hG0 (fun x => x)).cells
      go_simp
      exact hK2 _ _ v24.symm hG0 (fun _ _ _ h => h)
    | 25, ho =>
      simp at ho; subst ho
      have hu22 : u 22 = V 22 := hΦ 22 (hd ⟨22, .data⟩ (by simp) (by rfl))
      rw [v22] at hu22
      have hu24 : u 24 = V 24 := hΦ 24 (hd ⟨24, .data⟩ (by simp) (by rfl))
      rw [v24] at hu24
      have hu18 : u 18 = V 18 := hΦ 18 (hd ⟨18, .guard⟩ (by simp) (by rfl))
      rw [v18] at hu18
      clear hΦ hd
      have hG0 := hG
      have hx : ∃ y, u = (upd (upd (upd y 22 (.slice A k cap)) 24 (.string (bs nm))) 18 (.bool false)) := ⟨u, by rw [← upd_self hu22, ← upd_self hu24, ← upd_self hu18]⟩
      clear hu22 hu24 hu18
      obtain ⟨y, rfl⟩ := hx
      simp only [upd, reduceIte, Nat.reduceEqDiff]
      refine .inl ⟨rfl, ?_⟩
      go_simp
      refine (tftHas A k cap b4 nm _ (hA.keep hG0) (by omega)).mono ?_
      rintro e w4 ⟨rfl, hf4⟩
      rw [hn]
      exact hK2 _ _ v25.symm (hG0.none hf4) (fun _ _ _ h => h)
    | 26, ho =>
      simp at ho; subst ho
      have hu18 : u 18 = V 18 := hΦ 18 (hd ⟨18, .data⟩ (by simp) (by rfl))
      rw [v18] at hu18
      have hu25 : u 25 = V 25 := hΦ 25 (hd ⟨25, .data⟩ (by simp) (by rfl))
      rw [v25] at hu25
      clear hΦ hd
      have hG0 := hG
      have hx : ∃ y, u = (upd (upd y 18 (.bool false)) 25 (.bool false)) := ⟨u, by rw [← upd_self hu18, ← upd_self hu25]⟩
      clear hu18 hu25
      obtain ⟨y, rfl⟩ := hx
      simp only [upd, reduceIte, Nat.reduceEqDiff]
      refine .inl ⟨rfl, ?_⟩
      go_simp
      exact hK2 _ _ v26.symm hG0 (fun _ _ _ h => h)
  · rintro u w3 hu L hall hG
    have hG0 := hG
    have ho70 : u 26 = V 26 := hu 26 (by decide)
    rw [v26] at ho70
    exact HK.out _ _ ⟨rfl, rfl⟩ (KpU.cons (rfl) (KpU.cons (h1.symm) (KpU.cons (rfl) (KpU.cons (rfl) (KpU.cons (rfl) (KpU.cons (h5.symm) (KpU.cons (h6.symm) (KpU.cons (rfl) (KpU.cons (rfl) (KpU.cons (rfl) (KpU.cons (rfl) (KpU.cons (rfl) (KpU.cons (rfl) (KpU.cons (rfl) (KpU.cons (rfl) (KpU.cons (rfl) (KpU.cons (rfl) (KpU.cons (rfl) (KpU.cons (rfl) (KpU.cons (rfl) (KpU.cons (rfl) (KpU.cons (rfl) (KpU.cons (rfl) (KpU.cons (rfl) (KpU.cons (rfl) (KpU.cons (rfl) (KpU.cons (rfl) (KpU.cons (rfl) (KpU.cons (rfl) (KpU.cons (rfl) (KpU.cons (rfl) (KpU.cons (rfl) (KpU.cons (rfl) (KpU.cons (rfl) (KpU.cons (rfl) (KpU.cons (rfl) (KpU.cons (rfl) (KpU.cons (rfl) (KpU.cons (rfl) (KpU.cons (rfl) (KpU.cons (rfl) (KpU.cons (rfl) (KpU.cons (rfl) (KpU.cons (rfl) (KpU.cons (rfl) (KpU.cons (rfl) (KpU.cons (rfl) (KpU.cons (rfl) (KpU.cons (rfl) (KpU.cons (rfl) (KpU.cons (rfl) (KpU.cons (rfl) (KpU.cons (rfl) (KpU.cons (rfl) (KpU.cons (rfl) (KpU.cons (rfl) (KpU.cons (rfl) (KpU.cons (rfl) (KpU.cons (rfl) (KpU.cons (rfl) (KpU.cons (rfl) (KpU.cons (rfl) (KpU.cons (rfl) (KpU.cons (rfl) (KpU.cons (rfl) (KpU.cons (rfl) (KpU.cons (rfl) (KpU.cons (rfl) (KpU.cons (rfl) (KpU.cons (rfl) (KpU.cons (rfl) (KpU.cons (rfl) (KpU.cons (rfl) (KpU.cons (rfl) (KpU.cons (rfl) (KpU.cons (rfl) (KpU.cons (rfl) (KpU.cons (rfl) (KpU.cons (rfl) (KpU.cons (rfl) (KpU.cons (rfl) (KpU.cons (rfl) (KpU.cons (rfl) (KpU.cons (rfl) (KpU.cons (rfl) (KpU.cons (rfl) (KpU.cons (rfl) (KpU.cons (rfl) (KpU.nil _ _))))))))))))))))))))))))))))))))))))))))))))))))))))))))))))))))))))))))))))))))))))))))) ho70 hG0

end Go.Proofs.YtcbkaiakdhiloabGreatDoor
