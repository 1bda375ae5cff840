/- tftp.Write's chains. Written by mktfc.py. -/
import Derived.Test.YtcbkaiakdhiloabGreatDoorMap
import Derived.Test.YtcbkaiakdhiloabGreatDoorMaj
set_option linter.unusedSimpArgs false
set_option linter.unusedVariables false
namespace Go.Proofs.YtcbkaiakdhiloabGreatDoor
open Go.RowKit Go.Proofs
attribute [local go_sem] bs_size bs_append bs_extract bs_toList

def tcF (u : Nat → Value) : Act := ⟨#[u 0, u 1, u 2, u 3, u 4, u 5, u 6, u 7, u 8, u 9, u 10, u 11, u 12, u 13, u 14, u 15, u 16, u 17, u 18, u 19, u 20, u 21, u 22, u 23, u 24, u 25, u 26, u 27, u 28, u 29, u 30, u 31, u 32, u 33, u 34, u 35, u 36, u 37, u 38, u 39, u 40, u 41, u 42, u 43, u 44, u 45, u 46, u 47, u 48, u 49, u 50, u 51, u 52, u 53, u 54, u 55, u 56, u 57, u 58, u 59, u 60, u 61, u 62, u 63, u 64, u 65, u 66, u 67, u 68, u 69, u 70, u 71, u 72, u 73, u 74, u 75, u 76, u 77, u 78, u 79, u 80, u 81, u 82, u 83, u 84, u 85, u 86, u 87, u 88, u 89, u 90, u 91, u 92, u 93, u 94, u 95, u 96, u 97, u 98, u 99, u 100, u 101, u 102, u 103, u 104, u 105, u 106, u 107, u 108, u 109, u 110, u 111, u 112, u 113, u 114], []⟩
set_option maxRecDepth 100000 in
theorem tcF_eq (u : Nat → Value) : tcF u = frN 115 u := rfl
theorem tcF_of {a : Act} (h : Sz 115 a) : a = tcF (sl a) := h.eq.trans (tcF_eq _).symm
set_option maxRecDepth 100000 in
theorem tcF_sz (u : Nat → Value) : Sz 115 (tcF u) := ⟨rfl, rfl⟩
set_option maxRecDepth 20000 in
set_option maxHeartbeats 1000000 in
theorem tcR2 (pa op bk n cap : Nat) (Ao : Option Addr) (tx dt : List UInt8) (w1 : World) (p B : Nat) (A0 : Option Addr) (l0 : List UInt8) (a : Act) (w : World) (K : Exit → Act → World → Prop) (hs : Sz 115 a)
    (h1 : sl a 1 = .pointer (some ⟨pa, 0, none⟩)) (h4 : sl a 4 = .pointer (some ⟨p, 0, none⟩)) (hpa : Bk w1 pa 81 #[.int .u16 (op : Int), .int .u16 (bk : Int), .string (bs tx), .string (bs dt), .slice Ao n cap]) (hpn : pa ≠ p) (hop : op < 65536) (hbk : bk < 65536) (htx : tx.length ≤ 1099511) (hdt : dt.length ≤ 1099511)
     (hch0 : Chn w1 p B A0 l0 w) (N00 : l0.length ≤ 50000000)
    (hK : ∀ a' w' A', Sz 115 a' → Kp [0, 1, 2, 3, 4, 5, 6, 7, 8, 9, 15, 16, 17, 18, 19, 20, 21, 22, 23, 24, 25, 26, 27, 28, 29, 30, 31, 32, 33, 34, 35, 36, 37, 38, 39, 40, 41, 42, 43, 44, 45, 46, 47, 48, 49, 50, 51, 52, 53, 54, 55, 56, 57, 58, 59, 60, 61, 62, 63, 64, 65, 66, 67, 68, 69, 70, 71, 72, 73, 74, 75, 76, 77, 78, 79, 80, 81, 82, 83, 84, 85, 86, 87, 88, 89, 90, 91, 92, 93, 94, 95, 96, 97, 98, 99, 100, 101, 102, 103, 104, 105, 106, 107, 108, 109, 110, 111, 112, 113, 114] a a' → Chn w1 p B A' (l0 ++ bigs 2 [(op : Int)]) w' → K .normal a' w') :
    (regionOf Tryz.f83 2).wp Tryz.prog K a w := by
  have hK2 : ∀ a' w' A', Sz 115 a' → KpU [0, 1, 2, 3, 4, 5, 6, 7, 8, 9, 15, 16, 17, 18, 19, 20, 21, 22, 23, 24, 25, 26, 27, 28, 29, 30, 31, 32, 33, 34, 35, 36, 37, 38, 39, 40, 41, 42, 43, 44, 45, 46, 47, 48, 49, 50, 51, 52, 53, 54, 55, 56, 57, 58, 59, 60, 61, 62, 63, 64, 65, 66, 67, 68, 69, 70, 71, 72, 73, 74, 75, 76, 77, 78, 79, 80, 81, 82, 83, 84, 85, 86, 87, 88, 89, 90, 91, 92, 93, 94, 95, 96, 97, 98, 99, 100, 101, 102, 103, 104, 105, 106, 107, 108, 109, 110, 111, 112, 113, 114] (sl a) a' → Chn w1 p B A' (l0 ++ bigs 2 [(op : Int)]) w' → K .normal a' w' := hK
  clear hK
  rw [tcF_of hs]
  clear hs
  generalize sl a = z at *
  clear a
  have HK := Lib.hid hK2
  clear hK2
  conv => arg 2; whnf
  simp only [tcF, h1, h4]
  obtain ⟨lst, Q0, Q1⟩ : ∃ lst : Nat → List UInt8, Hid (lst 0 = l0) ∧ Hid (lst 1 = lst 0 ++ bigs 2 [(op : Int)]) := by
    exact ⟨fun k => match k with | 0 => l0 | _ => (l0 ++ bigs 2 [(op : Int)]), rfl, rfl⟩
  have N0 : Hid ((lst 0).length ≤ 50000000) := by unfold Hid; rw [Q0.out]; exact N00
  have N1 : Hid ((lst 1).length ≤ 50000000 + (2)) := by have h0 := N0.out; have h1 : ((bigs 2 [(op : Int)] : List UInt8)).length ≤ 2 := (by simp [bigs_length, macB, big_length] <;> omega); unfold Hid; rw [Q1.out, List.length_append]; omega
  obtain ⟨V, hV⟩ : ∃ V : Nat → Value, V = (fun j => match j with | 0 => .pointer (some ⟨p, 0, none⟩) | 1 => .pointer (some ⟨pa, 0, none⟩) | 2 => .int .u16 (op : Int) | 4 => .pointer (some ⟨p, 0, none⟩) | _ => undef) := ⟨_, rfl⟩
  have v0 : V 0 = .pointer (some ⟨p, 0, none⟩) := congrFun hV 0
  have v1 : V 1 = .pointer (some ⟨pa, 0, none⟩) := congrFun hV 1
  have v2 : V 2 = .int .u16 (op : Int) := congrFun hV 2
  have v4 : V 4 = .pointer (some ⟨p, 0, none⟩) := congrFun hV 4
  clear hV
  refine wp_region_ssau_plain (by kernel_rfl) (by kernel_rfl) (by kernel_rfl)
    (fun u => ⟨List.toArray ((z 0) :: (.pointer (some ⟨pa, 0, none⟩)) :: (z 2) :: (z 3) :: (.pointer (some ⟨p, 0, none⟩)) :: (z 5) :: (z 6) :: (z 7) :: (z 8) :: (z 9) :: (u 0) :: (u 1) :: (u 2) :: (u 3) :: (u 4) :: (z 15) :: (z 16) :: (z 17) :: (z 18) :: (z 19) :: (z 20) :: (z 21) :: (z 22) :: (z 23) :: (z 24) :: (z 25) :: (z 26) :: (z 27) :: (z 28) :: (z 29) :: (z 30) :: (z 31) :: (z 32) :: (z 33) :: (z 34) :: (z 35) :: (z 36) :: (z 37) :: (z 38) :: (z 39) :: (z 40) :: (z 41) :: (z 42) :: (z 43) :: (z 44) :: (z 45) :: (z 46) :: (z 47) :: (z 48) :: (z 49) :: (z 50) :: (z 51) :: (z 52) :: (z 53) :: (z 54) :: (z 55) :: (z 56) :: (z 57) :: (z 58) :: (z 59) :: (z 60) :: (z 61) :: (z 62) :: (z 63) :: (z 64) :: (z 65) :: (z 66) :: (z 67) :: (z 68) :: (z 69) :: (z 70) :: (z 71) :: (z 72) :: (z 73) :: (z 74) :: (z 75) :: (z 76) :: (z 77) :: (z 78) :: (z 79) :: (z 80) :: (z 81) :: (z 82) :: (z 83) :: (z 84) :: (z 85) :: (z 86) :: (z 87) :: (z 88) :: (z 89) :: (z 90) :: (z 91) :: (z 92) :: (z 93) :: (z 94) :: (z 95) :: (z 96) :: (z 97) :: (z 98) :: (z 99) :: (z 100) :: (z 101) :: (z 102) :: (z 103) :: (z 104) :: (z 105) :: (z 106) :: (z 107) :: (z 108) :: (z 109) :: (z 110) :: (z 111) :: (z 112) :: (z 113) :: (z 114) :: []), []⟩)
    (fun j v w3 => if j = 3 then True else v = V j)
    (fun L u w3 => ∃ (c : Nat) (A : Option Addr), (L 4 = decide (0 < c)) ∧ c ≤ 1 ∧ Chn w1 p B A (lst c) w3 ∧ AlS (L 3) (u 3) 1 24 #[.int .u16 (op : Int)] B A w3) (fun j => if j = 0 then z 10 else if j = 1 then z 11 else if j = 2 then z 12 else if j = 3 then z 13 else if j = 4 then z 14 else undef) ⟨0, A0, rfl, by omega, by rw [Q0.out]; exact hch0, AlS.false⟩ ?_ ?_
  · rintro L u w3 i o hG hΦ ho hL hd K2 hK2
    match i, ho with
    | 0, ho =>
      simp at ho; subst ho
      clear hΦ hd
      go_simp
      exact hK2 _ _ v0.symm hG (fun _ _ _ h => h)
    | 1, ho =>
      simp at ho; subst ho
      clear hΦ hd
      go_simp
      exact hK2 _ _ v1.symm hG (fun _ _ _ h => h)
    | 2, ho =>
      simp at ho; subst ho
      have hu1 : u 1 = V 1 := hΦ 1 (hd ⟨1, .data⟩ (by simp) (by rfl))
      rw [v1] at hu1
      clear hΦ hd
      obtain ⟨c, A, e0, hcn, hch, s3⟩ := hG
      have hx : ∃ y, u = (upd y 1 (.pointer (some ⟨pa, 0, none⟩))) := ⟨u, by rw [← upd_self hu1]⟩
      clear hu1
      obtain ⟨y, rfl⟩ := hx
      simp only [upd, reduceIte, Nat.reduceEqDiff]
      have hc0 := ((hpa).keep hch.fr (by unfold oneB; have := hch.lt; omega)).cells
      go_simp
      exact hK2 _ _ v2.symm ⟨c, A, e0, hcn, hch, s3⟩ (fun _ _ _ h => h)
    | 3, ho =>
      simp at ho; subst ho
      have hu2 : u 2 = V 2 := hΦ 2 (hd ⟨2, .data⟩ (by simp) (by rfl))
      rw [v2] at hu2
      clear hΦ hd
      obtain ⟨c, A, e0, hcn, hch, s3⟩ := hG
      have hx : ∃ y, u = (upd y 2 (.int .u16 (op : Int))) := ⟨u, by rw [← upd_self hu2]⟩
      clear hu2
      obtain ⟨y, rfl⟩ := hx
      simp only [upd, reduceIte, Nat.reduceEqDiff]
      go_simp
      exact hK2 _ _ trivial ⟨c, A, e0, hcn, hch.alloc _, AlS.new hch 1 24 #[.int .u16 (op : Int)]⟩ (fun _ _ _ h => h)
    | 4, ho =>
      simp at ho; subst ho
      have hu0 : u 0 = V 0 := hΦ 0 (hd ⟨0, .data⟩ (by simp) (by rfl))
      rw [v0] at hu0
      have hl3 : L 3 = true := hd ⟨3, .data⟩ (by simp) (by rfl)
      clear hΦ hd
      obtain ⟨c, A, e0, hcn, hch, s3⟩ := hG
      have hck : c = 0 := by
        have h1 := hL.symm.trans e0
        simp at h1; omega
      subst hck
      obtain ⟨g3, hg3, hb3, hB3, hn3⟩ := s3 hl3
      have hx : ∃ y, u = (upd (upd y 0 (.pointer (some ⟨p, 0, none⟩))) 3 (.slice (some ⟨g3, 0, none⟩) 1 1)) := ⟨u, by rw [← upd_self hu0, ← upd_self hg3]⟩
      clear hu0 hg3
      obtain ⟨y, rfl⟩ := hx
      simp only [upd, reduceIte, Nat.reduceEqDiff]
      go_simp
      refine (wU16 p A _ w3 _ 1 1 [(op : Int)] hch.wr (SlR.of_bk (n := 1) (size := 1) hb3 (AlS.not hch hB3 hn3) rfl) (by intro x hx; simp at hx; omega) (by omega) (by have := N0.out; first | omega | (simp; omega))).mono ?_
      rintro e w4 ⟨rfl, hw4⟩
      obtain ⟨A', hch', hal⟩ := hch.call hw4
      exact hK2 _ _ v4.symm ⟨1, A', rfl, by omega, by rw [Q1.out]; exact hch', hal _ _ _ _ _ s3⟩ (fun _ _ _ h => h)
  · rintro u w3 hu L hall hG
    obtain ⟨c, A, e0, hcn, hch, s3⟩ := hG
    have hck : c = 1 := by
      have h1 := (hall 4 (by decide)).symm.trans e0
      simp at h1; omega
    subst hck
    have hfin : lst 1 = (l0 ++ bigs 2 [(op : Int)]) := by rw [Q1.out, Q0.out]
    rw [hfin] at hch
    exact HK.out _ _ _ ⟨rfl, rfl⟩ (KpU.cons (rfl) (KpU.cons (h1.symm) (KpU.cons (rfl) (KpU.cons (rfl) (KpU.cons (h4.symm) (KpU.cons (rfl) (KpU.cons (rfl) (KpU.cons (rfl) (KpU.cons (rfl) (KpU.cons (rfl) (KpU.cons (rfl) (KpU.cons (rfl) (KpU.cons (rfl) (KpU.cons (rfl) (KpU.cons (rfl) (KpU.cons (rfl) (KpU.cons (rfl) (KpU.cons (rfl) (KpU.cons (rfl) (KpU.cons (rfl) (KpU.cons (rfl) (KpU.cons (rfl) (KpU.cons (rfl) (KpU.cons (rfl) (KpU.cons (rfl) (KpU.cons (rfl) (KpU.cons (rfl) (KpU.cons (rfl) (KpU.cons (rfl) (KpU.cons (rfl) (KpU.cons (rfl) (KpU.cons (rfl) (KpU.cons (rfl) (KpU.cons (rfl) (KpU.cons (rfl) (KpU.cons (rfl) (KpU.cons (rfl) (KpU.cons (rfl) (KpU.cons (rfl) (KpU.cons (rfl) (KpU.cons (rfl) (KpU.cons (rfl) (KpU.cons (rfl) (KpU.cons (rfl) (KpU.cons (rfl) (KpU.cons (rfl) (KpU.cons (rfl) (KpU.cons (rfl) (KpU.cons (rfl) (KpU.cons (rfl) (KpU.cons (rfl) (KpU.cons (rfl) (KpU.cons (rfl) (KpU.cons (rfl) (KpU.cons (rfl) (KpU.cons (rfl) (KpU.cons (rfl) (KpU.cons (rfl) (KpU.cons (rfl) (KpU.cons (rfl) (KpU.cons (rfl) (KpU.cons (rfl) (KpU.cons (rfl) (KpU.cons (rfl) (KpU.cons (rfl) (KpU.cons (rfl) (KpU.cons (rfl) (KpU.cons (rfl) (KpU.cons (rfl) (KpU.cons (rfl) (KpU.cons (rfl) (KpU.cons (rfl) (KpU.cons (rfl) (KpU.cons (rfl) (KpU.cons (rfl) (KpU.cons (rfl) (KpU.cons (rfl) (KpU.cons (rfl) (KpU.cons (rfl) (KpU.cons (rfl) (KpU.cons (rfl) (KpU.cons (rfl) (KpU.cons (rfl) (KpU.cons (rfl) (KpU.cons (rfl) (KpU.cons (rfl) (KpU.cons (rfl) (KpU.cons (rfl) (KpU.cons (rfl) (KpU.cons (rfl) (KpU.cons (rfl) (KpU.cons (rfl) (KpU.cons (rfl) (KpU.cons (rfl) (KpU.cons (rfl) (KpU.cons (rfl) (KpU.cons (rfl) (KpU.cons (rfl) (KpU.cons (rfl) (KpU.cons (rfl) (KpU.cons (rfl) (KpU.cons (rfl) (KpU.cons (rfl) (KpU.cons (rfl) (KpU.cons (rfl) (KpU.cons (rfl) (KpU.cons (rfl) (KpU.cons (rfl) (KpU.cons (rfl) (KpU.cons (rfl) (KpU.nil _ _)))))))))))))))))))))))))))))))))))))))))))))))))))))))))))))))))))))))))))))))))))))))))))))))))))))))))))))))  hch 

set_option maxRecDepth 20000 in
set_option maxHeartbeats 1000000 in
theorem tcR11 (pa op bk n cap : Nat) (Ao : Option Addr) (tx dt : List UInt8) (w1 : World) (p B : Nat) (A0 : Option Addr) (l0 : List UInt8) (a : Act) (w : World) (K : Exit → Act → World → Prop) (hs : Sz 115 a)
    (h1 : sl a 1 = .pointer (some ⟨pa, 0, none⟩)) (h4 : sl a 4 = .pointer (some ⟨p, 0, none⟩)) (hpa : Bk w1 pa 81 #[.int .u16 (op : Int), .int .u16 (bk : Int), .string (bs tx), .string (bs dt), .slice Ao n cap]) (hpn : pa ≠ p) (hop : op < 65536) (hbk : bk < 65536) (htx : tx.length ≤ 1099511) (hdt : dt.length ≤ 1099511)
     (hch0 : Chn w1 p B A0 l0 w) (N00 : l0.length ≤ 50000000)
    (hK : ∀ a' w' A', Sz 115 a' → Kp [0, 1, 2, 3, 4, 5, 6, 7, 8, 9, 10, 11, 12, 13, 14, 15, 16, 17, 18, 19, 20, 21, 22, 23, 24, 25, 26, 27, 28, 29, 30, 36, 37, 38, 39, 40, 41, 42, 43, 44, 45, 46, 47, 48, 49, 50, 51, 52, 53, 54, 55, 56, 57, 58, 59, 60, 61, 62, 63, 64, 65, 66, 67, 68, 69, 70, 71, 72, 73, 74, 75, 76, 77, 78, 79, 80, 81, 82, 83, 84, 85, 86, 87, 88, 89, 90, 91, 92, 93, 94, 95, 96, 97, 98, 99, 100, 101, 102, 103, 104, 105, 106, 107, 108, 109, 110, 111, 112, 113, 114] a a' → Chn w1 p B A' (l0 ++ List.flatten [tx, [0, 111, 99, 116, 101, 116, 0]]) w' → K .normal a' w') :
    (regionOf Tryz.f83 11).wp Tryz.prog K a w := by
  have hK2 : ∀ a' w' A', Sz 115 a' → KpU [0, 1, 2, 3, 4, 5, 6, 7, 8, 9, 10, 11, 12, 13, 14, 15, 16, 17, 18, 19, 20, 21, 22, 23, 24, 25, 26, 27, 28, 29, 30, 36, 37, 38, 39, 40, 41, 42, 43, 44, 45, 46, 47, 48, 49, 50, 51, 52, 53, 54, 55, 56, 57, 58, 59, 60, 61, 62, 63, 64, 65, 66, 67, 68, 69, 70, 71, 72, 73, 74, 75, 76, 77, 78, 79, 80, 81, 82, 83, 84, 85, 86, 87, 88, 89, 90, 91, 92, 93, 94, 95, 96, 97, 98, 99, 100, 101, 102, 103, 104, 105, 106, 107, 108, 109, 110, 111, 112, 113, 114] (sl a) a' → Chn w1 p B A' (l0 ++ List.flatten [tx, [0, 111, 99, 116, 101, 116, 0]]) w' → K .normal a' w' := hK
  clear hK
  rw [tcF_of hs]
  clear hs
  generalize sl a = z at *
  clear a
  have HK := Lib.hid hK2
  clear hK2
  conv => arg 2; whnf
  simp only [tcF, h1, h4]
  obtain ⟨lst, Q0, Q1⟩ : ∃ lst : Nat → List UInt8, Hid (lst 0 = l0) ∧ Hid (lst 1 = lst 0 ++ List.flatten [tx, [0, 111, 99, 116, 101, 116, 0]]) := by
    exact ⟨fun k => match k with | 0 => l0 | _ => (l0 ++ List.flatten [tx, [0, 111, 99, 116, 101, 116, 0]]), rfl, rfl⟩
  have N0 : Hid ((lst 0).length ≤ 50000000) := by unfold Hid; rw [Q0.out]; exact N00
  have N1 : Hid ((lst 1).length ≤ 50000000 + ((tx).length + ([0, 111, 99, 116, 101, 116, 0]).length)) := by have h0 := N0.out; have h1 : ((List.flatten [tx, [0, 111, 99, 116, 101, 116, 0]] : List UInt8)).length ≤ (tx).length + ([0, 111, 99, 116, 101, 116, 0]).length := (by simp [bigs_length, macB, big_length] <;> omega); unfold Hid; rw [Q1.out, List.length_append]; omega
  obtain ⟨V, hV⟩ : ∃ V : Nat → Value, V = (fun j => match j with | 0 => .pointer (some ⟨p, 0, none⟩) | 1 => .pointer (some ⟨pa, 2, none⟩) | 2 => .string (bs tx) | 4 => .pointer (some ⟨p, 0, none⟩) | _ => undef) := ⟨_, rfl⟩
  have v0 : V 0 = .pointer (some ⟨p, 0, none⟩) := congrFun hV 0
  have v1 : V 1 = .pointer (some ⟨pa, 2, none⟩) := congrFun hV 1
  have v2 : V 2 = .string (bs tx) := congrFun hV 2
  have v4 : V 4 = .pointer (some ⟨p, 0, none⟩) := congrFun hV 4
  clear hV
  refine wp_region_ssau_plain (by kernel_rfl) (by kernel_rfl) (by kernel_rfl)
    (fun u => ⟨List.toArray ((z 0) :: (.pointer (some ⟨pa, 0, none⟩)) :: (z 2) :: (z 3) :: (.pointer (some ⟨p, 0, none⟩)) :: (z 5) :: (z 6) :: (z 7) :: (z 8) :: (z 9) :: (z 10) :: (z 11) :: (z 12) :: (z 13) :: (z 14) :: (z 15) :: (z 16) :: (z 17) :: (z 18) :: (z 19) :: (z 20) :: (z 21) :: (z 22) :: (z 23) :: (z 24) :: (z 25) :: (z 26) :: (z 27) :: (z 28) :: (z 29) :: (z 30) :: (u 0) :: (u 1) :: (u 2) :: (u 3) :: (u 4) :: (z 36) :: (z 37) :: (z 38) :: (z 39) :: (z 40) :: (z 41) :: (z 42) :: (z 43) :: (z 44) :: (z 45) :: (z 46) :: (z 47) :: (z 48) :: (z 49) :: (z 50) :: (z 51) :: (z 52) :: (z 53) :: (z 54) :: (z 55) :: (z 56) :: (z 57) :: (z 58) :: (z 59) :: (z 60) :: (z 61) :: (z 62) :: (z 63) :: (z 64) :: (z 65) :: (z 66) :: (z 67) :: (z 68) :: (z 69) :: (z 70) :: (z 71) :: (z 72) :: (z 73) :: (z 74) :: (z 75) :: (z 76) :: (z 77) :: (z 78) :: (z 79) :: (z 80) :: (z 81) :: (z 82) :: (z 83) :: (z 84) :: (z 85) :: (z 86) :: (z 87) :: (z 88) :: (z 89) :: (z 90) :: (z 91) :: (z 92) :: (z 93) :: (z 94) :: (z 95) :: (z 96) :: (z 97) :: (z 98) :: (z 99) :: (z 100) :: (z 101) :: (z 102) :: (z 103) :: (z 104) :: (z 105) :: (z 106) :: (z 107) :: (z 108) :: (z 109) :: (z 110) :: (z 111) :: (z 112) :: (z 113) :: (z 114) :: []), []⟩)
    (fun j v w3 => if j = 3 then True else v = V j)
    (fun L u w3 => ∃ (c : Nat) (A : Option Addr), (L 4 = decide (0 < c)) ∧ c ≤ 1 ∧ Chn w1 p B A (lst c) w3 ∧ AlS (L 3) (u 3) 2 9 #[.string (bs tx), .string (bs [0, 111, 99, 116, 101, 116, 0])] B A w3) (fun j => if j = 0 then z 31 else if j = 1 then z 32 else if j = 2 then z 33 else if j = 3 then z 34 else if j = 4 then z 35 else undef) ⟨0, A0, rfl, by omega, by rw [Q0.out]; exact hch0, AlS.false⟩ ?_ ?_
  · rintro L u w3 i o hG hΦ ho hL hd K2 hK2
    match i, ho with
    | 0, ho =>
      simp at ho; subst ho
      clear hΦ hd
      go_simp
      exact hK2 _ _ v0.symm hG (fun _ _ _ h => h)
    | 1, ho =>
      simp at ho; subst ho
      clear hΦ hd
      go_simp
      exact hK2 _ _ v1.symm hG (fun _ _ _ h => h)
    | 2, ho =>
      simp at ho; subst ho
      have hu1 : u 1 = V 1 := hΦ 1 (hd ⟨1, .data⟩ (by simp) (by rfl))
      rw [v1] at hu1
      clear hΦ hd
      obtain ⟨c, A, e0, hcn, hch, s3⟩ := hG
      have hx : ∃ y, u = (upd y 1 (.pointer (some ⟨pa, 2, none⟩))) := ⟨u, by rw [← upd_self hu1]⟩
      clear hu1
      obtain ⟨y, rfl⟩ := hx
      simp only [upd, reduceIte, Nat.reduceEqDiff]
      have hc0 := ((hpa).keep hch.fr (by unfold oneB; have := hch.lt; omega)).cells
      go_simp
      exact hK2 _ _ v2.symm ⟨c, A, e0, hcn, hch, s3⟩ (fun _ _ _ h => h)
    | 3, ho =>
      simp at ho; subst ho
      have hu2 : u 2 = V 2 := hΦ 2 (hd ⟨2, .data⟩ (by simp) (by rfl))
      rw [v2] at hu2
      clear hΦ hd
      obtain ⟨c, A, e0, hcn, hch, s3⟩ := hG
      have hx : ∃ y, u = (upd y 2 (.string (bs tx))) := ⟨u, by rw [← upd_self hu2]⟩
      clear hu2
      obtain ⟨y, rfl⟩ := hx
      simp only [upd, reduceIte, Nat.reduceEqDiff]
      go_simp
      exact hK2 _ _ trivial ⟨c, A, e0, hcn, hch.alloc _, AlS.new hch 2 9 #[.string (bs tx), .string (bs [0, 111, 99, 116, 101, 116, 0])]⟩ (fun _ _ _ h => h)
    | 4, ho =>
      simp at ho; subst ho
      have hu0 : u 0 = V 0 := hΦ 0 (hd ⟨0, .data⟩ (by simp) (by rfl))
      rw [v0] at hu0
      have hl3 : L 3 = true := hd ⟨3, .data⟩ (by simp) (by rfl)
      clear hΦ hd
      obtain ⟨c, A, e0, hcn, hch, s3⟩ := hG
      have hck : c = 0 := by
        have h1 := hL.symm.trans e0
        simp at h1; omega
      subst hck
      obtain ⟨g3, hg3, hb3, hB3, hn3⟩ := s3 hl3
      have hx : ∃ y, u = (upd (upd y 0 (.pointer (some ⟨p, 0, none⟩))) 3 (.slice (some ⟨g3, 0, none⟩) 2 2)) := ⟨u, by rw [← upd_self hu0, ← upd_self hg3]⟩
      clear hu0 hg3
      obtain ⟨y, rfl⟩ := hx
      simp only [upd, reduceIte, Nat.reduceEqDiff]
      go_simp
      refine (wText p A _ w3 _ 2 2 [tx, [0, 111, 99, 116, 101, 116, 0]] hch.wr (SlR.of_bk (n := 2) (size := 1) hb3 (AlS.not hch hB3 hn3) rfl) (by omega) (by have := N0.out; first | omega | (simp; omega))).mono ?_
      rintro e w4 ⟨rfl, hw4⟩
      obtain ⟨A', hch', hal⟩ := hch.call hw4
      exact hK2 _ _ v4.symm ⟨1, A', rfl, by omega, by rw [Q1.out]; exact hch', hal _ _ _ _ _ s3⟩ (fun _ _ _ h => h)
  · rintro u w3 hu L hall hG
    obtain ⟨c, A, e0, hcn, hch, s3⟩ := hG
    have hck : c = 1 := by
      have h1 := (hall 4 (by decide)).symm.trans e0
      simp at h1; omega
    subst hck
    have hfin : lst 1 = (l0 ++ List.flatten [tx, [0, 111, 99, 116, 101, 116, 0]]) := by rw [Q1.out, Q0.out]
    rw [hfin] at hch
    exact HK.out _ _ _ ⟨rfl, rfl⟩ (KpU.cons (rfl) (KpU.cons (h1.symm) (KpU.cons (rfl) (KpU.cons (rfl) (KpU.cons (h4.symm) (KpU.cons (rfl) (KpU.cons (rfl) (KpU.cons (rfl) (KpU.cons (rfl) (KpU.cons (rfl) (KpU.cons (rfl) (KpU.cons (rfl) (KpU.cons (rfl) (KpU.cons (rfl) (KpU.cons (rfl) (KpU.cons (rfl) (KpU.cons (rfl) (KpU.cons (rfl) (KpU.cons (rfl) (KpU.cons (rfl) (KpU.cons (rfl) (KpU.cons (rfl) (KpU.cons (rfl) (KpU.cons (rfl) (KpU.cons (rfl) (KpU.cons (rfl) (KpU.cons (rfl) (KpU.cons (rfl) (KpU.cons (rfl) (KpU.cons (rfl) (KpU.cons (rfl) (KpU.cons (rfl) (KpU.cons (rfl) (KpU.cons (rfl) (KpU.cons (rfl) (KpU.cons (rfl) (KpU.cons (rfl) (KpU.cons (rfl) (KpU.cons (rfl) (KpU.cons (rfl) (KpU.cons (rfl) (KpU.cons (rfl) (KpU.cons (rfl) (KpU.cons (rfl) (KpU.cons (rfl) (KpU.cons (rfl) (KpU.cons (rfl) (KpU.cons (rfl) (KpU.cons (rfl) (KpU.cons (rfl) (KpU.cons (rfl) (KpU.cons (rfl) (KpU.cons (rfl) (KpU.cons (rfl) (KpU.cons (rfl) (KpU.cons (rfl) (KpU.cons (rfl) (KpU.cons (rfl) (KpU.cons (rfl) (KpU.cons (rfl) (KpU.cons (rfl) (KpU.cons (rfl) (KpU.cons (rfl) (KpU.cons (rfl) (KpU.cons (rfl) (KpU.cons (rfl) (KpU.cons (rfl) (KpU.cons (rfl) (KpU.cons (rfl) (KpU.cons (rfl) (KpU.cons (rfl) (KpU.cons (rfl) (KpU.cons (rfl) (KpU.cons (rfl) (KpU.cons (rfl) (KpU.cons (rfl) (KpU.cons (rfl) (KpU.cons (rfl) (KpU.cons (rfl) (KpU.cons (rfl) (KpU.cons (rfl) (KpU.cons (rfl) (KpU.cons (rfl) (KpU.cons (rfl) (KpU.cons (rfl) (KpU.cons (rfl) (KpU.cons (rfl) (KpU.cons (rfl) (KpU.cons (rfl) (KpU.cons (rfl) (KpU.cons (rfl) (KpU.cons (rfl) (KpU.cons (rfl) (KpU.cons (rfl) (KpU.cons (rfl) (KpU.cons (rfl) (KpU.cons (rfl) (KpU.cons (rfl) (KpU.cons (rfl) (KpU.cons (rfl) (KpU.cons (rfl) (KpU.cons (rfl) (KpU.cons (rfl) (KpU.cons (rfl) (KpU.cons (rfl) (KpU.cons (rfl) (KpU.cons (rfl) (KpU.cons (rfl) (KpU.cons (rfl) (KpU.cons (rfl) (KpU.nil _ _)))))))))))))))))))))))))))))))))))))))))))))))))))))))))))))))))))))))))))))))))))))))))))))))))))))))))))))))  hch 

set_option maxRecDepth 20000 in
set_option maxHeartbeats 1000000 in
theorem tcR22 (pa op bk n cap : Nat) (Ao : Option Addr) (tx dt : List UInt8) (w1 : World) (p B : Nat) (A0 : Option Addr) (l0 : List UInt8) (a : Act) (w : World) (K : Exit → Act → World → Prop) (hs : Sz 115 a)
    (h1 : sl a 1 = .pointer (some ⟨pa, 0, none⟩)) (h4 : sl a 4 = .pointer (some ⟨p, 0, none⟩)) (hpa : Bk w1 pa 81 #[.int .u16 (op : Int), .int .u16 (bk : Int), .string (bs tx), .string (bs dt), .slice Ao n cap]) (hpn : pa ≠ p) (hop : op < 65536) (hbk : bk < 65536) (htx : tx.length ≤ 1099511) (hdt : dt.length ≤ 1099511)
     (hch0 : Chn w1 p B A0 l0 w) (N00 : l0.length ≤ 50000000)
    (hK : ∀ a' w' A', Sz 115 a' → Kp [0, 1, 2, 3, 4, 5, 6, 7, 8, 9, 10, 11, 12, 13, 14, 15, 16, 17, 18, 19, 20, 21, 22, 23, 24, 25, 26, 27, 28, 29, 30, 31, 32, 33, 34, 35, 36, 37, 38, 39, 40, 41, 42, 43, 44, 45, 46, 47, 48, 49, 50, 51, 52, 53, 54, 55, 56, 57, 58, 59, 60, 61, 62, 63, 64, 65, 66, 67, 68, 69, 70, 71, 72, 73, 74, 75, 76, 77, 78, 79, 80, 81, 82, 83, 84, 85, 86, 87, 88, 89, 90, 91, 97, 98, 99, 100, 101, 102, 103, 104, 105, 106, 107, 108, 109, 110, 111, 112, 113, 114] a a' → Chn w1 p B A' (l0 ++ bigs 2 [(bk : Int)]) w' → K .normal a' w') :
    (regionOf Tryz.f83 22).wp Tryz.prog K a w := by
  have hK2 : ∀ a' w' A', Sz 115 a' → KpU [0, 1, 2, 3, 4, 5, 6, 7, 8, 9, 10, 11, 12, 13, 14, 15, 16, 17, 18, 19, 20, 21, 22, 23, 24, 25, 26, 27, 28, 29, 30, 31, 32, 33, 34, 35, 36, 37, 38, 39, 40, 41, 42, 43, 44, 45, 46, 47, 48, 49, 50, 51, 52, 53, 54, 55, 56, 57, 58, 59, 60, 61, 62, 63, 64, 65, 66, 67, 68, 69, 70, 71, 72, 73, 74, 75, 76, 77, 78, 79, 80, 81, 82, 83, 84, 85, 86, 87, 88, 89, 90, 91, 97, 98, 99, 100, 101, 102, 103, 104, 105, 106, 107, 108, 109, 110, 111, 112, 113, 114] (sl a) a' → Chn w1 p B A' (l0 ++ bigs 2 [(bk : Int)]) w' → K .normal a' w' := hK
  clear hK
  rw [tcF_of hs]
  clear hs
  generalize sl a = z at *
  clear a
  have HK := Lib.hid hK2
  clear hK2
  conv => arg 2; whnf
  simp only [tcF, h1, h4]
  obtain ⟨lst, Q0, Q1⟩ : ∃ lst : Nat → List UInt8, Hid (lst 0 = l0) ∧ Hid (lst 1 = lst 0 ++ bigs 2 [(bk : Int)]) := by
    exact ⟨fun k => match k with | 0 => l0 | _ => (l0 ++ bigs 2 [(bk : Int)]), rfl, rfl⟩
  have N0 : Hid ((lst 0).length ≤ 50000000) := by unfold Hid; rw [Q0.out]; exact N00
  have N1 : Hid ((lst 1).length ≤ 50000000 + (2)) := by have h0 := N0.out; have h1 : ((bigs 2 [(bk : Int)] : List UInt8)).length ≤ 2 := (by simp [bigs_length, macB, big_length] <;> omega); unfold Hid; rw [Q1.out, List.length_append]; omega
  obtain ⟨V, hV⟩ : ∃ V : Nat → Value, V = (fun j => match j with | 0 => .pointer (some ⟨p, 0, none⟩) | 1 => .pointer (some ⟨pa, 1, none⟩) | 2 => .int .u16 (bk : Int) | 4 => .pointer (some ⟨p, 0, none⟩) | _ => undef) := ⟨_, rfl⟩
  have v0 : V 0 = .pointer (some ⟨p, 0, none⟩) := congrFun hV 0
  have v1 : V 1 = .pointer (some ⟨pa, 1, none⟩) := congrFun hV 1
  have v2 : V 2 = .int .u16 (bk : Int) := congrFun hV 2
  have v4 : V 4 = .pointer (some ⟨p, 0, none⟩) := congrFun hV 4
  clear hV
  refine wp_region_ssau_plain (by kernel_rfl) (by kernel_rfl) (by kernel_rfl)
    (fun u => ⟨List.toArray ((z 0) :: (.pointer (some ⟨pa, 0, none⟩)) :: (z 2) :: (z 3) :: (.pointer (some ⟨p, 0, none⟩)) :: (z 5) :: (z 6) :: (z 7) :: (z 8) :: (z 9) :: (z 10) :: (z 11) :: (z 12) :: (z 13) :: (z 14) :: (z 15) :: (z 16) :: (z 17) :: (z 18) :: (z 19) :: (z 20) :: (z 21) :: (z 22) :: (z 23) :: (z 24) :: (z 25) :: (z 26) :: (z 27) :: (z 28) :: (z 29) :: (z 30) :: (z 31) :: (z 32) :: (z 33) :: (z 34) :: (z 35) :: (z 36) :: (z 37) :: (z 38) :: (z 39) :: (z 40) :: (z 41) :: (z 42) :: (z 43) :: (z 44) :: (z 45) :: (z 46) :: (z 47) :: (z 48) :: (z 49) :: (z 50) :: (z 51) :: (z 52) :: (z 53) :: (z 54) :: (z 55) :: (z 56) :: (z 57) :: (z 58) :: (z 59) :: (z 60) :: (z 61) :: (z 62) :: (z 63) :: (z 64) :: (z 65) :: (z 66) :: (z 67) :: (z 68) :: (z 69) :: (z 70) :: (z 71) :: (z 72) :: (z 73) :: (z 74) :: (z 75) :: (z 76) :: (z 77) :: (z 78) :: (z 79) :: (z 80) :: (z 81) :: (z 82) :: (z 83) :: (z 84) :: (z 85) :: (z 86) :: (z 87) :: (z 88) :: (z 89) :: (z 90) :: (z 91) :: (u 0) :: (u 1) :: (u 2) :: (u 3) :: (u 4) :: (z 97) :: (z 98) :: (z 99) :: (z 100) :: (z 101) :: (z 102) :: (z 103) :: (z 104) :: (z 105) :: (z 106) :: (z 107) :: (z 108) :: (z 109) :: (z 110) :: (z 111) :: (z 112) :: (z 113) :: (z 114) :: []), []⟩)
    (fun j v w3 => if j = 3 then True else v = V j)
    (fun L u w3 => ∃ (c : Nat) (A : Option Addr), (L 4 = decide (0 < c)) ∧ c ≤ 1 ∧ Chn w1 p B A (lst c) w3 ∧ AlS (L 3) (u 3) 1 24 #[.int .u16 (bk : Int)] B A w3) (fun j => if j = 0 then z 92 else if j = 1 then z 93 else if j = 2 then z 94 else if j = 3 then z 95 else if j = 4 then z 96 else undef) ⟨0, A0, rfl, by omega, by rw [Q0.out]; exact hch0, AlS.false⟩ ?_ ?_
  · rintro L u w3 i o hG hΦ ho hL hd K2 hK2
    match i, ho with
    | 0, ho =>
      simp at ho; subst ho
      clear hΦ hd
      go_simp
      exact hK2 _ _ v0.symm hG (fun _ _ _ h => h)
    | 1, ho =>
      simp at ho; subst ho
      clear hΦ hd
      go_simp
      exact hK2 _ _ v1.symm hG (fun _ _ _ h => h)
    | 2, ho =>
      simp at ho; subst ho
      have hu1 : u 1 = V 1 := hΦ 1 (hd ⟨1, .data⟩ (by simp) (by rfl))
      rw [v1] at hu1
      clear hΦ hd
      obtain ⟨c, A, e0, hcn, hch, s3⟩ := hG
      have hx : ∃ y, u = (upd y 1 (.pointer (some ⟨pa, 1, none⟩))) := ⟨u, by rw [← upd_self hu1]⟩
      clear hu1
      obtain ⟨y, rfl⟩ := hx
      simp only [upd, reduceIte, Nat.reduceEqDiff]
      have hc0 := ((hpa).keep hch.fr (by unfold oneB; have := hch.lt; omega)).cells
      go_simp
      exact hK2 _ _ v2.symm ⟨c, A, e0, hcn, hch, s3⟩ (fun _ _ _ h => h)
    | 3, ho =>
      simp at ho; subst ho
      have hu2 : u 2 = V 2 := hΦ 2 (hd ⟨2, .data⟩ (by simp) (by rfl))
      rw [v2] at hu2
      clear hΦ hd
      obtain ⟨c, A, e0, hcn, hch, s3⟩ := hG
      have hx : ∃ y, u = (upd y 2 (.int .u16 (bk : Int))) := ⟨u, by rw [← upd_self hu2]⟩
      clear hu2
      obtain ⟨y, rfl⟩ := hx
      simp only [upd, reduceIte, Nat.reduceEqDiff]
      go_simp
      exact hK2 _ _ trivial ⟨c, A, e0, hcn, hch.alloc _, AlS.new hch 1 24 #[.int .u16 (bk : Int)]⟩ (fun _ _ _ h => h)
    | 4, ho =>
      simp at ho; subst ho
      have hu0 : u 0 = V 0 := hΦ 0 (hd ⟨0, .data⟩ (by simp) (by rfl))
      rw [v0] at hu0
      have hl3 : L 3 = true := hd ⟨3, .data⟩ (by simp) (by rfl)
      clear hΦ hd
      obtain ⟨c, A, e0, hcn, hch, s3⟩ := hG
      have hck : c = 0 := by
        have h1 := hL.symm.trans e0
        simp at h1; omega
      subst hck
      obtain ⟨g3, hg3, hb3, hB3, hn3⟩ := s3 hl3
      have hx : ∃ y, u = (upd (upd y 0 (.pointer (some ⟨p, 0, none⟩))) 3 (.slice (some ⟨g3, 0, none⟩) 1 1)) := ⟨u, by rw [← upd_self hu0, ← upd_self hg3]⟩
      clear hu0 hg3
      obtain ⟨y, rfl⟩ := hx
      simp only [upd, reduceIte, Nat.reduceEqDiff]
      go_simp
      refine (wU16 p A _ w3 _ 1 1 [(bk : Int)] hch.wr (SlR.of_bk (n := 1) (size := 1) hb3 (AlS.not hch hB3 hn3) rfl) (by intro x hx; simp at hx; omega) (by omega) (by have := N0.out; first | omega | (simp; omega))).mono ?_
      rintro e w4 ⟨rfl, hw4⟩
      obtain ⟨A', hch', hal⟩ := hch.call hw4
      exact hK2 _ _ v4.symm ⟨1, A', rfl, by omega, by rw [Q1.out]; exact hch', hal _ _ _ _ _ s3⟩ (fun _ _ _ h => h)
  · rintro u w3 hu L hall hG
    obtain ⟨c, A, e0, hcn, hch, s3⟩ := hG
    have hck : c = 1 := by
      have h1 := (hall 4 (by decide)).symm.trans e0
      simp at h1; omega
    subst hck
    have hfin : lst 1 = (l0 ++ bigs 2 [(bk : Int)]) := by rw [Q1.out, Q0.out]
    rw [hfin] at hch
    exact HK.out _ _ _ ⟨rfl, rfl⟩ (KpU.cons (rfl) (KpU.cons (h1.symm) (KpU.cons (rfl) (KpU.cons (rfl) (KpU.cons (h4.symm) (KpU.cons (rfl) (KpU.cons (rfl) (KpU.cons (rfl) (KpU.cons (rfl) (KpU.cons (rfl) (KpU.cons (rfl) (KpU.cons (rfl) (KpU.cons (rfl) (KpU.cons (rfl) (KpU.cons (rfl) (KpU.cons (rfl) (KpU.cons (rfl) (KpU.cons (rfl) (KpU.cons (rfl) (KpU.cons (rfl) (KpU.cons (rfl) (KpU.cons (rfl) (KpU.cons (rfl) (KpU.cons (rfl) (KpU.cons (rfl) (KpU.cons (rfl) (KpU.cons (rfl) (KpU.cons (rfl) (KpU.cons (rfl) (KpU.cons (rfl) (KpU.cons (rfl) (KpU.cons (rfl) (KpU.cons (rfl) (KpU.cons (rfl) (KpU.cons (rfl) (KpU.cons (rfl) (KpU.cons (rfl) (KpU.cons (rfl) (KpU.cons (rfl) (KpU.cons (rfl) (KpU.cons (rfl) (KpU.cons (rfl) (KpU.cons (rfl) (KpU.cons (rfl) (KpU.cons (rfl) (KpU.cons (rfl) (KpU.cons (rfl) (KpU.cons (rfl) (KpU.cons (rfl) (KpU.cons (rfl) (KpU.cons (rfl) (KpU.cons (rfl) (KpU.cons (rfl) (KpU.cons (rfl) (KpU.cons (rfl) (KpU.cons (rfl) (KpU.cons (rfl) (KpU.cons (rfl) (KpU.cons (rfl) (KpU.cons (rfl) (KpU.cons (rfl) (KpU.cons (rfl) (KpU.cons (rfl) (KpU.cons (rfl) (KpU.cons (rfl) (KpU.cons (rfl) (KpU.cons (rfl) (KpU.cons (rfl) (KpU.cons (rfl) (KpU.cons (rfl) (KpU.cons (rfl) (KpU.cons (rfl) (KpU.cons (rfl) (KpU.cons (rfl) (KpU.cons (rfl) (KpU.cons (rfl) (KpU.cons (rfl) (KpU.cons (rfl) (KpU.cons (rfl) (KpU.cons (rfl) (KpU.cons (rfl) (KpU.cons (rfl) (KpU.cons (rfl) (KpU.cons (rfl) (KpU.cons (rfl) (KpU.cons (rfl) (KpU.cons (rfl) (KpU.cons (rfl) (KpU.cons (rfl) (KpU.cons (rfl) (KpU.cons (rfl) (KpU.cons (rfl) (KpU.cons (rfl) (KpU.cons (rfl) (KpU.cons (rfl) (KpU.cons (rfl) (KpU.cons (rfl) (KpU.cons (rfl) (KpU.cons (rfl) (KpU.cons (rfl) (KpU.cons (rfl) (KpU.cons (rfl) (KpU.cons (rfl) (KpU.cons (rfl) (KpU.cons (rfl) (KpU.cons (rfl) (KpU.cons (rfl) (KpU.cons (rfl) (KpU.cons (rfl) (KpU.cons (rfl) (KpU.nil _ _)))))))))))))))))))))))))))))))))))))))))))))))))))))))))))))))))))))))))))))))))))))))))))))))))))))))))))))))  hch 

set_option maxRecDepth 20000 in
set_option maxHeartbeats 1000000 in
theorem tcR19 (pa op bk n cap : Nat) (Ao : Option Addr) (tx dt : List UInt8) (w1 : World) (p B : Nat) (A0 : Option Addr) (l0 : List UInt8) (a : Act) (w : World) (K : Exit → Act → World → Prop) (hs : Sz 115 a)
    (h1 : sl a 1 = .pointer (some ⟨pa, 0, none⟩)) (h4 : sl a 4 = .pointer (some ⟨p, 0, none⟩)) (hpa : Bk w1 pa 81 #[.int .u16 (op : Int), .int .u16 (bk : Int), .string (bs tx), .string (bs dt), .slice Ao n cap]) (hpn : pa ≠ p) (hop : op < 65536) (hbk : bk < 65536) (htx : tx.length ≤ 1099511) (hdt : dt.length ≤ 1099511)
     (hch0 : Chn w1 p B A0 l0 w) (N00 : l0.length ≤ 50000000)
    (hK : ∀ a' w' A', Sz 115 a' → Kp [0, 1, 2, 3, 4, 5, 6, 7, 8, 9, 10, 11, 12, 13, 14, 15, 16, 17, 18, 19, 20, 21, 22, 23, 24, 25, 26, 27, 28, 29, 30, 31, 32, 33, 34, 35, 36, 37, 38, 39, 40, 41, 42, 43, 44, 45, 46, 47, 48, 49, 50, 51, 52, 53, 54, 55, 56, 57, 58, 59, 60, 61, 62, 63, 64, 65, 66, 67, 68, 69, 70, 71, 72, 73, 74, 75, 76, 77, 78, 88, 89, 90, 91, 92, 93, 94, 95, 96, 97, 98, 99, 100, 101, 102, 103, 104, 105, 106, 107, 108, 109, 110, 111, 112, 113, 114] a a' → Chn w1 p B A' ((l0 ++ bigs 2 [(bk : Int)]) ++ List.flatten [dt]) w' → K .normal a' w') :
    (regionOf Tryz.f83 19).wp Tryz.prog K a w := by
  have hK2 : ∀ a' w' A', Sz 115 a' → KpU [0, 1, 2, 3, 4, 5, 6, 7, 8, 9, 10, 11, 12, 13, 14, 15, 16, 17, 18, 19, 20, 21, 22, 23, 24, 25, 26, 27, 28, 29, 30, 31, 32, 33, 34, 35, 36, 37, 38, 39, 40, 41, 42, 43, 44, 45, 46, 47, 48, 49, 50, 51, 52, 53, 54, 55, 56, 57, 58, 59, 60, 61, 62, 63, 64, 65, 66, 67, 68, 69, 70, 71, 72, 73, 74, 75, 76, 77, 78, 88, 89, 90, 91, 92, 93, 94, 95, 96, 97, 98, 99, 100, 101, 102, 103, 104, 105, 106, 107, 108, 109, 110, 111, 112, 113, 114] (sl a) a' → Chn w1 p B A' ((l0 ++ bigs 2 [(bk : Int)]) ++ List.flatten [dt]) w' → K .normal a' w' := hK
  clear hK
  rw [tcF_of hs]
  clear hs
  generalize sl a = z at *
  clear a
  have HK := Lib.hid hK2
  clear hK2
  conv => arg 2; whnf
  simp only [tcF, h1, h4]
  obtain ⟨lst, Q0, Q1, Q2⟩ : ∃ lst : Nat → List UInt8, Hid (lst 0 = l0) ∧ Hid (lst 1 = lst 0 ++ bigs 2 [(bk : Int)]) ∧ Hid (lst 2 = lst 1 ++ List.flatten [dt]) := by
    exact ⟨fun k => match k with | 0 => l0 | 1 => (l0 ++ bigs 2 [(bk : Int)]) | _ => ((l0 ++ bigs 2 [(bk : Int)]) ++ List.flatten [dt]), rfl, rfl, rfl⟩
  have N0 : Hid ((lst 0).length ≤ 50000000) := by unfold Hid; rw [Q0.out]; exact N00
  have N1 : Hid ((lst 1).length ≤ 50000000 + (2)) := by have h0 := N0.out; have h1 : ((bigs 2 [(bk : Int)] : List UInt8)).length ≤ 2 := (by simp [bigs_length, macB, big_length] <;> omega); unfold Hid; rw [Q1.out, List.length_append]; omega
  have N2 : Hid ((lst 2).length ≤ 50000000 + (2) + ((dt).length)) := by have h0 := N1.out; have h1 : ((List.flatten [dt] : List UInt8)).length ≤ (dt).length := (by simp [bigs_length, macB, big_length] <;> omega); unfold Hid; rw [Q2.out, List.length_append]; omega
  obtain ⟨V, hV⟩ : ∃ V : Nat → Value, V = (fun j => match j with | 0 => .pointer (some ⟨p, 0, none⟩) | 1 => .pointer (some ⟨pa, 1, none⟩) | 2 => .int .u16 (bk : Int) | 4 => .pointer (some ⟨p, 0, none⟩) | 5 => .pointer (some ⟨pa, 3, none⟩) | 6 => .string (bs dt) | 8 => .pointer (some ⟨p, 0, none⟩) | _ => undef) := ⟨_, rfl⟩
  have v0 : V 0 = .pointer (some ⟨p, 0, none⟩) := congrFun hV 0
  have v1 : V 1 = .pointer (some ⟨pa, 1, none⟩) := congrFun hV 1
  have v2 : V 2 = .int .u16 (bk : Int) := congrFun hV 2
  have v4 : V 4 = .pointer (some ⟨p, 0, none⟩) := congrFun hV 4
  have v5 : V 5 = .pointer (some ⟨pa, 3, none⟩) := congrFun hV 5
  have v6 : V 6 = .string (bs dt) := congrFun hV 6
  have v8 : V 8 = .pointer (some ⟨p, 0, none⟩) := congrFun hV 8
  clear hV
  refine wp_region_ssau (by kernel_rfl) (by kernel_rfl) (by kernel_rfl)
    (fun u => ⟨List.toArray ((z 0) :: (.pointer (some ⟨pa, 0, none⟩)) :: (z 2) :: (z 3) :: (.pointer (some ⟨p, 0, none⟩)) :: (z 5) :: (z 6) :: (z 7) :: (z 8) :: (z 9) :: (z 10) :: (z 11) :: (z 12) :: (z 13) :: (z 14) :: (z 15) :: (z 16) :: (z 17) :: (z 18) :: (z 19) :: (z 20) :: (z 21) :: (z 22) :: (z 23) :: (z 24) :: (z 25) :: (z 26) :: (z 27) :: (z 28) :: (z 29) :: (z 30) :: (z 31) :: (z 32) :: (z 33) :: (z 34) :: (z 35) :: (z 36) :: (z 37) :: (z 38) :: (z 39) :: (z 40) :: (z 41) :: (z 42) :: (z 43) :: (z 44) :: (z 45) :: (z 46) :: (z 47) :: (z 48) :: (z 49) :: (z 50) :: (z 51) :: (z 52) :: (z 53) :: (z 54) :: (z 55) :: (z 56) :: (z 57) :: (z 58) :: (z 59) :: (z 60) :: (z 61) :: (z 62) :: (z 63) :: (z 64) :: (z 65) :: (z 66) :: (z 67) :: (z 68) :: (z 69) :: (z 70) :: (z 71) :: (z 72) :: (z 73) :: (z 74) :: (z 75) :: (z 76) :: (z 77) :: (z 78) :: (u 0) :: (u 1) :: (u 2) :: (u 3) :: (u 4) :: (u 5) :: (u 6) :: (u 7) :: (u 8) :: (z 88) :: (z 89) :: (z 90) :: (z 91) :: (z 92) :: (z 93) :: (z 94) :: (z 95) :: (z 96) :: (z 97) :: (z 98) :: (z 99) :: (z 100) :: (z 101) :: (z 102) :: (z 103) :: (z 104) :: (z 105) :: (z 106) :: (z 107) :: (z 108) :: (z 109) :: (z 110) :: (z 111) :: (z 112) :: (z 113) :: (z 114) :: []), []⟩)
    (fun j v w3 => if j = 3 then True else if j = 7 then True else v = V j)
    (fun L u w3 => ∃ (c : Nat) (A : Option Addr), (L 4 = decide (0 < c) ∧ L 8 = decide (1 < c)) ∧ c ≤ 2 ∧ Chn w1 p B A (lst c) w3 ∧ AlS (L 3) (u 3) 1 24 #[.int .u16 (bk : Int)] B A w3 ∧ AlS (L 7) (u 7) 1 9 #[.string (bs dt)] B A w3) (fun j => if j = 0 then z 79 else if j = 1 then z 80 else if j = 2 then z 81 else if j = 3 then z 82 else if j = 4 then z 83 else if j = 5 then z 84 else if j = 6 then z 85 else if j = 7 then z 86 else if j = 8 then z 87 else undef) ⟨0, A0, ⟨rfl, rfl⟩, by omega, by rw [Q0.out]; exact hch0.drew2, AlS.false, AlS.false⟩ ?_ ?_
  · rintro L u w3 i o hG hΦ ho hL hd K2 hK2
    match i, ho with
    | 0, ho =>
      simp at ho; subst ho
      clear hΦ hd
      go_simp
      exact hK2 _ _ v0.symm hG (fun _ _ _ h => h)
    | 1, ho =>
      simp at ho; subst ho
      clear hΦ hd
      go_simp
      exact hK2 _ _ v1.symm hG (fun _ _ _ h => h)
    | 2, ho =>
      simp at ho; subst ho
      have hu1 : u 1 = V 1 := hΦ 1 (hd ⟨1, .data⟩ (by simp) (by rfl))
      rw [v1] at hu1
      clear hΦ hd
      obtain ⟨c, A, ⟨e0, e1⟩, hcn, hch, s3, s7⟩ := hG
      have hx : ∃ y, u = (upd y 1 (.pointer (some ⟨pa, 1, none⟩))) := ⟨u, by rw [← upd_self hu1]⟩
      clear hu1
      obtain ⟨y, rfl⟩ := hx
      simp only [upd, reduceIte, Nat.reduceEqDiff]
      have hc0 := ((hpa).keep hch.fr (by unfold oneB; have := hch.lt; omega)).cells
      go_simp
      exact hK2 _ _ v2.symm ⟨c, A, ⟨e0, e1⟩, hcn, hch, s3, s7⟩ (fun _ _ _ h => h)
    | 3, ho =>
      simp at ho; subst ho
      have hu2 : u 2 = V 2 := hΦ 2 (hd ⟨2, .data⟩ (by simp) (by rfl))
      rw [v2] at hu2
      clear hΦ hd
      obtain ⟨c, A, ⟨e0, e1⟩, hcn, hch, s3, s7⟩ := hG
      have hx : ∃ y, u = (upd y 2 (.int .u16 (bk : Int))) := ⟨u, by rw [← upd_self hu2]⟩
      clear hu2
      obtain ⟨y, rfl⟩ := hx
      simp only [upd, reduceIte, Nat.reduceEqDiff]
      go_simp
      exact hK2 _ _ trivial ⟨c, A, ⟨e0, e1⟩, hcn, hch.alloc _, AlS.new hch 1 24 #[.int .u16 (bk : Int)], AlS.alloc s7 _⟩ (fun _ _ _ h => h)
    | 4, ho =>
      simp at ho; subst ho
      have hu0 : u 0 = V 0 := hΦ 0 (hd ⟨0, .data⟩ (by simp) (by rfl))
      rw [v0] at hu0
      have hl3 : L 3 = true := hd ⟨3, .data⟩ (by simp) (by rfl)
      clear hΦ hd
      obtain ⟨c, A, ⟨e0, e1⟩, hcn, hch, s3, s7⟩ := hG
      have hck : c = 0 := by
        have h1 := hL.symm.trans e0
        simp at h1; omega
      subst hck
      obtain ⟨g3, hg3, hb3, hB3, hn3⟩ := s3 hl3
      have hx : ∃ y, u = (upd (upd y 0 (.pointer (some ⟨p, 0, none⟩))) 3 (.slice (some ⟨g3, 0, none⟩) 1 1)) := ⟨u, by rw [← upd_self hu0, ← upd_self hg3]⟩
      clear hu0 hg3
      obtain ⟨y, rfl⟩ := hx
      simp only [upd, reduceIte, Nat.reduceEqDiff]
      go_simp
      refine (wU16 p A _ w3 _ 1 1 [(bk : Int)] hch.wr (SlR.of_bk (n := 1) (size := 1) hb3 (AlS.not hch hB3 hn3) rfl) (by intro x hx; simp at hx; omega) (by omega) (by have := N0.out; first | omega | (simp; omega))).mono ?_
      rintro e w4 ⟨rfl, hw4⟩
      obtain ⟨A', hch', hal⟩ := hch.call hw4
      exact hK2 _ _ v4.symm ⟨1, A', ⟨rfl, e1⟩, by omega, by rw [Q1.out]; exact hch', hal _ _ _ _ _ s3, hal _ _ _ _ _ s7⟩ (fun _ _ _ h => h)
    | 5, ho =>
      simp at ho; subst ho
      clear hΦ hd
      go_simp
      exact hK2 _ _ v5.symm hG (fun _ _ _ h => h)
    | 6, ho =>
      simp at ho; subst ho
      have hu5 : u 5 = V 5 := hΦ 5 (hd ⟨5, .data⟩ (by simp) (by rfl))
      rw [v5] at hu5
      clear hΦ hd
      obtain ⟨c, A, ⟨e0, e1⟩, hcn, hch, s3, s7⟩ := hG
      have hx : ∃ y, u = (upd y 5 (.pointer (some ⟨pa, 3, none⟩))) := ⟨u, by rw [← upd_self hu5]⟩
      clear hu5
      obtain ⟨y, rfl⟩ := hx
      simp only [upd, reduceIte, Nat.reduceEqDiff]
      have hc0 := ((hpa).keep hch.fr (by unfold oneB; have := hch.lt; omega)).cells
      go_simp
      exact hK2 _ _ v6.symm ⟨c, A, ⟨e0, e1⟩, hcn, hch, s3, s7⟩ (fun _ _ _ h => h)
    | 7, ho =>
      simp at ho; subst ho
      have hu6 : u 6 = V 6 := hΦ 6 (hd ⟨6, .data⟩ (by simp) (by rfl))
      rw [v6] at hu6
      clear hΦ hd
      obtain ⟨c, A, ⟨e0, e1⟩, hcn, hch, s3, s7⟩ := hG
      have hx : ∃ y, u = (upd y 6 (.string (bs dt))) := ⟨u, by rw [← upd_self hu6]⟩
      clear hu6
      obtain ⟨y, rfl⟩ := hx
      simp only [upd, reduceIte, Nat.reduceEqDiff]
      go_simp
      exact hK2 _ _ trivial ⟨c, A, ⟨e0, e1⟩, hcn, hch.alloc _, AlS.alloc s3 _, AlS.new hch 1 9 #[.string (bs dt)]⟩ (fun _ _ _ h => h)
    | 8, ho =>
      simp at ho; subst ho
      have hu4 : u 4 = V 4 := hΦ 4 (hd ⟨4, .data⟩ (by simp) (by rfl))
      rw [v4] at hu4
      have hl7 : L 7 = true := hd ⟨7, .data⟩ (by simp) (by rfl)
      have hlc : L 4 = true := hd ⟨4, .chain⟩ (by simp) (by rfl)
      clear hΦ hd
      obtain ⟨c, A, ⟨e0, e1⟩, hcn, hch, s3, s7⟩ := hG
      have hck : c = 1 := by
        have h1 := hL.symm.trans e1
        have h2 := hlc.symm.trans e0
        simp at h1 h2; omega
      subst hck
      obtain ⟨g7, hg7, hb7, hB7, hn7⟩ := s7 hl7
      have hx : ∃ y, u = (upd (upd y 4 (.pointer (some ⟨p, 0, none⟩))) 7 (.slice (some ⟨g7, 0, none⟩) 1 1)) := ⟨u, by rw [← upd_self hu4, ← upd_self hg7]⟩
      clear hu4 hg7
      obtain ⟨y, rfl⟩ := hx
      simp only [upd, reduceIte, Nat.reduceEqDiff]
      go_simp
      refine (wText p A _ w3 _ 1 1 [dt] hch.wr (SlR.of_bk (n := 1) (size := 1) hb7 (AlS.not hch hB7 hn7) rfl) (by omega) (by have := N1.out; first | omega | (simp; omega))).mono ?_
      rintro e w4 ⟨rfl, hw4⟩
      obtain ⟨A', hch', hal⟩ := hch.call hw4
      exact hK2 _ _ v8.symm ⟨2, A', ⟨e0, rfl⟩, by omega, by rw [Q2.out]; exact hch', hal _ _ _ _ _ s3, hal _ _ _ _ _ s7⟩ (fun _ _ _ h => h)
  · rintro u w3 hu L hall hG
    obtain ⟨c, A, ⟨e0, e1⟩, hcn, hch, s3, s7⟩ := hG
    have hck : c = 2 := by
      have h1 := (hall 8 (by decide)).symm.trans e1
      simp at h1; omega
    subst hck
    have hfin : lst 2 = ((l0 ++ bigs 2 [(bk : Int)]) ++ List.flatten [dt]) := by rw [Q2.out, Q1.out, Q0.out]
    rw [hfin] at hch
    exact HK.out _ _ _ ⟨rfl, rfl⟩ (KpU.cons (rfl) (KpU.cons (h1.symm) (KpU.cons (rfl) (KpU.cons (rfl) (KpU.cons (h4.symm) (KpU.cons (rfl) (KpU.cons (rfl) (KpU.cons (rfl) (KpU.cons (rfl) (KpU.cons (rfl) (KpU.cons (rfl) (KpU.cons (rfl) (KpU.cons (rfl) (KpU.cons (rfl) (KpU.cons (rfl) (KpU.cons (rfl) (KpU.cons (rfl) (KpU.cons (rfl) (KpU.cons (rfl) (KpU.cons (rfl) (KpU.cons (rfl) (KpU.cons (rfl) (KpU.cons (rfl) (KpU.cons (rfl) (KpU.cons (rfl) (KpU.cons (rfl) (KpU.cons (rfl) (KpU.cons (rfl) (KpU.cons (rfl) (KpU.cons (rfl) (KpU.cons (rfl) (KpU.cons (rfl) (KpU.cons (rfl) (KpU.cons (rfl) (KpU.cons (rfl) (KpU.cons (rfl) (KpU.cons (rfl) (KpU.cons (rfl) (KpU.cons (rfl) (KpU.cons (rfl) (KpU.cons (rfl) (KpU.cons (rfl) (KpU.cons (rfl) (KpU.cons (rfl) (KpU.cons (rfl) (KpU.cons (rfl) (KpU.cons (rfl) (KpU.cons (rfl) (KpU.cons (rfl) (KpU.cons (rfl) (KpU.cons (rfl) (KpU.cons (rfl) (KpU.cons (rfl) (KpU.cons (rfl) (KpU.cons (rfl) (KpU.cons (rfl) (KpU.cons (rfl) (KpU.cons (rfl) (KpU.cons (rfl) (KpU.cons (rfl) (KpU.cons (rfl) (KpU.cons (rfl) (KpU.cons (rfl) (KpU.cons (rfl) (KpU.cons (rfl) (KpU.cons (rfl) (KpU.cons (rfl) (KpU.cons (rfl) (KpU.cons (rfl) (KpU.cons (rfl) (KpU.cons (rfl) (KpU.cons (rfl) (KpU.cons (rfl) (KpU.cons (rfl) (KpU.cons (rfl) (KpU.cons (rfl) (KpU.cons (rfl) (KpU.cons (rfl) (KpU.cons (rfl) (KpU.cons (rfl) (KpU.cons (rfl) (KpU.cons (rfl) (KpU.cons (rfl) (KpU.cons (rfl) (KpU.cons (rfl) (KpU.cons (rfl) (KpU.cons (rfl) (KpU.cons (rfl) (KpU.cons (rfl) (KpU.cons (rfl) (KpU.cons (rfl) (KpU.cons (rfl) (KpU.cons (rfl) (KpU.cons (rfl) (KpU.cons (rfl) (KpU.cons (rfl) (KpU.cons (rfl) (KpU.cons (rfl) (KpU.cons (rfl) (KpU.cons (rfl) (KpU.cons (rfl) (KpU.cons (rfl) (KpU.cons (rfl) (KpU.cons (rfl) (KpU.cons (rfl) (KpU.cons (rfl) (KpU.nil _ _)))))))))))))))))))))))))))))))))))))))))))))))))))))))))))))))))))))))))))))))))))))))))))))))))))))))))))  hch 

set_option maxRecDepth 20000 in
set_option maxHeartbeats 1000000 in
theorem tcR25 (pa op bk n cap : Nat) (Ao : Option Addr) (tx dt : List UInt8) (w1 : World) (p B : Nat) (A0 : Option Addr) (l0 : List UInt8) (a : Act) (w : World) (K : Exit → Act → World → Prop) (hs : Sz 115 a)
    (h1 : sl a 1 = .pointer (some ⟨pa, 0, none⟩)) (h4 : sl a 4 = .pointer (some ⟨p, 0, none⟩)) (hpa : Bk w1 pa 81 #[.int .u16 (op : Int), .int .u16 (bk : Int), .string (bs tx), .string (bs dt), .slice Ao n cap]) (hpn : pa ≠ p) (hop : op < 65536) (hbk : bk < 65536) (htx : tx.length ≤ 1099511) (hdt : dt.length ≤ 1099511)
     (hch0 : Chn w1 p B A0 l0 w) (N00 : l0.length ≤ 50000000)
    (hK : ∀ a' w' A', Sz 115 a' → Kp [0, 1, 2, 3, 4, 5, 6, 7, 8, 9, 10, 11, 12, 13, 14, 15, 16, 17, 18, 19, 20, 21, 22, 23, 24, 25, 26, 27, 28, 29, 30, 31, 32, 33, 34, 35, 36, 37, 38, 39, 40, 41, 42, 43, 44, 45, 46, 47, 48, 49, 50, 51, 52, 53, 54, 55, 56, 57, 58, 59, 60, 61, 62, 63, 64, 65, 66, 67, 68, 69, 70, 71, 72, 73, 74, 75, 76, 77, 78, 79, 80, 81, 82, 83, 84, 85, 86, 87, 88, 89, 90, 91, 92, 93, 94, 95, 96, 97, 98, 99, 109, 110, 111, 112, 113, 114] a a' → Chn w1 p B A' ((l0 ++ bigs 2 [(bk : Int)]) ++ List.flatten [tx, [0]]) w' → K .normal a' w') :
    (regionOf Tryz.f83 25).wp Tryz.prog K a w := by
  have hK2 : ∀ a' w' A', Sz 115 a' → KpU [0, 1, 2, 3, 4, 5, 6, 7, 8, 9, 10, 11, 12, 13, 14, 15, 16, 17, 18, 19, 20, 21, 22, 23, 24, 25, 26, 27, 28, 29, 30, 31, 32, 33, 34, 35, 36, 37, 38, 39, 40, 41, 42, 43, 44, 45, 46, 47, 48, 49, 50, 51, 52, 53, 54, 55, 56, 57, 58, 59, 60, 61, 62, 63, 64, 65, 66, 67, 68, 69, 70, 71, 72, 73, 74, 75, 76, 77, 78, 79, 80, 81, 82, 83, 84, 85, 86, 87, 88, 89, 90, 91, 92, 93, 94, 95, 96, 97, 98, 99, 109, 110, 111, 112, 113, 114] (sl a) a' → Chn w1 p B A' ((l0 ++ bigs 2 [(bk : Int)]) ++ List.flatten [tx, [0]]) w' → K .normal a' w' := hK
  clear hK
  rw [tcF_of hs]
  clear hs
  generalize sl a = z at *
  clear a
  have HK := Lib.hid hK2
  clear hK2
  conv => arg 2; whnf
  simp only [tcF, h1, h4]
  obtain ⟨lst, Q0, Q1, Q2⟩ : ∃ lst : Nat → List UInt8, Hid (lst 0 = l0) ∧ Hid (lst 1 = lst 0 ++ bigs 2 [(bk : Int)]) ∧ Hid (lst 2 = lst 1 ++ List.flatten [tx, [0]]) := by
    exact ⟨fun k => match k with | 0 => l0 | 1 => (l0 ++ bigs 2 [(bk : Int)]) | _ => ((l0 ++ bigs 2 [(bk : Int)]) ++ List.flatten [tx, [0]]), rfl, rfl, rfl⟩
  have N0 : Hid ((lst 0).length ≤ 50000000) := by unfold Hid; rw [Q0.out]; exact N00
  have N1 : Hid ((lst 1).length ≤ 50000000 + (2)) := by have h0 := N0.out; have h1 : ((bigs 2 [(bk : Int)] : List UInt8)).length ≤ 2 := (by simp [bigs_length, macB, big_length] <;> omega); unfold Hid; rw [Q1.out, List.length_append]; omega
  have N2 : Hid ((lst 2).length ≤ 50000000 + (2) + ((tx).length + ([0]).length)) := by have h0 := N1.out; have h1 : ((List.flatten [tx, [0]] : List UInt8)).length ≤ (tx).length + ([0]).length := (by simp [bigs_length, macB, big_length] <;> omega); unfold Hid; rw [Q2.out, List.length_append]; omega
  obtain ⟨V, hV⟩ : ∃ V : Nat → Value, V = (fun j => match j with | 0 => .pointer (some ⟨p, 0, none⟩) | 1 => .pointer (some ⟨pa, 1, none⟩) | 2 => .int .u16 (bk : Int) | 4 => .pointer (some ⟨p, 0, none⟩) | 5 => .pointer (some ⟨pa, 2, none⟩) | 6 => .string (bs tx) | 8 => .pointer (some ⟨p, 0, none⟩) | _ => undef) := ⟨_, rfl⟩
  have v0 : V 0 = .pointer (some ⟨p, 0, none⟩) := congrFun hV 0
  have v1 : V 1 = .pointer (some ⟨pa, 1, none⟩) := congrFun hV 1
  have v2 : V 2 = .int .u16 (bk : Int) := congrFun hV 2
  have v4 : V 4 = .pointer (some ⟨p, 0, none⟩) := congrFun hV 4
  have v5 : V 5 = .pointer (some ⟨pa, 2, none⟩) := congrFun hV 5
  have v6 : V 6 = .string (bs tx) := congrFun hV 6
  have v8 : V 8 = .pointer (some ⟨p, 0, none⟩) := congrFun hV 8
  clear hV
  refine wp_region_ssau (by kernel_rfl) (by kernel_rfl) (by kernel_rfl)
    (fun u => ⟨List.toArray ((z 0) :: (.pointer (some ⟨pa, 0, none⟩)) :: (z 2) :: (z 3) :: (.pointer (some ⟨p, 0, none⟩)) :: (z 5) :: (z 6) :: (z 7) :: (z 8) :: (z 9) :: (z 10) :: (z 11) :: (z 12) :: (z 13) :: (z 14) :: (z 15) :: (z 16) :: (z 17) :: (z 18) :: (z 19) :: (z 20) :: (z 21) :: (z 22) :: (z 23) :: (z 24) :: (z 25) :: (z 26) :: (z 27) :: (z 28) :: (z 29) :: (z 30) :: (z 31) :: (z 32) :: (z 33) :: (z 34) :: (z 35) :: (z 36) :: (z 37) :: (z 38) :: (z 39) :: (z 40) :: (z 41) :: (z 42) :: (z 43) :: (z 44) :: (z 45) :: (z 46) :: (z 47) :: (z 48) :: (z 49) :: (z 50) :: (z 51) :: (z 52) :: (z 53) :: (z 54) :: (z 55) :: (z 56) :: (z 57) :: (z 58) :: (z 59) :: (z 60) :: (z 61) :: (z 62) :: (z 63) :: (z 64) :: (z 65) :: (z 66) :: (z 67) :: (z 68) :: (z 69) :: (z 70) :: (z 71) :: (z 72) :: (z 73) :: (z 74) :: (z 75) :: (z 76) :: (z 77) :: (z 78) :: (z 79) :: (z 80) :: (z 81) :: (z 82) :: (z 83) :: (z 84) :: (z 85) :: (z 86) :: (z 87) :: (z 88) :: (z 89) :: (z 90) :: (z 91) :: (z 92) :: (z 93) :: (z 94) :: (z 95) :: (z 96) :: (z 97) :: (z 98) :: (z 99) :: (u 0) :: (u 1) :: (u 2) :: (u 3) :: (u 4) :: (u 5) :: (u 6) :: (u 7) :: (u 8) :: (z 109) :: (z 110) :: (z 111) :: (z 112) :: (z 113) :: (z 114) :: []), []⟩)
    (fun j v w3 => if j = 3 then True else if j = 7 then True else v = V j)
    (fun L u w3 => ∃ (c : Nat) (A : Option Addr), (L 4 = decide (0 < c) ∧ L 8 = decide (1 < c)) ∧ c ≤ 2 ∧ Chn w1 p B A (lst c) w3 ∧ AlS (L 3) (u 3) 1 24 #[.int .u16 (bk : Int)] B A w3 ∧ AlS (L 7) (u 7) 2 9 #[.string (bs tx), .string (bs [0])] B A w3) (fun j => if j = 0 then z 100 else if j = 1 then z 101 else if j = 2 then z 102 else if j = 3 then z 103 else if j = 4 then z 104 else if j = 5 then z 105 else if j = 6 then z 106 else if j = 7 then z 107 else if j = 8 then z 108 else undef) ⟨0, A0, ⟨rfl, rfl⟩, by omega, by rw [Q0.out]; exact hch0.drew2, AlS.false, AlS.false⟩ ?_ ?_
  · rintro L u w3 i o hG hΦ ho hL hd K2 hK2
    match i, ho with
    | 0, ho =>
      simp at ho; subst ho
      clear hΦ hd
      go_simp
      exact hK2 _ _ v0.symm hG (fun _ _ _ h => h)
    | 1, ho =>
      simp at ho; subst ho
      clear hΦ hd
      go_simp
      exact hK2 _ _ v1.symm hG (fun _ _ _ h => h)
    | 2, ho =>
      simp at ho; subst ho
      have hu1 : u 1 = V 1 := hΦ 1 (hd ⟨1, .data⟩ (by simp) (by rfl))
      rw [v1] at hu1
      clear hΦ hd
      obtain ⟨c, A, ⟨e0, e1⟩, hcn, hch, s3, s7⟩ := hG
      have hx : ∃ y, u = (upd y 1 (.pointer (some ⟨pa, 1, none⟩))) := ⟨u, by rw [← upd_self hu1]⟩
      clear hu1
      obtain ⟨y, rfl⟩ := hx
      simp only [upd, reduceIte, Nat.reduceEqDiff]
      have hc0 := ((hpa).keep hch.fr (by unfold oneB; have := hch.lt; omega)).cells
      go_simp
      exact hK2 _ _ v2.symm ⟨c, A, ⟨e0, e1⟩, hcn, hch, s3, s7⟩ (fun _ _ _ h => h)
    | 3, ho =>
      simp at ho; subst ho
      have hu2 : u 2 = V 2 := hΦ 2 (hd ⟨2, .data⟩ (by simp) (by rfl))
      rw [v2] at hu2
      clear hΦ hd
      obtain ⟨c, A, ⟨e0, e1⟩, hcn, hch, s3, s7⟩ := hG
      have hx : ∃ y, u = (upd y 2 (.int .u16 (bk : Int))) := ⟨u, by rw [← upd_self hu2]⟩
      clear hu2
      obtain ⟨y, rfl⟩ := hx
      simp only [upd, reduceIte, Nat.reduceEqDiff]
      go_simp
      exact hK2 _ _ trivial ⟨c, A, ⟨e0, e1⟩, hcn, hch.alloc _, AlS.new hch 1 24 #[.int .u16 (bk : Int)], AlS.alloc s7 _⟩ (fun _ _ _ h => h)
    | 4, ho =>
      simp at ho; subst ho
      have hu0 : u 0 = V 0 := hΦ 0 (hd ⟨0, .data⟩ (by simp) (by rfl))
      rw [v0] at hu0
      have hl3 : L 3 = true := hd ⟨3, .data⟩ (by simp) (by rfl)
      clear hΦ hd
      obtain ⟨c, A, ⟨e0, e1⟩, hcn, hch, s3, s7⟩ := hG
      have hck : c = 0 := by
        have h1 := hL.symm.trans e0
        simp at h1; omega
      subst hck
      obtain ⟨g3, hg3, hb3, hB3, hn3⟩ := s3 hl3
      have hx : ∃ y, u = (upd (upd y 0 (.pointer (some ⟨p, 0, none⟩))) 3 (.slice (some ⟨g3, 0, none⟩) 1 1)) := ⟨u, by rw [← upd_self hu0, ← upd_self hg3]⟩
      clear hu0 hg3
      obtain ⟨y, rfl⟩ := hx
      simp only [upd, reduceIte, Nat.reduceEqDiff]
      go_simp
      refine (wU16 p A _ w3 _ 1 1 [(bk : Int)] hch.wr (SlR.of_bk (n := 1) (size := 1) hb3 (AlS.not hch hB3 hn3) rfl) (by intro x hx; simp at hx; omega) (by omega) (by have := N0.out; first | omega | (simp; omega))).mono ?_
      rintro e w4 ⟨rfl, hw4⟩
      obtain ⟨A', hch', hal⟩ := hch.call hw4
      exact hK2 _ _ v4.symm ⟨1, A', ⟨rfl, e1⟩, by omega, by rw [Q1.out]; exact hch', hal _ _ _ _ _ s3, hal _ _ _ _ _ s7⟩ (fun _ _ _ h => h)
    | 5, ho =>
      simp at ho; subst ho
      clear hΦ hd
      go_simp
      exact hK2 _ _ v5.symm hG (fun _ _ _ h => h)
    | 6, ho =>
      simp at ho; subst ho
      have hu5 : u 5 = V 5 := hΦ 5 (hd ⟨5, .data⟩ (by simp) (by rfl))
      rw [v5] at hu5
      clear hΦ hd
      obtain ⟨c, A, ⟨e0, e1⟩, hcn, hch, s3, s7⟩ := hG
      have hx : ∃ y, u = (upd y 5 (.pointer (some ⟨pa, 2, none⟩))) := ⟨u, by rw [← upd_self hu5]⟩
      clear hu5
      obtain ⟨y, rfl⟩ := hx
      simp only [upd, reduceIte, Nat.reduceEqDiff]
      have hc0 := ((hpa).keep hch.fr (by unfold oneB; have := hch.lt; omega)).cells
      go_simp
      exact hK2 _ _ v6.symm ⟨c, A, ⟨e0, e1⟩, hcn, hch, s3, s7⟩ (fun _ _ _ h => h)
    | 7, ho =>
      simp at ho; subst ho
      have hu6 : u 6 = V 6 := hΦ 6 (hd ⟨6, .data⟩ (by simp) (by rfl))
      rw [v6] at hu6
      clear hΦ hd
      obtain ⟨c, A, ⟨e0, e1⟩, hcn, hch, s3, s7⟩ := hG
      have hx : ∃ y, u = (upd y 6 (.string (bs tx))) := ⟨u, by rw [← upd_self hu6]⟩
      clear hu6
      obtain ⟨y, rfl⟩ := hx
      simp only [upd, reduceIte, Nat.reduceEqDiff]
      go_simp
      exact hK2 _ _ trivial ⟨c, A, ⟨e0, e1⟩, hcn, hch.alloc _, AlS.alloc s3 _, AlS.new hch 2 9 #[.string (bs tx), .string (bs [0])]⟩ (fun _ _ _ h => h)
    | 8, ho =>
      simp at ho; subst ho
      have hu4 : u 4 = V 4 := hΦ 4 (hd ⟨4, .data⟩ (by simp) (by rfl))
      rw [v4] at hu4
      have hl7 : L 7 = true := hd ⟨7, .data⟩ (by simp) (by rfl)
      have hlc : L 4 = true := hd ⟨4, .chain⟩ (by simp) (by rfl)
      clear hΦ hd
      obtain ⟨c, A, ⟨e0, e1⟩, hcn, hch, s3, s7⟩ := hG
      have hck : c = 1 := by
        have h1 := hL.symm.trans e1
        have h2 := hlc.symm.trans e0
        simp at h1 h2; omega
      subst hck
      obtain ⟨g7, hg7, hb7, hB7, hn7⟩ := s7 hl7
      have hx : ∃ y, u = (upd (upd y 4 (.pointer (some ⟨p, 0, none⟩))) 7 (.slice (some ⟨g7, 0, none⟩) 2 2)) := ⟨u, by rw [← upd_self hu4, ← upd_self hg7]⟩
      clear hu4 hg7
      obtain ⟨y, rfl⟩ := hx
      simp only [upd, reduceIte, Nat.reduceEqDiff]
      go_simp
      refine (wText p A _ w3 _ 2 2 [tx, [0]] hch.wr (SlR.of_bk (n := 2) (size := 1) hb7 (AlS.not hch hB7 hn7) rfl) (by omega) (by have := N1.out; first | omega | (simp; omega))).mono ?_
      rintro e w4 ⟨rfl, hw4⟩
      obtain ⟨A', hch', hal⟩ := hch.call hw4
      exact hK2 _ _ v8.symm ⟨2, A', ⟨e0, rfl⟩, by omega, by rw [Q2.out]; exact hch', hal _ _ _ _ _ s3, hal _ _ _ _ _ s7⟩ (fun _ _ _ h => h)
  · rintro u w3 hu L hall hG
    obtain ⟨c, A, ⟨e0, e1⟩, hcn, hch, s3, s7⟩ := hG
    have hck : c = 2 := by
      have h1 := (hall 8 (by decide)).symm.trans e1
      simp at h1; omega
    subst hck
    have hfin : lst 2 = ((l0 ++ bigs 2 [(bk : Int)]) ++ List.flatten [tx, [0]]) := by rw [Q2.out, Q1.out, Q0.out]
    rw [hfin] at hch
    exact HK.out _ _ _ ⟨rfl, rfl⟩ (KpU.cons (rfl) (KpU.cons (h1.symm) (KpU.cons (rfl) (KpU.cons (rfl) (KpU.cons (h4.symm) (KpU.cons (rfl) (KpU.cons (rfl) (KpU.cons (rfl) (KpU.cons (rfl) (KpU.cons (rfl) (KpU.cons (rfl) (KpU.cons (rfl) (KpU.cons (rfl) (KpU.cons (rfl) (KpU.cons (rfl) (KpU.cons (rfl) (KpU.cons (rfl) (KpU.cons (rfl) (KpU.cons (rfl) (KpU.cons (rfl) (KpU.cons (rfl) (KpU.cons (rfl) (KpU.cons (rfl) (KpU.cons (rfl) (KpU.cons (rfl) (KpU.cons (rfl) (KpU.cons (rfl) (KpU.cons (rfl) (KpU.cons (rfl) (KpU.cons (rfl) (KpU.cons (rfl) (KpU.cons (rfl) (KpU.cons (rfl) (KpU.cons (rfl) (KpU.cons (rfl) (KpU.cons (rfl) (KpU.cons (rfl) (KpU.cons (rfl) (KpU.cons (rfl) (KpU.cons (rfl) (KpU.cons (rfl) (KpU.cons (rfl) (KpU.cons (rfl) (KpU.cons (rfl) (KpU.cons (rfl) (KpU.cons (rfl) (KpU.cons (rfl) (KpU.cons (rfl) (KpU.cons (rfl) (KpU.cons (rfl) (KpU.cons (rfl) (KpU.cons (rfl) (KpU.cons (rfl) (KpU.cons (rfl) (KpU.cons (rfl) (KpU.cons (rfl) (KpU.cons (rfl) (KpU.cons (rfl) (KpU.cons (rfl) (KpU.cons (rfl) (KpU.cons (rfl) (KpU.cons (rfl) (KpU.cons (rfl) (KpU.cons (rfl) (KpU.cons (rfl) (KpU.cons (rfl) (KpU.cons (rfl) (KpU.cons (rfl) (KpU.cons (rfl) (KpU.cons (rfl) (KpU.cons (rfl) (KpU.cons (rfl) (KpU.cons (rfl) (KpU.cons (rfl) (KpU.cons (rfl) (KpU.cons (rfl) (KpU.cons (rfl) (KpU.cons (rfl) (KpU.cons (rfl) (KpU.cons (rfl) (KpU.cons (rfl) (KpU.cons (rfl) (KpU.cons (rfl) (KpU.cons (rfl) (KpU.cons (rfl) (KpU.cons (rfl) (KpU.cons (rfl) (KpU.cons (rfl) (KpU.cons (rfl) (KpU.cons (rfl) (KpU.cons (rfl) (KpU.cons (rfl) (KpU.cons (rfl) (KpU.cons (rfl) (KpU.cons (rfl) (KpU.cons (rfl) (KpU.cons (rfl) (KpU.cons (rfl) (KpU.cons (rfl) (KpU.cons (rfl) (KpU.cons (rfl) (KpU.cons (rfl) (KpU.cons (rfl) (KpU.cons (rfl) (KpU.cons (rfl) (KpU.cons (rfl) (KpU.nil _ _)))))))))))))))))))))))))))))))))))))))))))))))))))))))))))))))))))))))))))))))))))))))))))))))))))))))))))  hch 

set_option maxRecDepth 20000 in
set_option maxHeartbeats 1000000 in
theorem tcR17 (gf : Nat) (nm vl : List UInt8) (w1 : World) (p B : Nat) (A0 : Option Addr) (l0 : List UInt8) (a : Act) (w : World) (K : Exit → Act → World → Prop) (hs : Sz 115 a)
    (h4 : sl a 4 = .pointer (some ⟨p, 0, none⟩)) (h6 : sl a 6 = .pointer (some ⟨gf, 0, none⟩)) (hnm : nm.length ≤ 1099511) (hvl : vl.length ≤ 1099511)
    (hxf : AlS true (.slice (some ⟨gf, 0, none⟩) 0 0) 0 83 #[.string (bs nm), .string (bs vl)] B A0 w) (hch0 : Chn w1 p B A0 l0 w) (N00 : l0.length ≤ 50000000)
    (hK : ∀ a' w' A', Sz 115 a' → Kp [0, 1, 2, 3, 4, 5, 6, 7, 8, 9, 10, 11, 12, 13, 14, 15, 16, 17, 18, 19, 20, 21, 22, 23, 24, 25, 26, 27, 28, 29, 30, 31, 32, 33, 34, 35, 36, 37, 38, 39, 40, 41, 42, 43, 44, 45, 46, 47, 48, 49, 50, 51, 52, 53, 54, 55, 56, 57, 58, 59, 60, 61, 62, 63, 64, 65, 66, 67, 68, 69, 70, 78, 79, 80, 81, 82, 83, 84, 85, 86, 87, 88, 89, 90, 91, 92, 93, 94, 95, 96, 97, 98, 99, 100, 101, 102, 103, 104, 105, 106, 107, 108, 109, 110, 111, 112, 113, 114] a a' → Chn w1 p B A' (l0 ++ List.flatten [nm, [0], vl, [0]]) w' → AlS true (.slice (some ⟨gf, 0, none⟩) 0 0) 0 83 #[.string (bs nm), .string (bs vl)] B A' w' → K .normal a' w') :
    (regionOf Tryz.f83 17).wp Tryz.prog K a w := by
  have hK2 : ∀ a' w' A', Sz 115 a' → KpU [0, 1, 2, 3, 4, 5, 6, 7, 8, 9, 10, 11, 12, 13, 14, 15, 16, 17, 18, 19, 20, 21, 22, 23, 24, 25, 26, 27, 28, 29, 30, 31, 32, 33, 34, 35, 36, 37, 38, 39, 40, 41, 42, 43, 44, 45, 46, 47, 48, 49, 50, 51, 52, 53, 54, 55, 56, 57, 58, 59, 60, 61, 62, 63, 64, 65, 66, 67, 68, 69, 70, 78, 79, 80, 81, 82, 83, 84, 85, 86, 87, 88, 89, 90, 91, 92, 93, 94, 95, 96, 97, 98, 99, 100, 101, 102, 103, 104, 105, 106, 107, 108, 109, 110, 111, 112, 113, 114] (sl a) a' → Chn w1 p B A' (l0 ++ List.flatten [nm, [0], vl, [0]]) w' → AlS true (.slice (some ⟨gf, 0, none⟩) 0 0) 0 83 #[.string (bs nm), .string (bs vl)] B A' w' → K .normal a' w' := hK
  clear hK
  rw [tcF_of hs]
  clear hs
  generalize sl a = z at *
  clear a
  have HK := Lib.hid hK2
  clear hK2
  conv => arg 2; whnf
  simp only [tcF, h4, h6]
  obtain ⟨lst, Q0, Q1⟩ : ∃ lst : Nat → List UInt8, Hid (lst 0 = l0) ∧ Hid (lst 1 = lst 0 ++ List.flatten [nm, [0], vl, [0]]) := by
    exact ⟨fun k => match k with | 0 => l0 | _ => (l0 ++ List.flatten [nm, [0], vl, [0]]), rfl, rfl⟩
  have N0 : Hid ((lst 0).length ≤ 50000000) := by unfold Hid; rw [Q0.out]; exact N00
  have N1 : Hid ((lst 1).length ≤ 50000000 + ((nm).length + ([0]).length + (vl).length + ([0]).length)) := by have h0 := N0.out; have h1 : ((List.flatten [nm, [0], vl, [0]] : List UInt8)).length ≤ (nm).length + ([0]).length + (vl).length + ([0]).length := (by simp [bigs_length, macB, big_length] <;> omega); unfold Hid; rw [Q1.out, List.length_append]; omega
  obtain ⟨V, hV⟩ : ∃ V : Nat → Value, V = (fun j => match j with | 0 => .pointer (some ⟨p, 0, none⟩) | 1 => .pointer (some ⟨gf, 0, none⟩) | 2 => .string (bs nm) | 3 => .pointer (some ⟨gf, 1, none⟩) | 4 => .string (bs vl) | 6 => .pointer (some ⟨p, 0, none⟩) | _ => undef) := ⟨_, rfl⟩
  have v0 : V 0 = .pointer (some ⟨p, 0, none⟩) := congrFun hV 0
  have v1 : V 1 = .pointer (some ⟨gf, 0, none⟩) := congrFun hV 1
  have v2 : V 2 = .string (bs nm) := congrFun hV 2
  have v3 : V 3 = .pointer (some ⟨gf, 1, none⟩) := congrFun hV 3
  have v4 : V 4 = .string (bs vl) := congrFun hV 4
  have v6 : V 6 = .pointer (some ⟨p, 0, none⟩) := congrFun hV 6
  clear hV
  refine wp_region_ssau_plain (by kernel_rfl) (by kernel_rfl) (by kernel_rfl)
    (fun u => ⟨List.toArray ((z 0) :: (z 1) :: (z 2) :: (z 3) :: (.pointer (some ⟨p, 0, none⟩)) :: (z 5) :: (.pointer (some ⟨gf, 0, none⟩)) :: (z 7) :: (z 8) :: (z 9) :: (z 10) :: (z 11) :: (z 12) :: (z 13) :: (z 14) :: (z 15) :: (z 16) :: (z 17) :: (z 18) :: (z 19) :: (z 20) :: (z 21) :: (z 22) :: (z 23) :: (z 24) :: (z 25) :: (z 26) :: (z 27) :: (z 28) :: (z 29) :: (z 30) :: (z 31) :: (z 32) :: (z 33) :: (z 34) :: (z 35) :: (z 36) :: (z 37) :: (z 38) :: (z 39) :: (z 40) :: (z 41) :: (z 42) :: (z 43) :: (z 44) :: (z 45) :: (z 46) :: (z 47) :: (z 48) :: (z 49) :: (z 50) :: (z 51) :: (z 52) :: (z 53) :: (z 54) :: (z 55) :: (z 56) :: (z 57) :: (z 58) :: (z 59) :: (z 60) :: (z 61) :: (z 62) :: (z 63) :: (z 64) :: (z 65) :: (z 66) :: (z 67) :: (z 68) :: (z 69) :: (z 70) :: (u 0) :: (u 1) :: (u 2) :: (u 3) :: (u 4) :: (u 5) :: (u 6) :: (z 78) :: (z 79) :: (z 80) :: (z 81) :: (z 82) :: (z 83) :: (z 84) :: (z 85) :: (z 86) :: (z 87) :: (z 88) :: (z 89) :: (z 90) :: (z 91) :: (z 92) :: (z 93) :: (z 94) :: (z 95) :: (z 96) :: (z 97) :: (z 98) :: (z 99) :: (z 100) :: (z 101) :: (z 102) :: (z 103) :: (z 104) :: (z 105) :: (z 106) :: (z 107) :: (z 108) :: (z 109) :: (z 110) :: (z 111) :: (z 112) :: (z 113) :: (z 114) :: []), []⟩)
    (fun j v w3 => if j = 5 then True else v = V j)
    (fun L u w3 => ∃ (c : Nat) (A : Option Addr), (L 6 = decide (0 < c)) ∧ c ≤ 1 ∧ Chn w1 p B A (lst c) w3 ∧ AlS (L 5) (u 5) 4 9 #[.string (bs nm), .string (bs [0]), .string (bs vl), .string (bs [0])] B A w3 ∧ AlS true (.slice (some ⟨gf, 0, none⟩) 0 0) 0 83 #[.string (bs nm), .string (bs vl)] B A w3) (fun j => if j = 0 then z 71 else if j = 1 then z 72 else if j = 2 then z 73 else if j = 3 then z 74 else if j = 4 then z 75 else if j = 5 then z 76 else if j = 6 then z 77 else undef) ⟨0, A0, rfl, by omega, by rw [Q0.out]; exact hch0, AlS.false, hxf⟩ ?_ ?_
  · rintro L u w3 i o hG hΦ ho hL hd K2 hK2
    match i, ho with
    | 0, ho =>
      simp at ho; subst ho
      clear hΦ hd
      go_simp
      exact hK2 _ _ v0.symm hG (fun _ _ _ h => h)
    | 1, ho =>
      simp at ho; subst ho
      clear hΦ hd
      go_simp
      exact hK2 _ _ v1.symm hG (fun _ _ _ h => h)
    | 2, ho =>
      simp at ho; subst ho
      have hu1 : u 1 = V 1 := hΦ 1 (hd ⟨1, .data⟩ (by simp) (by rfl))
      rw [v1] at hu1
      clear hΦ hd
      obtain ⟨c, A, e0, hcn, hch, s5, x0⟩ := hG
      have hx : ∃ y, u = (upd y 1 (.pointer (some ⟨gf, 0, none⟩))) := ⟨u, by rw [← upd_self hu1]⟩
      clear hu1
      obtain ⟨y, rfl⟩ := hx
      simp only [upd, reduceIte, Nat.reduceEqDiff]
      obtain ⟨gg, hgg, hbb, -, -⟩ := x0 rfl
      injection hgg with hgg; injection hgg with hgg; injection hgg with hgg; subst hgg
      have hc0 := hbb.cells
      go_simp
      exact hK2 _ _ v2.symm ⟨c, A, e0, hcn, hch, s5, x0⟩ (fun _ _ _ h => h)
    | 3, ho =>
      simp at ho; subst ho
      clear hΦ hd
      go_simp
      exact hK2 _ _ v3.symm hG (fun _ _ _ h => h)
    | 4, ho =>
      simp at ho; subst ho
      have hu3 : u 3 = V 3 := hΦ 3 (hd ⟨3, .data⟩ (by simp) (by rfl))
      rw [v3] at hu3
      clear hΦ hd
      obtain ⟨c, A, e0, hcn, hch, s5, x0⟩ := hG
      have hx : ∃ y, u = (upd y 3 (.pointer (some ⟨gf, 1, none⟩))) := ⟨u, by rw [← upd_self hu3]⟩
      clear hu3
      obtain ⟨y, rfl⟩ := hx
      simp only [upd, reduceIte, Nat.reduceEqDiff]
      obtain ⟨gg, hgg, hbb, -, -⟩ := x0 rfl
      injection hgg with hgg; injection hgg with hgg; injection hgg with hgg; subst hgg
      have hc0 := hbb.cells
      go_simp
      exact hK2 _ _ v4.symm ⟨c, A, e0, hcn, hch, s5, x0⟩ (fun _ _ _ h => h)
    | 5, ho =>
      simp at ho; subst ho
      have hu2 : u 2 = V 2 := hΦ 2 (hd ⟨2, .data⟩ (by simp) (by rfl))
      rw [v2] at hu2
      have hu4 : u 4 = V 4 := hΦ 4 (hd ⟨4, .data⟩ (by simp) (by rfl))
      rw [v4] at hu4
      clear hΦ hd
      obtain ⟨c, A, e0, hcn, hch, s5, x0⟩ := hG
      have hx : ∃ y, u = (upd (upd y 2 (.string (bs nm))) 4 (.string (bs vl))) := ⟨u, by rw [← upd_self hu2, ← upd_self hu4]⟩
      clear hu2 hu4
      obtain ⟨y, rfl⟩ := hx
      simp only [upd, reduceIte, Nat.reduceEqDiff]
      go_simp
      exact hK2 _ _ trivial ⟨c, A, e0, hcn, hch.alloc _, AlS.new hch 4 9 #[.string (bs nm), .string (bs [0]), .string (bs vl), .string (bs [0])], AlS.alloc x0 _⟩ (fun _ _ _ h => h)
    | 6, ho =>
      simp at ho; subst ho
      have hu0 : u 0 = V 0 := hΦ 0 (hd ⟨0, .data⟩ (by simp) (by rfl))
      rw [v0] at hu0
      have hl5 : L 5 = true := hd ⟨5, .data⟩ (by simp) (by rfl)
      clear hΦ hd
      obtain ⟨c, A, e0, hcn, hch, s5, x0⟩ := hG
      have hck : c = 0 := by
        have h1 := hL.symm.trans e0
        simp at h1; omega
      subst hck
      obtain ⟨g5, hg5, hb5, hB5, hn5⟩ := s5 hl5
      have hx : ∃ y, u = (upd (upd y 0 (.pointer (some ⟨p, 0, none⟩))) 5 (.slice (some ⟨g5, 0, none⟩) 4 4)) := ⟨u, by rw [← upd_self hu0, ← upd_self hg5]⟩
      clear hu0 hg5
      obtain ⟨y, rfl⟩ := hx
      simp only [upd, reduceIte, Nat.reduceEqDiff]
      go_simp
      refine (wText p A _ w3 _ 4 4 [nm, [0], vl, [0]] hch.wr (SlR.of_bk (n := 4) (size := 1) hb5 (AlS.not hch hB5 hn5) rfl) (by omega) (by have := N0.out; first | omega | (simp; omega))).mono ?_
      rintro e w4 ⟨rfl, hw4⟩
      obtain ⟨A', hch', hal⟩ := hch.call hw4
      exact hK2 _ _ v6.symm ⟨1, A', rfl, by omega, by rw [Q1.out]; exact hch', hal _ _ _ _ _ s5, hal _ _ _ _ _ x0⟩ (fun _ _ _ h => h)
  · rintro u w3 hu L hall hG
    obtain ⟨c, A, e0, hcn, hch, s5, x0⟩ := hG
    have hck : c = 1 := by
      have h1 := (hall 6 (by decide)).symm.trans e0
      simp at h1; omega
    subst hck
    have hfin : lst 1 = (l0 ++ List.flatten [nm, [0], vl, [0]]) := by rw [Q1.out, Q0.out]
    rw [hfin] at hch
    exact HK.out _ _ _ ⟨rfl, rfl⟩ (KpU.cons (rfl) (KpU.cons (rfl) (KpU.cons (rfl) (KpU.cons (rfl) (KpU.cons (h4.symm) (KpU.cons (rfl) (KpU.cons (h6.symm) (KpU.cons (rfl) (KpU.cons (rfl) (KpU.cons (rfl) (KpU.cons (rfl) (KpU.cons (rfl) (KpU.cons (rfl) (KpU.cons (rfl) (KpU.cons (rfl) (KpU.cons (rfl) (KpU.cons (rfl) (KpU.cons (rfl) (KpU.cons (rfl) (KpU.cons (rfl) (KpU.cons (rfl) (KpU.cons (rfl) (KpU.cons (rfl) (KpU.cons (rfl) (KpU.cons (rfl) (KpU.cons (rfl) (KpU.cons (rfl) (KpU.cons (rfl) (KpU.cons (rfl) (KpU.cons (rfl) (KpU.cons (rfl) (KpU.cons (rfl) (KpU.cons (rfl) (KpU.cons (rfl) (KpU.cons (rfl) (KpU.cons (rfl) (KpU.cons (rfl) (KpU.cons (rfl) (KpU.cons (rfl) (KpU.cons (rfl) (KpU.cons (rfl) (KpU.cons (rfl) (KpU.cons (rfl) (KpU.cons (rfl) (KpU.cons (rfl) (KpU.cons (rfl) (KpU.cons (rfl) (KpU.cons (rfl) (KpU.cons (rfl) (KpU.cons (rfl) (KpU.cons (rfl) (KpU.cons (rfl) (KpU.cons (rfl) (KpU.cons (rfl) (KpU.cons (rfl) (KpU.cons (rfl) (KpU.cons (rfl) (KpU.cons (rfl) (KpU.cons (rfl) (KpU.cons (rfl) (KpU.cons (rfl) (KpU.cons (rfl) (KpU.cons (rfl) (KpU.cons (rfl) (KpU.cons (rfl) (KpU.cons (rfl) (KpU.cons (rfl) (KpU.cons (rfl) (KpU.cons (rfl) (KpU.cons (rfl) (KpU.cons (rfl) (KpU.cons (rfl) (KpU.cons (rfl) (KpU.cons (rfl) (KpU.cons (rfl) (KpU.cons (rfl) (KpU.cons (rfl) (KpU.cons (rfl) (KpU.cons (rfl) (KpU.cons (rfl) (KpU.cons (rfl) (KpU.cons (rfl) (KpU.cons (rfl) (KpU.cons (rfl) (KpU.cons (rfl) (KpU.cons (rfl) (KpU.cons (rfl) (KpU.cons (rfl) (KpU.cons (rfl) (KpU.cons (rfl) (KpU.cons (rfl) (KpU.cons (rfl) (KpU.cons (rfl) (KpU.cons (rfl) (KpU.cons (rfl) (KpU.cons (rfl) (KpU.cons (rfl) (KpU.cons (rfl) (KpU.cons (rfl) (KpU.cons (rfl) (KpU.cons (rfl) (KpU.cons (rfl) (KpU.cons (rfl) (KpU.cons (rfl) (KpU.cons (rfl) (KpU.cons (rfl) (KpU.cons (rfl) (KpU.cons (rfl) (KpU.nil _ _)))))))))))))))))))))))))))))))))))))))))))))))))))))))))))))))))))))))))))))))))))))))))))))))))))))))))))))  hch x0

end Go.Proofs.YtcbkaiakdhiloabGreatDoor
