/- Parts of the walk; written by programs, merged. -/
import Derived.Test.YtcbkaiakdhiloacGreatDoorMai
set_option linter.unusedSimpArgs false
set_option linter.unusedVariables false
set_option maxRecDepth 20000
set_option maxHeartbeats 8000000
namespace Go.Proofs.YtcbkaiakdhiloacGreatDoor
open Go.RowKit Go.Proofs
attribute [local go_sem] bs_size bs_append bs_extract bs_toList
theorem wrap_u8_of (n : Nat) (h : n ≤ 255) : IntKind.u8.wrap (n : Int) = ((UInt8.ofNat n).toNat : Int) := by
  rw [IntKind.wrap_u8', UInt8.toNat_ofNat']; omega
def dwF (u : Nat → Value) : Act := ⟨#[u 0, u 1, u 2, u 3, u 4, u 5, u 6, u 7, u 8, u 9, u 10, u 11, u 12, u 13, u 14, u 15, u 16, u 17, u 18, u 19, u 20, u 21, u 22, u 23, u 24, u 25, u 26, u 27, u 28, u 29, u 30, u 31, u 32, u 33, u 34, u 35, u 36, u 37, u 38, u 39, u 40, u 41, u 42, u 43, u 44, u 45, u 46, u 47, u 48, u 49, u 50, u 51, u 52, u 53, u 54, u 55, u 56, u 57, u 58, u 59, u 60, u 61, u 62, u 63, u 64, u 65, u 66, u 67, u 68, u 69, u 70, u 71, u 72, u 73, u 74, u 75, u 76, u 77, u 78, u 79, u 80, u 81, u 82, u 83, u 84, u 85, u 86, u 87, u 88, u 89, u 90, u 91, u 92, u 93, u 94, u 95, u 96, u 97, u 98, u 99, u 100], []⟩
set_option maxRecDepth 100000 in
theorem dwF_eq (u : Nat → Value) : dwF u = frN 101 u := rfl
theorem dwF_of {a : Act} (h : Sz 101 a) : a = dwF (sl a) := h.eq.trans (dwF_eq _).symm
theorem dwR5 (pa : Nat) (rp : Bool) (xid client yours next n cap : Nat) (Ao : Option Addr) (m0 m1 m2 m3 m4 m5 : UInt8) (opb : UInt8) (w1 : World) (p B : Nat) (A0 : Option Addr) (l0 : List UInt8) (a : Act) (w : World) (K : Exit → Act → World → Prop) (hs : Sz 101 a)
    (h1 : sl a 1 = .pointer (some ⟨pa, 0, none⟩)) (h4 : sl a 4 = .int .u8 (opb.toNat : Int)) (h5 : sl a 5 = .pointer (some ⟨p, 0, none⟩)) (hpa : Bk w1 pa 62 #[.bool rp, .int .u32 (xid : Int), .int .u32 (client : Int), .int .u32 (yours : Int), .int .u32 (next : Int), .int .u8 (m0.toNat : Int), .int .u8 (m1.toNat : Int), .int .u8 (m2.toNat : Int), .int .u8 (m3.toNat : Int), .int .u8 (m4.toNat : Int), .int .u8 (m5.toNat : Int), .slice Ao n cap]) (hpn : pa ≠ p) (hxid : xid < 4294967296) (hcl : client < 4294967296) (hyo : yours < 4294967296) (hnx : next < 4294967296)
     (hch0 : Chn w1 p B A0 l0 w) (N00 : l0.length ≤ 50000000)
    (hK : ∀ a' w' A', Sz 101 a' → Kp [0, 1, 2, 3, 4, 5, 6, 7, 8, 9, 10, 11, 12, 13, 14, 24, 25, 26, 27, 28, 29, 30, 31, 32, 33, 34, 35, 36, 37, 38, 39, 40, 41, 42, 43, 44, 45, 46, 47, 48, 49, 50, 51, 52, 53, 54, 55, 56, 57, 58, 59, 60, 61, 62, 63, 64, 65, 66, 67, 68, 69, 70, 71, 72, 73, 74, 75, 76, 77, 78, 79, 80, 81, 82, 83, 84, 85, 86, 87, 88, 89, 90, 91, 92, 93, 94, 95, 96, 97, 98, 99, 100] a a' → Chn w1 p B A' (((l0 ++ [opb, 1, 6, 0]) ++ big 4 ((xid : Int)).toNat) ++ bigs 2 [0]) w' → K .normal a' w') :
    (regionOf Tryz.f161 5).wp Tryz.prog K a w := by
  have hK2 : ∀ a' w' A', Sz 101 a' → KpU [0, 1, 2, 3, 4, 5, 6, 7, 8, 9, 10, 11, 12, 13, 14, 24, 25, 26, 27, 28, 29, 30, 31, 32, 33, 34, 35, 36, 37, 38, 39, 40, 41, 42, 43, 44, 45, 46, 47, 48, 49, 50, 51, 52, 53, 54, 55, 56, 57, 58, 59, 60, 61, 62, 63, 64, 65, 66, 67, 68, 69, 70, 71, 72, 73, 74, 75, 76, 77, 78, 79, 80, 81, 82, 83, 84, 85, 86, 87, 88, 89, 90, 91, 92, 93, 94, 95, 96, 97, 98, 99, 100] (sl a) a' → Chn w1 p B A' (((l0 ++ [opb, 1, 6, 0]) ++ big 4 ((xid : Int)).toNat) ++ bigs 2 [0]) w' → K .normal a' w' := hK
  clear hK
  rw [dwF_of hs]
  clear hs
  generalize sl a = z at *
  clear a
  have HK := Lib.hid hK2
  clear hK2
  conv => arg 2; whnf
  simp only [dwF, h1, h4, h5]
  obtain ⟨lst, Q0, Q1, Q2, Q3⟩ : ∃ lst : Nat → List UInt8, Hid (lst 0 = l0) ∧ Hid (lst 1 = lst 0 ++ [opb, 1, 6, 0]) ∧ Hid (lst 2 = lst 1 ++ big 4 ((xid : Int)).toNat) ∧ Hid (lst 3 = lst 2 ++ bigs 2 [0]) := by
    exact ⟨fun k => match k with | 0 => l0 | 1 => (l0 ++ [opb, 1, 6, 0]) | 2 => ((l0 ++ [opb, 1, 6, 0]) ++ big 4 ((xid : Int)).toNat) | _ => (((l0 ++ [opb, 1, 6, 0]) ++ big 4 ((xid : Int)).toNat) ++ bigs 2 [0]), rfl, rfl, rfl, rfl⟩
  have N0 : Hid ((lst 0).length ≤ 50000000) := by unfold Hid; rw [Q0.out]; exact N00
  have N1 : Hid ((lst 1).length ≤ 50000000 + (4)) := by have h0 := N0.out; have h1 : (([opb, 1, 6, 0] : List UInt8)).length ≤ 4 := (by simp [bigs_length, macB, big_length] <;> omega); unfold Hid; rw [Q1.out, List.length_append]; omega
  have N2 : Hid ((lst 2).length ≤ 50000000 + (4) + (4)) := by have h0 := N1.out; have h1 : ((big 4 ((xid : Int)).toNat : List UInt8)).length ≤ 4 := (by simp [bigs_length, macB, big_length] <;> omega); unfold Hid; rw [Q2.out, List.length_append]; omega
  have N3 : Hid ((lst 3).length ≤ 50000000 + (4) + (4) + (2)) := by have h0 := N2.out; have h1 : ((bigs 2 [0] : List UInt8)).length ≤ 2 := (by simp [bigs_length, macB, big_length] <;> omega); unfold Hid; rw [Q3.out, List.length_append]; omega
  obtain ⟨V, hV⟩ : ∃ V : Nat → Value, V = (fun j => match j with | 0 => .pointer (some ⟨p, 0, none⟩) | 1 => .int .u8 (opb.toNat : Int) | 3 => .pointer (some ⟨p, 0, none⟩) | 4 => .pointer (some ⟨pa, 1, none⟩) | 5 => .int .u32 (xid : Int) | 6 => .pointer (some ⟨p, 0, none⟩) | 8 => .pointer (some ⟨p, 0, none⟩) | _ => undef) := ⟨_, rfl⟩
  have v0 : V 0 = .pointer (some ⟨p, 0, none⟩) := congrFun hV 0
  have v1 : V 1 = .int .u8 (opb.toNat : Int) := congrFun hV 1
  have v3 : V 3 = .pointer (some ⟨p, 0, none⟩) := congrFun hV 3
  have v4 : V 4 = .pointer (some ⟨pa, 1, none⟩) := congrFun hV 4
  have v5 : V 5 = .int .u32 (xid : Int) := congrFun hV 5
  have v6 : V 6 = .pointer (some ⟨p, 0, none⟩) := congrFun hV 6
  have v8 : V 8 = .pointer (some ⟨p, 0, none⟩) := congrFun hV 8
  clear hV
  refine wp_region_ssau (by kernel_rfl) (by kernel_rfl) (by kernel_rfl)
    (fun u => ⟨List.toArray ((z 0) :: (.pointer (some ⟨pa, 0, none⟩)) :: (z 2) :: (z 3) :: (.int .u8 (opb.toNat : Int)) :: (.pointer (some ⟨p, 0, none⟩)) :: (z 6) :: (z 7) :: (z 8) :: (z 9) :: (z 10) :: (z 11) :: (z 12) :: (z 13) :: (z 14) :: (u 0) :: (u 1) :: (u 2) :: (u 3) :: (u 4) :: (u 5) :: (u 6) :: (u 7) :: (u 8) :: (z 24) :: (z 25) :: (z 26) :: (z 27) :: (z 28) :: (z 29) :: (z 30) :: (z 31) :: (z 32) :: (z 33) :: (z 34) :: (z 35) :: (z 36) :: (z 37) :: (z 38) :: (z 39) :: (z 40) :: (z 41) :: (z 42) :: (z 43) :: (z 44) :: (z 45) :: (z 46) :: (z 47) :: (z 48) :: (z 49) :: (z 50) :: (z 51) :: (z 52) :: (z 53) :: (z 54) :: (z 55) :: (z 56) :: (z 57) :: (z 58) :: (z 59) :: (z 60) :: (z 61) :: (z 62) :: (z 63) :: (z 64) :: (z 65) :: (z 66) :: (z 67) :: (z 68) :: (z 69) :: (z 70) :: (z 71) :: (z 72) :: (z 73) :: (z 74) :: (z 75) :: (z 76) :: (z 77) :: (z 78) :: (z 79) :: (z 80) :: (z 81) :: (z 82) :: (z 83) :: (z 84) :: (z 85) :: (z 86) :: (z 87) :: (z 88) :: (z 89) :: (z 90) :: (z 91) :: (z 92) :: (z 93) :: (z 94) :: (z 95) :: (z 96) :: (z 97) :: (z 98) :: (z 99) :: (z 100) :: []), []⟩)
    (fun j v w3 => if j = 2 then True else if j = 7 then True else v = V j)
    (fun L u w3 => ∃ (c : Nat) (A : Option Addr), (L 3 = decide (0 < c) ∧ L 6 = decide (1 < c) ∧ L 8 = decide (2 < c)) ∧ c ≤ 3 ∧ Chn w1 p B A (lst c) w3 ∧ AlS (L 2) (u 2) 4 5 #[.int .u8 (opb.toNat : Int), .int .u8 1, .int .u8 6, .int .u8 0] B A w3 ∧ AlS (L 7) (u 7) 1 47 #[.int .u16 0] B A w3) (fun j => if j = 0 then z 15 else if j = 1 then z 16 else if j = 2 then z 17 else if j = 3 then z 18 else if j = 4 then z 19 else if j = 5 then z 20 else if j = 6 then z 21 else if j = 7 then z 22 else if j = 8 then z 23 else undef) ⟨0, A0, ⟨rfl, rfl, rfl⟩, by omega, by rw [Q0.out]; exact hch0.drew2, AlS.false, AlS.false⟩ ?_ ?_
  · rintro L u w3 i o hG hΦ ho hL hd K2 hK2
    match i, ho with
    | 0, ho =>
      simp at ho; subst ho
      clear hΦ hd
      go_simp
      exact hK2 _ _ v0.symm hG (fun _ _ _ h => h)
    | 1, ho =>
      simp at ho; subst ho
      clear hΦ hd
      go_simp
      exact hK2 _ _ v1.symm hG (fun _ _ _ h => h)
    | 2, ho =>
      simp at ho; subst ho
      have hu1 : u 1 = V 1 := hΦ 1 (hd ⟨1, .data⟩ (by simp) (by rfl))
      rw [v1] at hu1
      clear hΦ hd
      obtain ⟨c, A, ⟨e0, e1, e2⟩, hcn, hch, s2, s7⟩ := hG
      have hx : ∃ y, u = (upd y 1 (.int .u8 (opb.toNat : Int))) := ⟨u, by rw [← upd_self hu1]⟩
      clear hu1
      obtain ⟨y, rfl⟩ := hx
      simp only [upd, reduceIte, Nat.reduceEqDiff]
      go_simp
      exact hK2 _ _ trivial ⟨c, A, ⟨e0, e1, e2⟩, hcn, hch.alloc _, AlS.new hch 4 5 #[.int .u8 (opb.toNat : Int), .int .u8 1, .int .u8 6, .int .u8 0], AlS.alloc s7 _⟩ (fun _ _ _ h => h)
    | 3, ho =>
      simp at ho; subst ho
      have hu0 : u 0 = V 0 := hΦ 0 (hd ⟨0, .data⟩ (by simp) (by rfl))
      rw [v0] at hu0
      have hl2 : L 2 = true := hd ⟨2, .data⟩ (by simp) (by rfl)
      clear hΦ hd
      obtain ⟨c, A, ⟨e0, e1, e2⟩, hcn, hch, s2, s7⟩ := hG
      have hck : c = 0 := by
        have h1 := hL.symm.trans e0
        simp at h1; omega
      subst hck
      obtain ⟨g2, hg2, hb2, hB2, hn2⟩ := s2 hl2
      have hx : ∃ y, u = (upd (upd y 0 (.pointer (some ⟨p, 0, none⟩))) 2 (.slice (some ⟨g2, 0, none⟩) 4 4)) := ⟨u, by rw [← upd_self hu0, ← upd_self hg2]⟩
      clear hu0 hg2
      obtain ⟨y, rfl⟩ := hx
      simp only [upd, reduceIte, Nat.reduceEqDiff]
      go_simp
      refine (wU8 p A _ w3 _ 4 4 [opb, 1, 6, 0] (wrS p A) hch.wr (SlR.of_bk (n := 4) (size := 1) hb2 (AlS.not hch hB2 hn2) rfl) (by have := N0.out; first | omega | (simp; omega))).mono ?_
      rintro e w4 ⟨rfl, hw4⟩
      obtain ⟨A', hch', hal⟩ := hch.call hw4
      exact hK2 _ _ v3.symm ⟨1, A', ⟨rfl, e1, e2⟩, by omega, by rw [Q1.out]; exact hch', hal _ _ _ _ _ s2, hal _ _ _ _ _ s7⟩ (fun _ _ _ h => h)
    | 4, ho =>
      simp at ho; subst ho
      clear hΦ hd
      go_simp
      exact hK2 _ _ v4.symm hG (fun _ _ _ h => h)
    | 5, ho =>
      simp at ho; subst ho
      have hu4 : u 4 = V 4 := hΦ 4 (hd ⟨4, .data⟩ (by simp) (by rfl))
      rw [v4] at hu4
      clear hΦ hd
      obtain ⟨c, A, ⟨e0, e1, e2⟩, hcn, hch, s2, s7⟩ := hG
      have hx : ∃ y, u = (upd y 4 (.pointer (some ⟨pa, 1, none⟩))) := ⟨u, by rw [← upd_self hu4]⟩
      clear hu4
      obtain ⟨y, rfl⟩ := hx
      simp only [upd, reduceIte, Nat.reduceEqDiff]
      have hc0 := ((hpa).keep hch.fr (by unfold oneB; have := hch.lt; omega)).cells
      go_simp
      exact hK2 _ _ v5.symm ⟨c, A, ⟨e0, e1, e2⟩, hcn, hch, s2, s7⟩ (fun _ _ _ h => h)
    | 6, ho =>
      simp at ho; subst ho
      have hu3 : u 3 = V 3 := hΦ 3 (hd ⟨3, .data⟩ (by simp) (by rfl))
      rw [v3] at hu3
      have hu5 : u 5 = V 5 := hΦ 5 (hd ⟨5, .data⟩ (by simp) (by rfl))
      rw [v5] at hu5
      have hlc : L 3 = true := hd ⟨3, .chain⟩ (by simp) (by rfl)
      clear hΦ hd
      obtain ⟨c, A, ⟨e0, e1, e2⟩, hcn, hch, s2, s7⟩ := hG
      have hck : c = 1 := by
        have h1 := hL.symm.trans e1
        have h2 := hlc.symm.trans e0
        simp at h1 h2; omega
      subst hck
      have hx : ∃ y, u = (upd (upd y 3 (.pointer (some ⟨p, 0, none⟩))) 5 (.int .u32 (xid : Int))) := ⟨u, by rw [← upd_self hu3, ← upd_self hu5]⟩
      clear hu3 hu5
      obtain ⟨y, rfl⟩ := hx
      simp only [upd, reduceIte, Nat.reduceEqDiff]
      go_simp
      refine (wNum 4 (xid : Int) p A _ w3 hch.wr (by omega) (by omega) (by omega) (by have := N1.out; first | omega | (simp; omega))).mono ?_
      rintro e w4 ⟨rfl, hw4⟩
      obtain ⟨A', hch', hal⟩ := hch.call hw4
      exact hK2 _ _ v6.symm ⟨2, A', ⟨e0, rfl, e2⟩, by omega, by rw [Q2.out]; exact hch', hal _ _ _ _ _ s2, hal _ _ _ _ _ s7⟩ (fun _ _ _ h => h)
    | 7, ho =>
      simp at ho; subst ho
      clear hΦ hd
      obtain ⟨c, A, ⟨e0, e1, e2⟩, hcn, hch, s2, s7⟩ := hG
      go_simp
      exact hK2 _ _ trivial ⟨c, A, ⟨e0, e1, e2⟩, hcn, hch.alloc _, AlS.alloc s2 _, AlS.new hch 1 47 #[.int .u16 0]⟩ (fun _ _ _ h => h)
    | 8, ho =>
      simp at ho; subst ho
      have hu6 : u 6 = V 6 := hΦ 6 (hd ⟨6, .data⟩ (by simp) (by rfl))
      rw [v6] at hu6
      have hl7 : L 7 = true := hd ⟨7, .data⟩ (by simp) (by rfl)
      have hlc : L 6 = true := hd ⟨6, .chain⟩ (by simp) (by rfl)
      clear hΦ hd
      obtain ⟨c, A, ⟨e0, e1, e2⟩, hcn, hch, s2, s7⟩ := hG
      have hck : c = 2 := by
        have h1 := hL.symm.trans e2
        have h2 := hlc.symm.trans e1
        simp at h1 h2; omega
      subst hck
      obtain ⟨g7, hg7, hb7, hB7, hn7⟩ := s7 hl7
      have hx : ∃ y, u = (upd (upd y 6 (.pointer (some ⟨p, 0, none⟩))) 7 (.slice (some ⟨g7, 0, none⟩) 1 1)) := ⟨u, by rw [← upd_self hu6, ← upd_self hg7]⟩
      clear hu6 hg7
      obtain ⟨y, rfl⟩ := hx
      simp only [upd, reduceIte, Nat.reduceEqDiff]
      go_simp
      refine (wU16 p A _ w3 _ 1 1 [0] hch.wr (SlR.of_bk (n := 1) (size := 1) hb7 (AlS.not hch hB7 hn7) rfl) (by intro x hx; simp at hx; omega) (by omega) (by have := N2.out; first | omega | (simp; omega))).mono ?_
      rintro e w4 ⟨rfl, hw4⟩
      obtain ⟨A', hch', hal⟩ := hch.call hw4
      exact hK2 _ _ v8.symm ⟨3, A', ⟨e0, e1, rfl⟩, by omega, by rw [Q3.out]; exact hch', hal _ _ _ _ _ s2, hal _ _ _ _ _ s7⟩ (fun _ _ _ h => h)
  · rintro u w3 hu L hall hG
    obtain ⟨c, A, ⟨e0, e1, e2⟩, hcn, hch, s2, s7⟩ := hG
    have hck : c = 3 := by
      have h1 := (hall 8 (by decide)).symm.trans e2
      simp at h1; omega
    subst hck
    have hfin : lst 3 = (((l0 ++ [opb, 1, 6, 0]) ++ big 4 ((xid : Int)).toNat) ++ bigs 2 [0]) := by rw [Q3.out, Q2.out, Q1.out, Q0.out]
    rw [hfin] at hch
    exact HK.out _ _ _ ⟨rfl, rfl⟩ (KpU.cons (rfl) (KpU.cons (h1.symm) (KpU.cons (rfl) (KpU.cons (rfl) (KpU.cons (h4.symm) (KpU.cons (h5.symm) (KpU.cons (rfl) (KpU.cons (rfl) (KpU.cons (rfl) (KpU.cons (rfl) (KpU.cons (rfl) (KpU.cons (rfl) (KpU.cons (rfl) (KpU.cons (rfl) (KpU.cons (rfl) (KpU.cons (rfl) (KpU.cons (rfl) (KpU.cons (rfl) (KpU.cons (rfl) (KpU.cons (rfl) (KpU.cons (rfl) (KpU.cons (rfl) (KpU.cons (rfl) (KpU.cons (rfl) (KpU.cons (rfl) (KpU.cons (rfl) (KpU.cons (rfl) (KpU.cons (rfl) (KpU.cons (rfl) (KpU.cons (rfl) (KpU.cons (rfl) (KpU.cons (rfl) (KpU.cons (rfl) (KpU.cons (rfl) (KpU.cons (rfl) (KpU.cons (rfl) (KpU.cons (rfl) (KpU.cons (rfl) (KpU.cons (rfl) (KpU.cons (rfl) (KpU.cons (rfl) (KpU.cons (rfl) (KpU.cons (rfl) (KpU.cons (rfl) (KpU.cons (rfl) (KpU.cons (rfl) (KpU.cons (rfl) (KpU.cons (rfl) (KpU.cons (rfl) (KpU.cons (rfl) (KpU.cons (rfl) (KpU.cons (rfl) (KpU.cons (rfl) (KpU.cons (rfl) (KpU.cons (rfl) (KpU.cons (rfl) (KpU.cons (rfl) (KpU.cons (rfl) (KpU.cons (rfl) (KpU.cons (rfl) (KpU.cons (rfl) (KpU.cons (rfl) (KpU.cons (rfl) (KpU.cons (rfl) (KpU.cons (rfl) (KpU.cons (rfl) (KpU.cons (rfl) (KpU.cons (rfl) (KpU.cons (rfl) (KpU.cons (rfl) (KpU.cons (rfl) (KpU.cons (rfl) (KpU.cons (rfl) (KpU.cons (rfl) (KpU.cons (rfl) (KpU.cons (rfl) (KpU.cons (rfl) (KpU.cons (rfl) (KpU.cons (rfl) (KpU.cons (rfl) (KpU.cons (rfl) (KpU.cons (rfl) (KpU.cons (rfl) (KpU.cons (rfl) (KpU.cons (rfl) (KpU.cons (rfl) (KpU.cons (rfl) (KpU.cons (rfl) (KpU.cons (rfl) (KpU.cons (rfl) (KpU.cons (rfl) (KpU.cons (rfl) (KpU.nil _ _)))))))))))))))))))))))))))))))))))))))))))))))))))))))))))))))))))))))))))))))))))))))))))))  hch 
theorem dwR7  (w1 : World) (p B : Nat) (A0 : Option Addr) (l0 : List UInt8) (a : Act) (w : World) (K : Exit → Act → World → Prop) (hs : Sz 101 a)
    (h5 : sl a 5 = .pointer (some ⟨p, 0, none⟩)) 
     (hch0 : Chn w1 p B A0 l0 w) (N00 : l0.length ≤ 50000000)
    (hK : ∀ a' w' A', Sz 101 a' → Kp [0, 1, 2, 3, 4, 5, 6, 7, 8, 9, 10, 11, 12, 13, 14, 15, 16, 17, 18, 19, 20, 21, 22, 23, 24, 25, 26, 30, 31, 32, 33, 34, 35, 36, 37, 38, 39, 40, 41, 42, 43, 44, 45, 46, 47, 48, 49, 50, 51, 52, 53, 54, 55, 56, 57, 58, 59, 60, 61, 62, 63, 64, 65, 66, 67, 68, 69, 70, 71, 72, 73, 74, 75, 76, 77, 78, 79, 80, 81, 82, 83, 84, 85, 86, 87, 88, 89, 90, 91, 92, 93, 94, 95, 96, 97, 98, 99, 100] a a' → Chn w1 p B A' (l0 ++ bigs 2 [32768]) w' → K .normal a' w') :
    (regionOf Tryz.f161 7).wp Tryz.prog K a w := by
  have hK2 : ∀ a' w' A', Sz 101 a' → KpU [0, 1, 2, 3, 4, 5, 6, 7, 8, 9, 10, 11, 12, 13, 14, 15, 16, 17, 18, 19, 20, 21, 22, 23, 24, 25, 26, 30, 31, 32, 33, 34, 35, 36, 37, 38, 39, 40, 41, 42, 43, 44, 45, 46, 47, 48, 49, 50, 51, 52, 53, 54, 55, 56, 57, 58, 59, 60, 61, 62, 63, 64, 65, 66, 67, 68, 69, 70, 71, 72, 73, 74, 75, 76, 77, 78, 79, 80, 81, 82, 83, 84, 85, 86, 87, 88, 89, 90, 91, 92, 93, 94, 95, 96, 97, 98, 99, 100] (sl a) a' → Chn w1 p B A' (l0 ++ bigs 2 [32768]) w' → K .normal a' w' := hK
  clear hK
  rw [dwF_of hs]
  clear hs
  generalize sl a = z at *
  clear a
  have HK := Lib.hid hK2
  clear hK2
  conv => arg 2; whnf
  simp only [dwF, h5]
  obtain ⟨lst, Q0, Q1⟩ : ∃ lst : Nat → List UInt8, Hid (lst 0 = l0) ∧ Hid (lst 1 = lst 0 ++ bigs 2 [32768]) := by
    exact ⟨fun k => match k with | 0 => l0 | _ => (l0 ++ bigs 2 [32768]), rfl, rfl⟩
  have N0 : Hid ((lst 0).length ≤ 50000000) := by unfold Hid; rw [Q0.out]; exact N00
  have N1 : Hid ((lst 1).length ≤ 50000000 + (2)) := by have h0 := N0.out; have h1 : ((bigs 2 [32768] : List UInt8)).length ≤ 2 := (by simp [bigs_length, macB, big_length] <;> omega); unfold Hid; rw [Q1.out, List.length_append]; omega
  obtain ⟨V, hV⟩ : ∃ V : Nat → Value, V = (fun j => match j with | 0 => .pointer (some ⟨p, 0, none⟩) | 2 => .pointer (some ⟨p, 0, none⟩) | _ => undef) := ⟨_, rfl⟩
  have v0 : V 0 = .pointer (some ⟨p, 0, none⟩) := congrFun hV 0
  have v2 : V 2 = .pointer (some ⟨p, 0, none⟩) := congrFun hV 2
  clear hV
  refine wp_region_ssau_plain (by kernel_rfl) (by kernel_rfl) (by kernel_rfl)
    (fun u => ⟨List.toArray ((z 0) :: (z 1) :: (z 2) :: (z 3) :: (z 4) :: (.pointer (some ⟨p, 0, none⟩)) :: (z 6) :: (z 7) :: (z 8) :: (z 9) :: (z 10) :: (z 11) :: (z 12) :: (z 13) :: (z 14) :: (z 15) :: (z 16) :: (z 17) :: (z 18) :: (z 19) :: (z 20) :: (z 21) :: (z 22) :: (z 23) :: (z 24) :: (z 25) :: (z 26) :: (u 0) :: (u 1) :: (u 2) :: (z 30) :: (z 31) :: (z 32) :: (z 33) :: (z 34) :: (z 35) :: (z 36) :: (z 37) :: (z 38) :: (z 39) :: (z 40) :: (z 41) :: (z 42) :: (z 43) :: (z 44) :: (z 45) :: (z 46) :: (z 47) :: (z 48) :: (z 49) :: (z 50) :: (z 51) :: (z 52) :: (z 53) :: (z 54) :: (z 55) :: (z 56) :: (z 57) :: (z 58) :: (z 59) :: (z 60) :: (z 61) :: (z 62) :: (z 63) :: (z 64) :: (z 65) :: (z 66) :: (z 67) :: (z 68) :: (z 69) :: (z 70) :: (z 71) :: (z 72) :: (z 73) :: (z 74) :: (z 75) :: (z 76) :: (z 77) :: (z 78) :: (z 79) :: (z 80) :: (z 81) :: (z 82) :: (z 83) :: (z 84) :: (z 85) :: (z 86) :: (z 87) :: (z 88) :: (z 89) :: (z 90) :: (z 91) :: (z 92) :: (z 93) :: (z 94) :: (z 95) :: (z 96) :: (z 97) :: (z 98) :: (z 99) :: (z 100) :: []), []⟩)
    (fun j v w3 => if j = 1 then True else v = V j)
    (fun L u w3 => ∃ (c : Nat) (A : Option Addr), (L 2 = decide (0 < c)) ∧ c ≤ 1 ∧ Chn w1 p B A (lst c) w3 ∧ AlS (L 1) (u 1) 1 47 #[.int .u16 32768] B A w3) (fun j => if j = 0 then z 27 else if j = 1 then z 28 else if j = 2 then z 29 else undef) ⟨0, A0, rfl, by omega, by rw [Q0.out]; exact hch0, AlS.false⟩ ?_ ?_
  · rintro L u w3 i o hG hΦ ho hL hd K2 hK2
    match i, ho with
    | 0, ho =>
      simp at ho; subst ho
      clear hΦ hd
      go_simp
      exact hK2 _ _ v0.symm hG (fun _ _ _ h => h)
    | 1, ho =>
      simp at ho; subst ho
      clear hΦ hd
      obtain ⟨c, A, e0, hcn, hch, s1⟩ := hG
      go_simp
      exact hK2 _ _ trivial ⟨c, A, e0, hcn, hch.alloc _, AlS.new hch 1 47 #[.int .u16 32768]⟩ (fun _ _ _ h => h)
    | 2, ho =>
      simp at ho; subst ho
      have hu0 : u 0 = V 0 := hΦ 0 (hd ⟨0, .data⟩ (by simp) (by rfl))
      rw [v0] at hu0
      have hl1 : L 1 = true := hd ⟨1, .data⟩ (by simp) (by rfl)
      clear hΦ hd
      obtain ⟨c, A, e0, hcn, hch, s1⟩ := hG
      have hck : c = 0 := by
        have h1 := hL.symm.trans e0
        simp at h1; omega
      subst hck
      obtain ⟨g1, hg1, hb1, hB1, hn1⟩ := s1 hl1
      have hx : ∃ y, u = (upd (upd y 0 (.pointer (some ⟨p, 0, none⟩))) 1 (.slice (some ⟨g1, 0, none⟩) 1 1)) := ⟨u, by rw [← upd_self hu0, ← upd_self hg1]⟩
      clear hu0 hg1
      obtain ⟨y, rfl⟩ := hx
      simp only [upd, reduceIte, Nat.reduceEqDiff]
      go_simp
      refine (wU16 p A _ w3 _ 1 1 [32768] hch.wr (SlR.of_bk (n := 1) (size := 1) hb1 (AlS.not hch hB1 hn1) rfl) (by intro x hx; simp at hx; omega) (by omega) (by have := N0.out; first | omega | (simp; omega))).mono ?_
      rintro e w4 ⟨rfl, hw4⟩
      obtain ⟨A', hch', hal⟩ := hch.call hw4
      exact hK2 _ _ v2.symm ⟨1, A', rfl, by omega, by rw [Q1.out]; exact hch', hal _ _ _ _ _ s1⟩ (fun _ _ _ h => h)
  · rintro u w3 hu L hall hG
    obtain ⟨c, A, e0, hcn, hch, s1⟩ := hG
    have hck : c = 1 := by
      have h1 := (hall 2 (by decide)).symm.trans e0
      simp at h1; omega
    subst hck
    have hfin : lst 1 = (l0 ++ bigs 2 [32768]) := by rw [Q1.out, Q0.out]
    rw [hfin] at hch
    exact HK.out _ _ _ ⟨rfl, rfl⟩ (KpU.cons (rfl) (KpU.cons (rfl) (KpU.cons (rfl) (KpU.cons (rfl) (KpU.cons (rfl) (KpU.cons (h5.symm) (KpU.cons (rfl) (KpU.cons (rfl) (KpU.cons (rfl) (KpU.cons (rfl) (KpU.cons (rfl) (KpU.cons (rfl) (KpU.cons (rfl) (KpU.cons (rfl) (KpU.cons (rfl) (KpU.cons (rfl) (KpU.cons (rfl) (KpU.cons (rfl) (KpU.cons (rfl) (KpU.cons (rfl) (KpU.cons (rfl) (KpU.cons (rfl) (KpU.cons (rfl) (KpU.cons (rfl) (KpU.cons (rfl) (KpU.cons (rfl) (KpU.cons (rfl) (KpU.cons (rfl) (KpU.cons (rfl) (KpU.cons (rfl) (KpU.cons (rfl) (KpU.cons (rfl) (KpU.cons (rfl) (KpU.cons (rfl) (KpU.cons (rfl) (KpU.cons (rfl) (KpU.cons (rfl) (KpU.cons (rfl) (KpU.cons (rfl) (KpU.cons (rfl) (KpU.cons (rfl) (KpU.cons (rfl) (KpU.cons (rfl) (KpU.cons (rfl) (KpU.cons (rfl) (KpU.cons (rfl) (KpU.cons (rfl) (KpU.cons (rfl) (KpU.cons (rfl) (KpU.cons (rfl) (KpU.cons (rfl) (KpU.cons (rfl) (KpU.cons (rfl) (KpU.cons (rfl) (KpU.cons (rfl) (KpU.cons (rfl) (KpU.cons (rfl) (KpU.cons (rfl) (KpU.cons (rfl) (KpU.cons (rfl) (KpU.cons (rfl) (KpU.cons (rfl) (KpU.cons (rfl) (KpU.cons (rfl) (KpU.cons (rfl) (KpU.cons (rfl) (KpU.cons (rfl) (KpU.cons (rfl) (KpU.cons (rfl) (KpU.cons (rfl) (KpU.cons (rfl) (KpU.cons (rfl) (KpU.cons (rfl) (KpU.cons (rfl) (KpU.cons (rfl) (KpU.cons (rfl) (KpU.cons (rfl) (KpU.cons (rfl) (KpU.cons (rfl) (KpU.cons (rfl) (KpU.cons (rfl) (KpU.cons (rfl) (KpU.cons (rfl) (KpU.cons (rfl) (KpU.cons (rfl) (KpU.cons (rfl) (KpU.cons (rfl) (KpU.cons (rfl) (KpU.cons (rfl) (KpU.cons (rfl) (KpU.cons (rfl) (KpU.cons (rfl) (KpU.cons (rfl) (KpU.cons (rfl) (KpU.cons (rfl) (KpU.cons (rfl) (KpU.cons (rfl) (KpU.cons (rfl) (KpU.nil _ _)))))))))))))))))))))))))))))))))))))))))))))))))))))))))))))))))))))))))))))))))))))))))))))))))))  hch 
theorem dwR8  (w1 : World) (p B : Nat) (A0 : Option Addr) (l0 : List UInt8) (a : Act) (w : World) (K : Exit → Act → World → Prop) (hs : Sz 101 a)
    (h5 : sl a 5 = .pointer (some ⟨p, 0, none⟩)) 
     (hch0 : Chn w1 p B A0 l0 w) (N00 : l0.length ≤ 50000000)
    (hK : ∀ a' w' A', Sz 101 a' → Kp [0, 1, 2, 3, 4, 5, 6, 7, 8, 9, 10, 11, 12, 13, 14, 15, 16, 17, 18, 19, 20, 21, 22, 23, 24, 25, 26, 27, 28, 29, 33, 34, 35, 36, 37, 38, 39, 40, 41, 42, 43, 44, 45, 46, 47, 48, 49, 50, 51, 52, 53, 54, 55, 56, 57, 58, 59, 60, 61, 62, 63, 64, 65, 66, 67, 68, 69, 70, 71, 72, 73, 74, 75, 76, 77, 78, 79, 80, 81, 82, 83, 84, 85, 86, 87, 88, 89, 90, 91, 92, 93, 94, 95, 96, 97, 98, 99, 100] a a' → Chn w1 p B A' (l0 ++ bigs 2 [0]) w' → K .normal a' w') :
    (regionOf Tryz.f161 8).wp Tryz.prog K a w := by
  have hK2 : ∀ a' w' A', Sz 101 a' → KpU [0, 1, 2, 3, 4, 5, 6, 7, 8, 9, 10, 11, 12, 13, 14, 15, 16, 17, 18, 19, 20, 21, 22, 23, 24, 25, 26, 27, 28, 29, 33, 34, 35, 36, 37, 38, 39, 40, 41, 42, 43, 44, 45, 46, 47, 48, 49, 50, 51, 52, 53, 54, 55, 56, 57, 58, 59, 60, 61, 62, 63, 64, 65, 66, 67, 68, 69, 70, 71, 72, 73, 74, 75, 76, 77, 78, 79, 80, 81, 82, 83, 84, 85, 86, 87, 88, 89, 90, 91, 92, 93, 94, 95, 96, 97, 98, 99, 100] (sl a) a' → Chn w1 p B A' (l0 ++ bigs 2 [0]) w' → K .normal a' w' := hK
  clear hK
  rw [dwF_of hs]
  clear hs
  generalize sl a = z at *
  clear a
  have HK := Lib.hid hK2
  clear hK2
  conv => arg 2; whnf
  simp only [dwF, h5]
  obtain ⟨lst, Q0, Q1⟩ : ∃ lst : Nat → List UInt8, Hid (lst 0 = l0) ∧ Hid (lst 1 = lst 0 ++ bigs 2 [0]) := by
    exact ⟨fun k => match k with | 0 => l0 | _ => (l0 ++ bigs 2 [0]), rfl, rfl⟩
  have N0 : Hid ((lst 0).length ≤ 50000000) := by unfold Hid; rw [Q0.out]; exact N00
  have N1 : Hid ((lst 1).length ≤ 50000000 + (2)) := by have h0 := N0.out; have h1 : ((bigs 2 [0] : List UInt8)).length ≤ 2 := (by simp [bigs_length, macB, big_length] <;> omega); unfold Hid; rw [Q1.out, List.length_append]; omega
  obtain ⟨V, hV⟩ : ∃ V : Nat → Value, V = (fun j => match j with | 0 => .pointer (some ⟨p, 0, none⟩) | 2 => .pointer (some ⟨p, 0, none⟩) | _ => undef) := ⟨_, rfl⟩
  have v0 : V 0 = .pointer (some ⟨p, 0, none⟩) := congrFun hV 0
  have v2 : V 2 = .pointer (some ⟨p, 0, none⟩) := congrFun hV 2
  clear hV
  refine wp_region_ssau_plain (by kernel_rfl) (by kernel_rfl) (by kernel_rfl)
    (fun u => ⟨List.toArray ((z 0) :: (z 1) :: (z 2) :: (z 3) :: (z 4) :: (.pointer (some ⟨p, 0, none⟩)) :: (z 6) :: (z 7) :: (z 8) :: (z 9) :: (z 10) :: (z 11) :: (z 12) :: (z 13) :: (z 14) :: (z 15) :: (z 16) :: (z 17) :: (z 18) :: (z 19) :: (z 20) :: (z 21) :: (z 22) :: (z 23) :: (z 24) :: (z 25) :: (z 26) :: (z 27) :: (z 28) :: (z 29) :: (u 0) :: (u 1) :: (u 2) :: (z 33) :: (z 34) :: (z 35) :: (z 36) :: (z 37) :: (z 38) :: (z 39) :: (z 40) :: (z 41) :: (z 42) :: (z 43) :: (z 44) :: (z 45) :: (z 46) :: (z 47) :: (z 48) :: (z 49) :: (z 50) :: (z 51) :: (z 52) :: (z 53) :: (z 54) :: (z 55) :: (z 56) :: (z 57) :: (z 58) :: (z 59) :: (z 60) :: (z 61) :: (z 62) :: (z 63) :: (z 64) :: (z 65) :: (z 66) :: (z 67) :: (z 68) :: (z 69) :: (z 70) :: (z 71) :: (z 72) :: (z 73) :: (z 74) :: (z 75) :: (z 76) :: (z 77) :: (z 78) :: (z 79) :: (z 80) :: (z 81) :: (z 82) :: (z 83) :: (z 84) :: (z 85) :: (z 86) :: (z 87) :: (z 88) :: (z 89) :: (z 90) :: (z 91) :: (z 92) :: (z 93) :: (z 94) :: (z 95) :: (z 96) :: (z 97) :: (z 98) :: (z 99) :: (z 100) :: []), []⟩)
    (fun j v w3 => if j = 1 then True else v = V j)
    (fun L u w3 => ∃ (c : Nat) (A : Option Addr), (L 2 = decide (0 < c)) ∧ c ≤ 1 ∧ Chn w1 p B A (lst c) w3 ∧ AlS (L 1) (u 1) 1 47 #[.int .u16 0] B A w3) (fun j => if j = 0 then z 30 else if j = 1 then z 31 else if j = 2 then z 32 else undef) ⟨0, A0, rfl, by omega, by rw [Q0.out]; exact hch0, AlS.false⟩ ?_ ?_
  · rintro L u w3 i o hG hΦ ho hL hd K2 hK2
    match i, ho with
    | 0, ho =>
      simp at ho; subst ho
      clear hΦ hd
      go_simp
      exact hK2 _ _ v0.symm hG (fun _ _ _ h => h)
    | 1, ho =>
      simp at ho; subst ho
      clear hΦ hd
      obtain ⟨c, A, e0, hcn, hch, s1⟩ := hG
      go_simp
      exact hK2 _ _ trivial ⟨c, A, e0, hcn, hch.alloc _, AlS.new hch 1 47 #[.int .u16 0]⟩ (fun _ _ _ h => h)
    | 2, ho =>
      simp at ho; subst ho
      have hu0 : u 0 = V 0 := hΦ 0 (hd ⟨0, .data⟩ (by simp) (by rfl))
      rw [v0] at hu0
      have hl1 : L 1 = true := hd ⟨1, .data⟩ (by simp) (by rfl)
      clear hΦ hd
      obtain ⟨c, A, e0, hcn, hch, s1⟩ := hG
      have hck : c = 0 := by
        have h1 := hL.symm.trans e0
        simp at h1; omega
      subst hck
      obtain ⟨g1, hg1, hb1, hB1, hn1⟩ := s1 hl1
      have hx : ∃ y, u = (upd (upd y 0 (.pointer (some ⟨p, 0, none⟩))) 1 (.slice (some ⟨g1, 0, none⟩) 1 1)) := ⟨u, by rw [← upd_self hu0, ← upd_self hg1]⟩
      clear hu0 hg1
      obtain ⟨y, rfl⟩ := hx
      simp only [upd, reduceIte, Nat.reduceEqDiff]
      go_simp
      refine (wU16 p A _ w3 _ 1 1 [0] hch.wr (SlR.of_bk (n := 1) (size := 1) hb1 (AlS.not hch hB1 hn1) rfl) (by intro x hx; simp at hx; omega) (by omega) (by have := N0.out; first | omega | (simp; omega))).mono ?_
      rintro e w4 ⟨rfl, hw4⟩
      obtain ⟨A', hch', hal⟩ := hch.call hw4
      exact hK2 _ _ v2.symm ⟨1, A', rfl, by omega, by rw [Q1.out]; exact hch', hal _ _ _ _ _ s1⟩ (fun _ _ _ h => h)
  · rintro u w3 hu L hall hG
    obtain ⟨c, A, e0, hcn, hch, s1⟩ := hG
    have hck : c = 1 := by
      have h1 := (hall 2 (by decide)).symm.trans e0
      simp at h1; omega
    subst hck
    have hfin : lst 1 = (l0 ++ bigs 2 [0]) := by rw [Q1.out, Q0.out]
    rw [hfin] at hch
    exact HK.out _ _ _ ⟨rfl, rfl⟩ (KpU.cons (rfl) (KpU.cons (rfl) (KpU.cons (rfl) (KpU.cons (rfl) (KpU.cons (rfl) (KpU.cons (h5.symm) (KpU.cons (rfl) (KpU.cons (rfl) (KpU.cons (rfl) (KpU.cons (rfl) (KpU.cons (rfl) (KpU.cons (rfl) (KpU.cons (rfl) (KpU.cons (rfl) (KpU.cons (rfl) (KpU.cons (rfl) (KpU.cons (rfl) (KpU.cons (rfl) (KpU.cons (rfl) (KpU.cons (rfl) (KpU.cons (rfl) (KpU.cons (rfl) (KpU.cons (rfl) (KpU.cons (rfl) (KpU.cons (rfl) (KpU.cons (rfl) (KpU.cons (rfl) (KpU.cons (rfl) (KpU.cons (rfl) (KpU.cons (rfl) (KpU.cons (rfl) (KpU.cons (rfl) (KpU.cons (rfl) (KpU.cons (rfl) (KpU.cons (rfl) (KpU.cons (rfl) (KpU.cons (rfl) (KpU.cons (rfl) (KpU.cons (rfl) (KpU.cons (rfl) (KpU.cons (rfl) (KpU.cons (rfl) (KpU.cons (rfl) (KpU.cons (rfl) (KpU.cons (rfl) (KpU.cons (rfl) (KpU.cons (rfl) (KpU.cons (rfl) (KpU.cons (rfl) (KpU.cons (rfl) (KpU.cons (rfl) (KpU.cons (rfl) (KpU.cons (rfl) (KpU.cons (rfl) (KpU.cons (rfl) (KpU.cons (rfl) (KpU.cons (rfl) (KpU.cons (rfl) (KpU.cons (rfl) (KpU.cons (rfl) (KpU.cons (rfl) (KpU.cons (rfl) (KpU.cons (rfl) (KpU.cons (rfl) (KpU.cons (rfl) (KpU.cons (rfl) (KpU.cons (rfl) (KpU.cons (rfl) (KpU.cons (rfl) (KpU.cons (rfl) (KpU.cons (rfl) (KpU.cons (rfl) (KpU.cons (rfl) (KpU.cons (rfl) (KpU.cons (rfl) (KpU.cons (rfl) (KpU.cons (rfl) (KpU.cons (rfl) (KpU.cons (rfl) (KpU.cons (rfl) (KpU.cons (rfl) (KpU.cons (rfl) (KpU.cons (rfl) (KpU.cons (rfl) (KpU.cons (rfl) (KpU.cons (rfl) (KpU.cons (rfl) (KpU.cons (rfl) (KpU.cons (rfl) (KpU.cons (rfl) (KpU.cons (rfl) (KpU.cons (rfl) (KpU.cons (rfl) (KpU.cons (rfl) (KpU.cons (rfl) (KpU.cons (rfl) (KpU.cons (rfl) (KpU.cons (rfl) (KpU.nil _ _)))))))))))))))))))))))))))))))))))))))))))))))))))))))))))))))))))))))))))))))))))))))))))))))))))  hch 
theorem dwR9 (pa : Nat) (rp : Bool) (xid client yours next n cap : Nat) (Ao : Option Addr) (m0 m1 m2 m3 m4 m5 : UInt8) (w1 : World) (p B : Nat) (A0 : Option Addr) (l0 : List UInt8) (a : Act) (w : World) (K : Exit → Act → World → Prop) (hs : Sz 101 a)
    (h1 : sl a 1 = .pointer (some ⟨pa, 0, none⟩)) (h5 : sl a 5 = .pointer (some ⟨p, 0, none⟩)) (hpa : Bk w1 pa 62 #[.bool rp, .int .u32 (xid : Int), .int .u32 (client : Int), .int .u32 (yours : Int), .int .u32 (next : Int), .int .u8 (m0.toNat : Int), .int .u8 (m1.toNat : Int), .int .u8 (m2.toNat : Int), .int .u8 (m3.toNat : Int), .int .u8 (m4.toNat : Int), .int .u8 (m5.toNat : Int), .slice Ao n cap]) (hpn : pa ≠ p) (hxid : xid < 4294967296) (hcl : client < 4294967296) (hyo : yours < 4294967296) (hnx : next < 4294967296)
     (hch0 : Chn w1 p B A0 l0 w) (N00 : l0.length ≤ 50000000)
    (hK : ∀ a' w' A', Sz 101 a' → Kp [0, 1, 2, 3, 4, 5, 6, 7, 8, 9, 10, 11, 12, 13, 14, 15, 16, 17, 18, 19, 20, 21, 22, 23, 24, 25, 26, 27, 28, 29, 30, 31, 32, 49, 50, 51, 52, 53, 54, 55, 56, 57, 58, 59, 60, 61, 62, 63, 64, 65, 66, 67, 68, 69, 70, 71, 72, 73, 74, 75, 76, 77, 78, 79, 80, 81, 82, 83, 84, 85, 86, 87, 88, 89, 90, 91, 92, 93, 94, 95, 96, 97, 98, 99, 100] a a' → Chn w1 p B A' ((((l0 ++ bigs 4 [(client : Int), (yours : Int), (next : Int), 0]) ++ List.flatMap macB [(m0, m1, m2, m3, m4, m5)]) ++ List.replicate (236 - List.length (α := UInt8) ((l0 ++ bigs 4 [(client : Int), (yours : Int), (next : Int), 0]) ++ List.flatMap macB [(m0, m1, m2, m3, m4, m5)])) (0 : UInt8)) ++ List.flatten [[99, 130, 83, 99]]) w' → K .normal a' w') :
    (regionOf Tryz.f161 9).wp Tryz.prog K a w := by
  have hK2 : ∀ a' w' A', Sz 101 a' → KpU [0, 1, 2, 3, 4, 5, 6, 7, 8, 9, 10, 11, 12, 13, 14, 15, 16, 17, 18, 19, 20, 21, 22, 23, 24, 25, 26, 27, 28, 29, 30, 31, 32, 49, 50, 51, 52, 53, 54, 55, 56, 57, 58, 59, 60, 61, 62, 63, 64, 65, 66, 67, 68, 69, 70, 71, 72, 73, 74, 75, 76, 77, 78, 79, 80, 81, 82, 83, 84, 85, 86, 87, 88, 89, 90, 91, 92, 93, 94, 95, 96, 97, 98, 99, 100] (sl a) a' → Chn w1 p B A' ((((l0 ++ bigs 4 [(client : Int), (yours : Int), (next : Int), 0]) ++ List.flatMap macB [(m0, m1, m2, m3, m4, m5)]) ++ List.replicate (236 - List.length (α := UInt8) ((l0 ++ bigs 4 [(client : Int), (yours : Int), (next : Int), 0]) ++ List.flatMap macB [(m0, m1, m2, m3, m4, m5)])) (0 : UInt8)) ++ List.flatten [[99, 130, 83, 99]]) w' → K .normal a' w' := hK
  clear hK
  rw [dwF_of hs]
  clear hs
  generalize sl a = z at *
  clear a
  have HK := Lib.hid hK2
  clear hK2
  conv => arg 2; whnf
  simp only [dwF, h1, h5]
  obtain ⟨lst, Q0, Q1, Q2, Q3, Q4⟩ : ∃ lst : Nat → List UInt8, Hid (lst 0 = l0) ∧ Hid (lst 1 = lst 0 ++ bigs 4 [(client : Int), (yours : Int), (next : Int), 0]) ∧ Hid (lst 2 = lst 1 ++ List.flatMap macB [(m0, m1, m2, m3, m4, m5)]) ∧ Hid (lst 3 = lst 2 ++ List.replicate (236 - List.length (α := UInt8) (lst 2)) (0 : UInt8)) ∧ Hid (lst 4 = lst 3 ++ List.flatten [[99, 130, 83, 99]]) := by
    exact ⟨fun k => match k with | 0 => l0 | 1 => (l0 ++ bigs 4 [(client : Int), (yours : Int), (next : Int), 0]) | 2 => ((l0 ++ bigs 4 [(client : Int), (yours : Int), (next : Int), 0]) ++ List.flatMap macB [(m0, m1, m2, m3, m4, m5)]) | 3 => (((l0 ++ bigs 4 [(client : Int), (yours : Int), (next : Int), 0]) ++ List.flatMap macB [(m0, m1, m2, m3, m4, m5)]) ++ List.replicate (236 - List.length (α := UInt8) ((l0 ++ bigs 4 [(client : Int), (yours : Int), (next : Int), 0]) ++ List.flatMap macB [(m0, m1, m2, m3, m4, m5)])) (0 : UInt8)) | _ => ((((l0 ++ bigs 4 [(client : Int), (yours : Int), (next : Int), 0]) ++ List.flatMap macB [(m0, m1, m2, m3, m4, m5)]) ++ List.replicate (236 - List.length (α := UInt8) ((l0 ++ bigs 4 [(client : Int), (yours : Int), (next : Int), 0]) ++ List.flatMap macB [(m0, m1, m2, m3, m4, m5)])) (0 : UInt8)) ++ List.flatten [[99, 130, 83, 99]]), rfl, rfl, rfl, rfl, rfl⟩
  have N0 : Hid ((lst 0).length ≤ 50000000) := by unfold Hid; rw [Q0.out]; exact N00
  have N1 : Hid ((lst 1).length ≤ 50000000 + (16)) := by have h0 := N0.out; have h1 : ((bigs 4 [(client : Int), (yours : Int), (next : Int), 0] : List UInt8)).length ≤ 16 := (by simp [bigs_length, macB, big_length] <;> omega); unfold Hid; rw [Q1.out, List.length_append]; omega
  have N2 : Hid ((lst 2).length ≤ 50000000 + (16) + (6)) := by have h0 := N1.out; have h1 : ((List.flatMap macB [(m0, m1, m2, m3, m4, m5)] : List UInt8)).length ≤ 6 := (by simp [bigs_length, macB, big_length] <;> omega); unfold Hid; rw [Q2.out, List.length_append]; omega
  have N3 : Hid ((lst 3).length ≤ 50000000 + (16) + (6) + (236)) := by have h0 := N2.out; have h1 : ((List.replicate (236 - List.length (α := UInt8) (lst 2)) (0 : UInt8) : List UInt8)).length ≤ 236 := (by simp [bigs_length, macB, big_length] <;> omega); unfold Hid; rw [Q3.out, List.length_append]; omega
  have N4 : Hid ((lst 4).length ≤ 50000000 + (16) + (6) + (236) + (([99, 130, 83, 99]).length)) := by have h0 := N3.out; have h1 : ((List.flatten [[99, 130, 83, 99]] : List UInt8)).length ≤ ([99, 130, 83, 99]).length := (by simp [bigs_length, macB, big_length] <;> omega); unfold Hid; rw [Q4.out, List.length_append]; omega
  obtain ⟨V, hV⟩ : ∃ V : Nat → Value, V = (fun j => match j with | 0 => .pointer (some ⟨p, 0, none⟩) | 1 => .pointer (some ⟨pa, 2, none⟩) | 2 => .int .u32 (client : Int) | 3 => .pointer (some ⟨pa, 3, none⟩) | 4 => .int .u32 (yours : Int) | 5 => .pointer (some ⟨pa, 4, none⟩) | 6 => .int .u32 (next : Int) | 8 => .pointer (some ⟨p, 0, none⟩) | 9 => .pointer (some ⟨pa, 5, none⟩) | 10 => .agg #[.int .u8 (m0.toNat : Int), .int .u8 (m1.toNat : Int), .int .u8 (m2.toNat : Int), .int .u8 (m3.toNat : Int), .int .u8 (m4.toNat : Int), .int .u8 (m5.toNat : Int)] | 12 => .pointer (some ⟨p, 0, none⟩) | 13 => .pointer (some ⟨p, 0, none⟩) | 15 => .pointer (some ⟨p, 0, none⟩) | _ => undef) := ⟨_, rfl⟩
  have v0 : V 0 = .pointer (some ⟨p, 0, none⟩) := congrFun hV 0
  have v1 : V 1 = .pointer (some ⟨pa, 2, none⟩) := congrFun hV 1
  have v2 : V 2 = .int .u32 (client : Int) := congrFun hV 2
  have v3 : V 3 = .pointer (some ⟨pa, 3, none⟩) := congrFun hV 3
  have v4 : V 4 = .int .u32 (yours : Int) := congrFun hV 4
  have v5 : V 5 = .pointer (some ⟨pa, 4, none⟩) := congrFun hV 5
  have v6 : V 6 = .int .u32 (next : Int) := congrFun hV 6
  have v8 : V 8 = .pointer (some ⟨p, 0, none⟩) := congrFun hV 8
  have v9 : V 9 = .pointer (some ⟨pa, 5, none⟩) := congrFun hV 9
  have v10 : V 10 = .agg #[.int .u8 (m0.toNat : Int), .int .u8 (m1.toNat : Int), .int .u8 (m2.toNat : Int), .int .u8 (m3.toNat : Int), .int .u8 (m4.toNat : Int), .int .u8 (m5.toNat : Int)] := congrFun hV 10
  have v12 : V 12 = .pointer (some ⟨p, 0, none⟩) := congrFun hV 12
  have v13 : V 13 = .pointer (some ⟨p, 0, none⟩) := congrFun hV 13
  have v15 : V 15 = .pointer (some ⟨p, 0, none⟩) := congrFun hV 15
  clear hV
  refine wp_region_ssau (by kernel_rfl) (by kernel_rfl) (by kernel_rfl)
    (fun u => ⟨List.toArray ((z 0) :: (.pointer (some ⟨pa, 0, none⟩)) :: (z 2) :: (z 3) :: (z 4) :: (.pointer (some ⟨p, 0, none⟩)) :: (z 6) :: (z 7) :: (z 8) :: (z 9) :: (z 10) :: (z 11) :: (z 12) :: (z 13) :: (z 14) :: (z 15) :: (z 16) :: (z 17) :: (z 18) :: (z 19) :: (z 20) :: (z 21) :: (z 22) :: (z 23) :: (z 24) :: (z 25) :: (z 26) :: (z 27) :: (z 28) :: (z 29) :: (z 30) :: (z 31) :: (z 32) :: (u 0) :: (u 1) :: (u 2) :: (u 3) :: (u 4) :: (u 5) :: (u 6) :: (u 7) :: (u 8) :: (u 9) :: (u 10) :: (u 11) :: (u 12) :: (u 13) :: (u 14) :: (u 15) :: (z 49) :: (z 50) :: (z 51) :: (z 52) :: (z 53) :: (z 54) :: (z 55) :: (z 56) :: (z 57) :: (z 58) :: (z 59) :: (z 60) :: (z 61) :: (z 62) :: (z 63) :: (z 64) :: (z 65) :: (z 66) :: (z 67) :: (z 68) :: (z 69) :: (z 70) :: (z 71) :: (z 72) :: (z 73) :: (z 74) :: (z 75) :: (z 76) :: (z 77) :: (z 78) :: (z 79) :: (z 80) :: (z 81) :: (z 82) :: (z 83) :: (z 84) :: (z 85) :: (z 86) :: (z 87) :: (z 88) :: (z 89) :: (z 90) :: (z 91) :: (z 92) :: (z 93) :: (z 94) :: (z 95) :: (z 96) :: (z 97) :: (z 98) :: (z 99) :: (z 100) :: []), []⟩)
    (fun j v w3 => if j = 7 then True else if j = 11 then True else if j = 14 then True else v = V j)
    (fun L u w3 => ∃ (c : Nat) (A : Option Addr), (L 8 = decide (0 < c) ∧ L 12 = decide (1 < c) ∧ L 13 = decide (2 < c) ∧ L 15 = decide (3 < c)) ∧ c ≤ 4 ∧ Chn w1 p B A (lst c) w3 ∧ AlS (L 7) (u 7) 4 38 #[.int .u32 (client : Int), .int .u32 (yours : Int), .int .u32 (next : Int), .int .u32 0] B A w3 ∧ AlS (L 11) (u 11) 1 26 #[.int .u8 (m0.toNat : Int), .int .u8 (m1.toNat : Int), .int .u8 (m2.toNat : Int), .int .u8 (m3.toNat : Int), .int .u8 (m4.toNat : Int), .int .u8 (m5.toNat : Int)] B A w3 ∧ AlS (L 14) (u 14) 1 9 #[.string (bs [99, 130, 83, 99])] B A w3) (fun j => if j = 0 then z 33 else if j = 1 then z 34 else if j = 2 then z 35 else if j = 3 then z 36 else if j = 4 then z 37 else if j = 5 then z 38 else if j = 6 then z 39 else if j = 7 then z 40 else if j = 8 then z 41 else if j = 9 then z 42 else if j = 10 then z 43 else if j = 11 then z 44 else if j = 12 then z 45 else if j = 13 then z 46 else if j = 14 then z 47 else if j = 15 then z 48 else undef) ⟨0, A0, ⟨rfl, rfl, rfl, rfl⟩, by omega, by rw [Q0.out]; exact hch0.drew2, AlS.false, AlS.false, AlS.false⟩ ?_ ?_
  · rintro L u w3 i o hG hΦ ho hL hd K2 hK2
    match i, ho with
    | 0, ho =>
      simp at ho; subst ho
      clear hΦ hd
      go_simp
      exact hK2 _ _ v0.symm hG (fun _ _ _ h => h)
    | 1, ho =>
      simp at ho; subst ho
      clear hΦ hd
      go_simp
      exact hK2 _ _ v1.symm hG (fun _ _ _ h => h)
    | 2, ho =>
      simp at ho; subst ho
      have hu1 : u 1 = V 1 := hΦ 1 (hd ⟨1, .data⟩ (by simp) (by rfl))
      rw [v1] at hu1
      clear hΦ hd
      obtain ⟨c, A, ⟨e0, e1, e2, e3⟩, hcn, hch, s7, s11, s14⟩ := hG
      have hx : ∃ y, u = (upd y 1 (.pointer (some ⟨pa, 2, none⟩))) := ⟨u, by rw [← upd_self hu1]⟩
      clear hu1
      obtain ⟨y, rfl⟩ := hx
      simp only [upd, reduceIte, Nat.reduceEqDiff]
      have hc0 := ((hpa).keep hch.fr (by unfold oneB; have := hch.lt; omega)).cells
      go_simp
      exact hK2 _ _ v2.symm ⟨c, A, ⟨e0, e1, e2, e3⟩, hcn, hch, s7, s11, s14⟩ (fun _ _ _ h => h)
    | 3, ho =>
      simp at ho; subst ho
      clear hΦ hd
      go_simp
      exact hK2 _ _ v3.symm hG (fun _ _ _ h => h)
    | 4, ho =>
      simp at ho; subst ho
      have hu3 : u 3 = V 3 := hΦ 3 (hd ⟨3, .data⟩ (by simp) (by rfl))
      rw [v3] at hu3
      clear hΦ hd
      obtain ⟨c, A, ⟨e0, e1, e2, e3⟩, hcn, hch, s7, s11, s14⟩ := hG
      have hx : ∃ y, u = (upd y 3 (.pointer (some ⟨pa, 3, none⟩))) := ⟨u, by rw [← upd_self hu3]⟩
      clear hu3
      obtain ⟨y, rfl⟩ := hx
      simp only [upd, reduceIte, Nat.reduceEqDiff]
      have hc0 := ((hpa).keep hch.fr (by unfold oneB; have := hch.lt; omega)).cells
      go_simp
      exact hK2 _ _ v4.symm ⟨c, A, ⟨e0, e1, e2, e3⟩, hcn, hch, s7, s11, s14⟩ (fun _ _ _ h => h)
    | 5, ho =>
      simp at ho; subst ho
      clear hΦ hd
      go_simp
      exact hK2 _ _ v5.symm hG (fun _ _ _ h => h)
    | 6, ho =>
      simp at ho; subst ho
      have hu5 : u 5 = V 5 := hΦ 5 (hd ⟨5, .data⟩ (by simp) (by rfl))
      rw [v5] at hu5
      clear hΦ hd
      obtain ⟨c, A, ⟨e0, e1, e2, e3⟩, hcn, hch, s7, s11, s14⟩ := hG
      have hx : ∃ y, u = (upd y 5 (.pointer (some ⟨pa, 4, none⟩))) := ⟨u, by rw [← upd_self hu5]⟩
      clear hu5
      obtain ⟨y, rfl⟩ := hx
      simp only [upd, reduceIte, Nat.reduceEqDiff]
      have hc0 := ((hpa).keep hch.fr (by unfold oneB; have := hch.lt; omega)).cells
      go_simp
      exact hK2 _ _ v6.symm ⟨c, A, ⟨e0, e1, e2, e3⟩, hcn, hch, s7, s11, s14⟩ (fun _ _ _ h => h)
    | 7, ho =>
      simp at ho; subst ho
      have hu2 : u 2 = V 2 := hΦ 2 (hd ⟨2, .data⟩ (by simp) (by rfl))
      rw [v2] at hu2
      have hu4 : u 4 = V 4 := hΦ 4 (hd ⟨4, .data⟩ (by simp) (by rfl))
      rw [v4] at hu4
      have hu6 : u 6 = V 6 := hΦ 6 (hd ⟨6, .data⟩ (by simp) (by rfl))
      rw [v6] at hu6
      clear hΦ hd
      obtain ⟨c, A, ⟨e0, e1, e2, e3⟩, hcn, hch, s7, s11, s14⟩ := hG
      have hx : ∃ y, u = (upd (upd (upd y 2 (.int .u32 (client : Int))) 4 (.int .u32 (yours : Int))) 6 (.int .u32 (next : Int))) := ⟨u, by rw [← upd_self hu2, ← upd_self hu4, ← upd_self hu6]⟩
      clear hu2 hu4 hu6
      obtain ⟨y, rfl⟩ := hx
      simp only [upd, reduceIte, Nat.reduceEqDiff]
      go_simp
      exact hK2 _ _ trivial ⟨c, A, ⟨e0, e1, e2, e3⟩, hcn, hch.alloc _, AlS.new hch 4 38 #[.int .u32 (client : Int), .int .u32 (yours : Int), .int .u32 (next : Int), .int .u32 0], AlS.alloc s11 _, AlS.alloc s14 _⟩ (fun _ _ _ h => h)
    | 8, ho =>
      simp at ho; subst ho
      have hu0 : u 0 = V 0 := hΦ 0 (hd ⟨0, .data⟩ (by simp) (by rfl))
      rw [v0] at hu0
      have hl7 : L 7 = true := hd ⟨7, .data⟩ (by simp) (by rfl)
      clear hΦ hd
      obtain ⟨c, A, ⟨e0, e1, e2, e3⟩, hcn, hch, s7, s11, s14⟩ := hG
      have hck : c = 0 := by
        have h1 := hL.symm.trans e0
        simp at h1; omega
      subst hck
      obtain ⟨g7, hg7, hb7, hB7, hn7⟩ := s7 hl7
      have hx : ∃ y, u = (upd (upd y 0 (.pointer (some ⟨p, 0, none⟩))) 7 (.slice (some ⟨g7, 0, none⟩) 4 4)) := ⟨u, by rw [← upd_self hu0, ← upd_self hg7]⟩
      clear hu0 hg7
      obtain ⟨y, rfl⟩ := hx
      simp only [upd, reduceIte, Nat.reduceEqDiff]
      go_simp
      refine (wIP p A _ w3 _ 4 4 [(client : Int), (yours : Int), (next : Int), 0] hch.wr (SlR.of_bk (n := 4) (size := 1) hb7 (AlS.not hch hB7 hn7) rfl) (by intro x hx; simp at hx; omega) (by omega) (by have := N0.out; first | omega | (simp; omega))).mono ?_
      rintro e w4 ⟨rfl, hw4⟩
      obtain ⟨A', hch', hal⟩ := hch.call hw4
      exact hK2 _ _ v8.symm ⟨1, A', ⟨rfl, e1, e2, e3⟩, by omega, by rw [Q1.out]; exact hch', hal _ _ _ _ _ s7, hal _ _ _ _ _ s11, hal _ _ _ _ _ s14⟩ (fun _ _ _ h => h)
    | 9, ho =>
      simp at ho; subst ho
      clear hΦ hd
      go_simp
      exact hK2 _ _ v9.symm hG (fun _ _ _ h => h)
    | 10, ho =>
      simp at ho; subst ho
      have hu9 : u 9 = V 9 := hΦ 9 (hd ⟨9, .data⟩ (by simp) (by rfl))
      rw [v9] at hu9
      clear hΦ hd
      obtain ⟨c, A, ⟨e0, e1, e2, e3⟩, hcn, hch, s7, s11, s14⟩ := hG
      have hx : ∃ y, u = (upd y 9 (.pointer (some ⟨pa, 5, none⟩))) := ⟨u, by rw [← upd_self hu9]⟩
      clear hu9
      obtain ⟨y, rfl⟩ := hx
      simp only [upd, reduceIte, Nat.reduceEqDiff]
      have hc0 := ((hpa).keep hch.fr (by unfold oneB; have := hch.lt; omega)).cells
      go_simp
      exact hK2 _ _ v10.symm ⟨c, A, ⟨e0, e1, e2, e3⟩, hcn, hch, s7, s11, s14⟩ (fun _ _ _ h => h)
    | 11, ho =>
      simp at ho; subst ho
      have hu10 : u 10 = V 10 := hΦ 10 (hd ⟨10, .data⟩ (by simp) (by rfl))
      rw [v10] at hu10
      clear hΦ hd
      obtain ⟨c, A, ⟨e0, e1, e2, e3⟩, hcn, hch, s7, s11, s14⟩ := hG
      have hx : ∃ y, u = (upd y 10 (.agg #[.int .u8 (m0.toNat : Int), .int .u8 (m1.toNat : Int), .int .u8 (m2.toNat : Int), .int .u8 (m3.toNat : Int), .int .u8 (m4.toNat : Int), .int .u8 (m5.toNat : Int)])) := ⟨u, by rw [← upd_self hu10]⟩
      clear hu10
      obtain ⟨y, rfl⟩ := hx
      simp only [upd, reduceIte, Nat.reduceEqDiff]
      go_simp
      exact hK2 _ _ trivial ⟨c, A, ⟨e0, e1, e2, e3⟩, hcn, hch.alloc _, AlS.alloc s7 _, AlS.new hch 1 26 #[.int .u8 (m0.toNat : Int), .int .u8 (m1.toNat : Int), .int .u8 (m2.toNat : Int), .int .u8 (m3.toNat : Int), .int .u8 (m4.toNat : Int), .int .u8 (m5.toNat : Int)], AlS.alloc s14 _⟩ (fun _ _ _ h => h)
    | 12, ho =>
      simp at ho; subst ho
      have hu8 : u 8 = V 8 := hΦ 8 (hd ⟨8, .data⟩ (by simp) (by rfl))
      rw [v8] at hu8
      have hl11 : L 11 = true := hd ⟨11, .data⟩ (by simp) (by rfl)
      have hlc : L 8 = true := hd ⟨8, .chain⟩ (by simp) (by rfl)
      clear hΦ hd
      obtain ⟨c, A, ⟨e0, e1, e2, e3⟩, hcn, hch, s7, s11, s14⟩ := hG
      have hck : c = 1 := by
        have h1 := hL.symm.trans e1
        have h2 := hlc.symm.trans e0
        simp at h1 h2; omega
      subst hck
      obtain ⟨g11, hg11, hb11, hB11, hn11⟩ := s11 hl11
      have hx : ∃ y, u = (upd (upd y 8 (.pointer (some ⟨p, 0, none⟩))) 11 (.slice (some ⟨g11, 0, none⟩) 1 1)) := ⟨u, by rw [← upd_self hu8, ← upd_self hg11]⟩
      clear hu8 hg11
      obtain ⟨y, rfl⟩ := hx
      simp only [upd, reduceIte, Nat.reduceEqDiff]
      go_simp
      refine (wMAC p A _ w3 g11 1 1 [(m0, m1, m2, m3, m4, m5)] hch.wr (SlR.of_bk (n := 1) (size := 6) hb11 (AlS.not hch hB11 hn11) rfl) (by omega) (by have := N1.out; first | omega | (simp; omega))).mono ?_
      rintro e w4 ⟨rfl, hw4⟩
      obtain ⟨A', hch', hal⟩ := hch.call hw4
      exact hK2 _ _ v12.symm ⟨2, A', ⟨e0, rfl, e2, e3⟩, by omega, by rw [Q2.out]; exact hch', hal _ _ _ _ _ s7, hal _ _ _ _ _ s11, hal _ _ _ _ _ s14⟩ (fun _ _ _ h => h)
    | 13, ho =>
      simp at ho; subst ho
      have hu12 : u 12 = V 12 := hΦ 12 (hd ⟨12, .data⟩ (by simp) (by rfl))
      rw [v12] at hu12
      have hlc : L 12 = true := hd ⟨12, .chain⟩ (by simp) (by rfl)
      clear hΦ hd
      obtain ⟨c, A, ⟨e0, e1, e2, e3⟩, hcn, hch, s7, s11, s14⟩ := hG
      have hck : c = 2 := by
        have h1 := hL.symm.trans e2
        have h2 := hlc.symm.trans e1
        simp at h1 h2; omega
      subst hck
      have hx : ∃ y, u = (upd y 12 (.pointer (some ⟨p, 0, none⟩))) := ⟨u, by rw [← upd_self hu12]⟩
      clear hu12
      obtain ⟨y, rfl⟩ := hx
      simp only [upd, reduceIte, Nat.reduceEqDiff]
      go_simp
      refine (wZero p A _ w3 236 hch.wr (by omega) (by have := N2.out; first | omega | (simp; omega))).mono ?_
      rintro e w4 ⟨rfl, hw4⟩
      obtain ⟨A', hch', hal⟩ := hch.call hw4
      exact hK2 _ _ v13.symm ⟨3, A', ⟨e0, e1, rfl, e3⟩, by omega, by rw [Q3.out]; exact hch', hal _ _ _ _ _ s7, hal _ _ _ _ _ s11, hal _ _ _ _ _ s14⟩ (fun _ _ _ h => h)
    | 14, ho =>
      simp at ho; subst ho
      clear hΦ hd
      obtain ⟨c, A, ⟨e0, e1, e2, e3⟩, hcn, hch, s7, s11, s14⟩ := hG
      go_simp
      exact hK2 _ _ trivial ⟨c, A, ⟨e0, e1, e2, e3⟩, hcn, hch.alloc _, AlS.alloc s7 _, AlS.alloc s11 _, AlS.new hch 1 9 #[.string (bs [99, 130, 83, 99])]⟩ (fun _ _ _ h => h)
    | 15, ho =>
      simp at ho; subst ho
      have hu13 : u 13 = V 13 := hΦ 13 (hd ⟨13, .data⟩ (by simp) (by rfl))
      rw [v13] at hu13
      have hl14 : L 14 = true := hd ⟨14, .data⟩ (by simp) (by rfl)
      have hlc : L 13 = true := hd ⟨13, .chain⟩ (by simp) (by rfl)
      clear hΦ hd
      obtain ⟨c, A, ⟨e0, e1, e2, e3⟩, hcn, hch, s7, s11, s14⟩ := hG
      have hck : c = 3 := by
        have h1 := hL.symm.trans e3
        have h2 := hlc.symm.trans e2
        simp at h1 h2; omega
      subst hck
      obtain ⟨g14, hg14, hb14, hB14, hn14⟩ := s14 hl14
      have hx : ∃ y, u = (upd (upd y 13 (.pointer (some ⟨p, 0, none⟩))) 14 (.slice (some ⟨g14, 0, none⟩) 1 1)) := ⟨u, by rw [← upd_self hu13, ← upd_self hg14]⟩
      clear hu13 hg14
      obtain ⟨y, rfl⟩ := hx
      simp only [upd, reduceIte, Nat.reduceEqDiff]
      go_simp
      refine (wText p A _ w3 _ 1 1 [[99, 130, 83, 99]] hch.wr (SlR.of_bk (n := 1) (size := 1) hb14 (AlS.not hch hB14 hn14) rfl) (by omega) (by have := N3.out; first | omega | (simp; omega))).mono ?_
      rintro e w4 ⟨rfl, hw4⟩
      obtain ⟨A', hch', hal⟩ := hch.call hw4
      exact hK2 _ _ v15.symm ⟨4, A', ⟨e0, e1, e2, rfl⟩, by omega, by rw [Q4.out]; exact hch', hal _ _ _ _ _ s7, hal _ _ _ _ _ s11, hal _ _ _ _ _ s14⟩ (fun _ _ _ h => h)
  · rintro u w3 hu L hall hG
    obtain ⟨c, A, ⟨e0, e1, e2, e3⟩, hcn, hch, s7, s11, s14⟩ := hG
    have hck : c = 4 := by
      have h1 := (hall 15 (by decide)).symm.trans e3
      simp at h1; omega
    subst hck
    have hfin : lst 4 = ((((l0 ++ bigs 4 [(client : Int), (yours : Int), (next : Int), 0]) ++ List.flatMap macB [(m0, m1, m2, m3, m4, m5)]) ++ List.replicate (236 - List.length (α := UInt8) ((l0 ++ bigs 4 [(client : Int), (yours : Int), (next : Int), 0]) ++ List.flatMap macB [(m0, m1, m2, m3, m4, m5)])) (0 : UInt8)) ++ List.flatten [[99, 130, 83, 99]]) := by rw [Q4.out, Q3.out, Q2.out, Q1.out, Q0.out]
    rw [hfin] at hch
    exact HK.out _ _ _ ⟨rfl, rfl⟩ (KpU.cons (rfl) (KpU.cons (h1.symm) (KpU.cons (rfl) (KpU.cons (rfl) (KpU.cons (rfl) (KpU.cons (h5.symm) (KpU.cons (rfl) (KpU.cons (rfl) (KpU.cons (rfl) (KpU.cons (rfl) (KpU.cons (rfl) (KpU.cons (rfl) (KpU.cons (rfl) (KpU.cons (rfl) (KpU.cons (rfl) (KpU.cons (rfl) (KpU.cons (rfl) (KpU.cons (rfl) (KpU.cons (rfl) (KpU.cons (rfl) (KpU.cons (rfl) (KpU.cons (rfl) (KpU.cons (rfl) (KpU.cons (rfl) (KpU.cons (rfl) (KpU.cons (rfl) (KpU.cons (rfl) (KpU.cons (rfl) (KpU.cons (rfl) (KpU.cons (rfl) (KpU.cons (rfl) (KpU.cons (rfl) (KpU.cons (rfl) (KpU.cons (rfl) (KpU.cons (rfl) (KpU.cons (rfl) (KpU.cons (rfl) (KpU.cons (rfl) (KpU.cons (rfl) (KpU.cons (rfl) (KpU.cons (rfl) (KpU.cons (rfl) (KpU.cons (rfl) (KpU.cons (rfl) (KpU.cons (rfl) (KpU.cons (rfl) (KpU.cons (rfl) (KpU.cons (rfl) (KpU.cons (rfl) (KpU.cons (rfl) (KpU.cons (rfl) (KpU.cons (rfl) (KpU.cons (rfl) (KpU.cons (rfl) (KpU.cons (rfl) (KpU.cons (rfl) (KpU.cons (rfl) (KpU.cons (rfl) (KpU.cons (rfl) (KpU.cons (rfl) (KpU.cons (rfl) (KpU.cons (rfl) (KpU.cons (rfl) (KpU.cons (rfl) (KpU.cons (rfl) (KpU.cons (rfl) (KpU.cons (rfl) (KpU.cons (rfl) (KpU.cons (rfl) (KpU.cons (rfl) (KpU.cons (rfl) (KpU.cons (rfl) (KpU.cons (rfl) (KpU.cons (rfl) (KpU.cons (rfl) (KpU.cons (rfl) (KpU.cons (rfl) (KpU.cons (rfl) (KpU.cons (rfl) (KpU.cons (rfl) (KpU.cons (rfl) (KpU.cons (rfl) (KpU.cons (rfl) (KpU.cons (rfl) (KpU.cons (rfl) (KpU.nil _ _))))))))))))))))))))))))))))))))))))))))))))))))))))))))))))))))))))))))))))))))))))))  hch 
theorem dwR17 (go n : Nat) (oc : UInt8) (od d : List UInt8) (w1 : World) (p B : Nat) (A0 : Option Addr) (l0 : List UInt8) (a : Act) (w : World) (K : Exit → Act → World → Prop) (hs : Sz 101 a)
    (h5 : sl a 5 = .pointer (some ⟨p, 0, none⟩)) (h7 : sl a 7 = .pointer (some ⟨go, 0, none⟩)) (h8 : sl a 8 = .string (bs d)) (h9 : sl a 9 = .int .i64 (n : Int)) (hn : n ≤ 255) (hnd : n ≤ d.length) (hdl : d.length ≤ 40000000)
    (hxo : AlS true (.slice (some ⟨go, 0, none⟩) 0 0) 0 66 #[.int .u8 (oc.toNat : Int), .string (bs od)] B A0 w) (hch0 : Chn w1 p B A0 l0 w) (N00 : l0.length ≤ 50000000)
    (hK : ∀ a' w' A', Sz 101 a' → Kp [0, 1, 2, 3, 4, 5, 6, 7, 8, 9, 10, 11, 12, 13, 14, 15, 16, 17, 18, 19, 20, 21, 22, 23, 24, 25, 26, 27, 28, 29, 30, 31, 32, 33, 34, 35, 36, 37, 38, 39, 40, 41, 42, 43, 44, 45, 46, 47, 48, 49, 50, 51, 52, 53, 54, 55, 56, 57, 58, 59, 60, 61, 62, 63, 64, 65, 66, 67, 68, 69, 70, 71, 72, 73, 86, 87, 88, 89, 90, 91, 92, 93, 94, 95, 96, 97, 98, 99, 100] a a' → Chn w1 p B A' ((l0 ++ [oc, (UInt8.ofNat n)]) ++ List.flatten [(d.take n)]) w' → AlS true (.slice (some ⟨go, 0, none⟩) 0 0) 0 66 #[.int .u8 (oc.toNat : Int), .string (bs od)] B A' w' → K .normal a' w') :
    (regionOf Tryz.f161 17).wp Tryz.prog K a w := by
  have hK2 : ∀ a' w' A', Sz 101 a' → KpU [0, 1, 2, 3, 4, 5, 6, 7, 8, 9, 10, 11, 12, 13, 14, 15, 16, 17, 18, 19, 20, 21, 22, 23, 24, 25, 26, 27, 28, 29, 30, 31, 32, 33, 34, 35, 36, 37, 38, 39, 40, 41, 42, 43, 44, 45, 46, 47, 48, 49, 50, 51, 52, 53, 54, 55, 56, 57, 58, 59, 60, 61, 62, 63, 64, 65, 66, 67, 68, 69, 70, 71, 72, 73, 86, 87, 88, 89, 90, 91, 92, 93, 94, 95, 96, 97, 98, 99, 100] (sl a) a' → Chn w1 p B A' ((l0 ++ [oc, (UInt8.ofNat n)]) ++ List.flatten [(d.take n)]) w' → AlS true (.slice (some ⟨go, 0, none⟩) 0 0) 0 66 #[.int .u8 (oc.toNat : Int), .string (bs od)] B A' w' → K .normal a' w' := hK
  clear hK
  rw [dwF_of hs]
  clear hs
  generalize sl a = z at *
  clear a
  have HK := Lib.hid hK2
  clear hK2
  conv => arg 2; whnf
  simp only [dwF, h5, h7, h8, h9]
  obtain ⟨lst, Q0, Q1, Q2⟩ : ∃ lst : Nat → List UInt8, Hid (lst 0 = l0) ∧ Hid (lst 1 = lst 0 ++ [oc, (UInt8.ofNat n)]) ∧ Hid (lst 2 = lst 1 ++ List.flatten [(d.take n)]) := by
    exact ⟨fun k => match k with | 0 => l0 | 1 => (l0 ++ [oc, (UInt8.ofNat n)]) | _ => ((l0 ++ [oc, (UInt8.ofNat n)]) ++ List.flatten [(d.take n)]), rfl, rfl, rfl⟩
  have N0 : Hid ((lst 0).length ≤ 50000000) := by unfold Hid; rw [Q0.out]; exact N00
  have N1 : Hid ((lst 1).length ≤ 50000000 + (2)) := by have h0 := N0.out; have h1 : (([oc, (UInt8.ofNat n)] : List UInt8)).length ≤ 2 := (by simp [bigs_length, macB, big_length] <;> omega); unfold Hid; rw [Q1.out, List.length_append]; omega
  have N2 : Hid ((lst 2).length ≤ 50000000 + (2) + (((d.take n)).length)) := by have h0 := N1.out; have h1 : ((List.flatten [(d.take n)] : List UInt8)).length ≤ ((d.take n)).length := (by simp [bigs_length, macB, big_length] <;> omega); unfold Hid; rw [Q2.out, List.length_append]; omega
  obtain ⟨V, hV⟩ : ∃ V : Nat → Value, V = (fun j => match j with | 0 => .pointer (some ⟨p, 0, none⟩) | 1 => .pointer (some ⟨go, 0, none⟩) | 2 => .int .u8 (oc.toNat : Int) | 3 => .int .i64 (n : Int) | 4 => .int .u8 ((UInt8.ofNat n).toNat : Int) | 6 => .pointer (some ⟨p, 0, none⟩) | 7 => .string (bs d) | 8 => .int .i64 (n : Int) | 9 => .string (bs (d.take n)) | 11 => .pointer (some ⟨p, 0, none⟩) | _ => undef) := ⟨_, rfl⟩
  have v0 : V 0 = .pointer (some ⟨p, 0, none⟩) := congrFun hV 0
  have v1 : V 1 = .pointer (some ⟨go, 0, none⟩) := congrFun hV 1
  have v2 : V 2 = .int .u8 (oc.toNat : Int) := congrFun hV 2
  have v3 : V 3 = .int .i64 (n : Int) := congrFun hV 3
  have v4 : V 4 = .int .u8 ((UInt8.ofNat n).toNat : Int) := congrFun hV 4
  have v6 : V 6 = .pointer (some ⟨p, 0, none⟩) := congrFun hV 6
  have v7 : V 7 = .string (bs d) := congrFun hV 7
  have v8 : V 8 = .int .i64 (n : Int) := congrFun hV 8
  have v9 : V 9 = .string (bs (d.take n)) := congrFun hV 9
  have v11 : V 11 = .pointer (some ⟨p, 0, none⟩) := congrFun hV 11
  clear hV
  refine wp_region_ssau (by kernel_rfl) (by kernel_rfl) (by kernel_rfl)
    (fun u => ⟨List.toArray ((z 0) :: (z 1) :: (z 2) :: (z 3) :: (z 4) :: (.pointer (some ⟨p, 0, none⟩)) :: (z 6) :: (.pointer (some ⟨go, 0, none⟩)) :: (.string (bs d)) :: (.int .i64 (n : Int)) :: (z 10) :: (z 11) :: (z 12) :: (z 13) :: (z 14) :: (z 15) :: (z 16) :: (z 17) :: (z 18) :: (z 19) :: (z 20) :: (z 21) :: (z 22) :: (z 23) :: (z 24) :: (z 25) :: (z 26) :: (z 27) :: (z 28) :: (z 29) :: (z 30) :: (z 31) :: (z 32) :: (z 33) :: (z 34) :: (z 35) :: (z 36) :: (z 37) :: (z 38) :: (z 39) :: (z 40) :: (z 41) :: (z 42) :: (z 43) :: (z 44) :: (z 45) :: (z 46) :: (z 47) :: (z 48) :: (z 49) :: (z 50) :: (z 51) :: (z 52) :: (z 53) :: (z 54) :: (z 55) :: (z 56) :: (z 57) :: (z 58) :: (z 59) :: (z 60) :: (z 61) :: (z 62) :: (z 63) :: (z 64) :: (z 65) :: (z 66) :: (z 67) :: (z 68) :: (z 69) :: (z 70) :: (z 71) :: (z 72) :: (z 73) :: (u 0) :: (u 1) :: (u 2) :: (u 3) :: (u 4) :: (u 5) :: (u 6) :: (u 7) :: (u 8) :: (u 9) :: (u 10) :: (u 11) :: (z 86) :: (z 87) :: (z 88) :: (z 89) :: (z 90) :: (z 91) :: (z 92) :: (z 93) :: (z 94) :: (z 95) :: (z 96) :: (z 97) :: (z 98) :: (z 99) :: (z 100) :: []), []⟩)
    (fun j v w3 => if j = 5 then True else if j = 10 then True else v = V j)
    (fun L u w3 => ∃ (c : Nat) (A : Option Addr), (L 6 = decide (0 < c) ∧ L 11 = decide (1 < c)) ∧ c ≤ 2 ∧ Chn w1 p B A (lst c) w3 ∧ AlS (L 5) (u 5) 2 5 #[.int .u8 (oc.toNat : Int), .int .u8 ((UInt8.ofNat n).toNat : Int)] B A w3 ∧ AlS (L 10) (u 10) 1 9 #[.string (bs (d.take n))] B A w3 ∧ AlS true (.slice (some ⟨go, 0, none⟩) 0 0) 0 66 #[.int .u8 (oc.toNat : Int), .string (bs od)] B A w3) (fun j => if j = 0 then z 74 else if j = 1 then z 75 else if j = 2 then z 76 else if j = 3 then z 77 else if j = 4 then z 78 else if j = 5 then z 79 else if j = 6 then z 80 else if j = 7 then z 81 else if j = 8 then z 82 else if j = 9 then z 83 else if j = 10 then z 84 else if j = 11 then z 85 else undef) ⟨0, A0, ⟨rfl, rfl⟩, by omega, by rw [Q0.out]; exact hch0.drew2, AlS.false, AlS.false, hxo.drew2⟩ ?_ ?_
  · rintro L u w3 i o hG hΦ ho hL hd K2 hK2
    match i, ho with
    | 0, ho =>
      simp at ho; subst ho
      clear hΦ hd
      go_simp
      exact hK2 _ _ v0.symm hG (fun _ _ _ h => h)
    | 1, ho =>
      simp at ho; subst ho
      clear hΦ hd
      go_simp
      exact hK2 _ _ v1.symm hG (fun _ _ _ h => h)
    | 2, ho =>
      simp at ho; subst ho
      have hu1 : u 1 = V 1 := hΦ 1 (hd ⟨1, .data⟩ (by simp) (by rfl))
      rw [v1] at hu1
      clear hΦ hd
      obtain ⟨c, A, ⟨e0, e1⟩, hcn, hch, s5, s10, x0⟩ := hG
      have hx : ∃ y, u = (upd y 1 (.pointer (some ⟨go, 0, none⟩))) := ⟨u, by rw [← upd_self hu1]⟩
      clear hu1
      obtain ⟨y, rfl⟩ := hx
      simp only [upd, reduceIte, Nat.reduceEqDiff]
      obtain ⟨gg, hgg, hbb, -, -⟩ := x0 rfl
      injection hgg with hgg; injection hgg with hgg; injection hgg with hgg; subst hgg
      have hc0 := hbb.cells
      go_simp
      exact hK2 _ _ v2.symm ⟨c, A, ⟨e0, e1⟩, hcn, hch, s5, s10, x0⟩ (fun _ _ _ h => h)
    | 3, ho =>
      simp at ho; subst ho
      clear hΦ hd
      go_simp
      exact hK2 _ _ v3.symm hG (fun _ _ _ h => h)
    | 4, ho =>
      simp at ho; subst ho
      have hu3 : u 3 = V 3 := hΦ 3 (hd ⟨3, .data⟩ (by simp) (by rfl))
      rw [v3] at hu3
      clear hΦ hd
      have hx : ∃ y, u = (upd y 3 (.int .i64 (n : Int))) := ⟨u, by rw [← upd_self hu3]⟩
      clear hu3
      obtain ⟨y, rfl⟩ := hx
      simp only [upd, reduceIte, Nat.reduceEqDiff]
      have e1 : IntKind.u8.wrap (n : Int) = ((UInt8.ofNat n).toNat : Int) := wrap_u8_of n hn
      go_simp
      exact hK2 _ _ v4.symm hG (fun _ _ _ h => h)
    | 5, ho =>
      simp at ho; subst ho
      have hu2 : u 2 = V 2 := hΦ 2 (hd ⟨2, .data⟩ (by simp) (by rfl))
      rw [v2] at hu2
      have hu4 : u 4 = V 4 := hΦ 4 (hd ⟨4, .data⟩ (by simp) (by rfl))
      rw [v4] at hu4
      clear hΦ hd
      obtain ⟨c, A, ⟨e0, e1⟩, hcn, hch, s5, s10, x0⟩ := hG
      have hx : ∃ y, u = (upd (upd y 2 (.int .u8 (oc.toNat : Int))) 4 (.int .u8 ((UInt8.ofNat n).toNat : Int))) := ⟨u, by rw [← upd_self hu2, ← upd_self hu4]⟩
      clear hu2 hu4
      obtain ⟨y, rfl⟩ := hx
      simp only [upd, reduceIte, Nat.reduceEqDiff]
      go_simp
      exact hK2 _ _ trivial ⟨c, A, ⟨e0, e1⟩, hcn, hch.alloc _, AlS.new hch 2 5 #[.int .u8 (oc.toNat : Int), .int .u8 ((UInt8.ofNat n).toNat : Int)], AlS.alloc s10 _, AlS.alloc x0 _⟩ (fun _ _ _ h => h)
    | 6, ho =>
      simp at ho; subst ho
      have hu0 : u 0 = V 0 := hΦ 0 (hd ⟨0, .data⟩ (by simp) (by rfl))
      rw [v0] at hu0
      have hl5 : L 5 = true := hd ⟨5, .data⟩ (by simp) (by rfl)
      clear hΦ hd
      obtain ⟨c, A, ⟨e0, e1⟩, hcn, hch, s5, s10, x0⟩ := hG
      have hck : c = 0 := by
        have h1 := hL.symm.trans e0
        simp at h1; omega
      subst hck
      obtain ⟨g5, hg5, hb5, hB5, hn5⟩ := s5 hl5
      have hx : ∃ y, u = (upd (upd y 0 (.pointer (some ⟨p, 0, none⟩))) 5 (.slice (some ⟨g5, 0, none⟩) 2 2)) := ⟨u, by rw [← upd_self hu0, ← upd_self hg5]⟩
      clear hu0 hg5
      obtain ⟨y, rfl⟩ := hx
      simp only [upd, reduceIte, Nat.reduceEqDiff]
      go_simp
      refine (wU8 p A _ w3 _ 2 2 [oc, (UInt8.ofNat n)] (wrS p A) hch.wr (SlR.of_bk (n := 2) (size := 1) hb5 (AlS.not hch hB5 hn5) rfl) (by have := N0.out; first | omega | (simp; omega))).mono ?_
      rintro e w4 ⟨rfl, hw4⟩
      obtain ⟨A', hch', hal⟩ := hch.call hw4
      exact hK2 _ _ v6.symm ⟨1, A', ⟨rfl, e1⟩, by omega, by rw [Q1.out]; exact hch', hal _ _ _ _ _ s5, hal _ _ _ _ _ s10, hal _ _ _ _ _ x0⟩ (fun _ _ _ h => h)
    | 7, ho =>
      simp at ho; subst ho
      clear hΦ hd
      go_simp
      exact hK2 _ _ v7.symm hG (fun _ _ _ h => h)
    | 8, ho =>
      simp at ho; subst ho
      clear hΦ hd
      go_simp
      exact hK2 _ _ v8.symm hG (fun _ _ _ h => h)
    | 9, ho =>
      simp at ho; subst ho
      have hu7 : u 7 = V 7 := hΦ 7 (hd ⟨7, .data⟩ (by simp) (by rfl))
      rw [v7] at hu7
      have hu8 : u 8 = V 8 := hΦ 8 (hd ⟨8, .data⟩ (by simp) (by rfl))
      rw [v8] at hu8
      clear hΦ hd
      have hx : ∃ y, u = (upd (upd y 7 (.string (bs d))) 8 (.int .i64 (n : Int))) := ⟨u, by rw [← upd_self hu7, ← upd_self hu8]⟩
      clear hu7 hu8
      obtain ⟨y, rfl⟩ := hx
      simp only [upd, reduceIte, Nat.reduceEqDiff]
      have e1 : (0 : Int) ≤ (n : Int) := by omega
      have e2 : (n : Int) ≤ (d.length : Int) := by omega
      go_simp
      exact hK2 _ _ v9.symm hG (fun _ _ _ h => h)
    | 10, ho =>
      simp at ho; subst ho
      have hu9 : u 9 = V 9 := hΦ 9 (hd ⟨9, .data⟩ (by simp) (by rfl))
      rw [v9] at hu9
      clear hΦ hd
      obtain ⟨c, A, ⟨e0, e1⟩, hcn, hch, s5, s10, x0⟩ := hG
      have hx : ∃ y, u = (upd y 9 (.string (bs (d.take n)))) := ⟨u, by rw [← upd_self hu9]⟩
      clear hu9
      obtain ⟨y, rfl⟩ := hx
      simp only [upd, reduceIte, Nat.reduceEqDiff]
      go_simp
      exact hK2 _ _ trivial ⟨c, A, ⟨e0, e1⟩, hcn, hch.alloc _, AlS.alloc s5 _, AlS.new hch 1 9 #[.string (bs (d.take n))], AlS.alloc x0 _⟩ (fun _ _ _ h => h)
    | 11, ho =>
      simp at ho; subst ho
      have hu6 : u 6 = V 6 := hΦ 6 (hd ⟨6, .data⟩ (by simp) (by rfl))
      rw [v6] at hu6
      have hl10 : L 10 = true := hd ⟨10, .data⟩ (by simp) (by rfl)
      have hlc : L 6 = true := hd ⟨6, .chain⟩ (by simp) (by rfl)
      clear hΦ hd
      obtain ⟨c, A, ⟨e0, e1⟩, hcn, hch, s5, s10, x0⟩ := hG
      have hck : c = 1 := by
        have h1 := hL.symm.trans e1
        have h2 := hlc.symm.trans e0
        simp at h1 h2; omega
      subst hck
      obtain ⟨g10, hg10, hb10, hB10, hn10⟩ := s10 hl10
      have hx : ∃ y, u = (upd (upd y 6 (.pointer (some ⟨p, 0, none⟩))) 10 (.slice (some ⟨g10, 0, none⟩) 1 1)) := ⟨u, by rw [← upd_self hu6, ← upd_self hg10]⟩
      clear hu6 hg10
      obtain ⟨y, rfl⟩ := hx
      simp only [upd, reduceIte, Nat.reduceEqDiff]
      go_simp
      refine (wText p A _ w3 _ 1 1 [(d.take n)] hch.wr (SlR.of_bk (n := 1) (size := 1) hb10 (AlS.not hch hB10 hn10) rfl) (by omega) (by have := N1.out; first | omega | (simp; omega))).mono ?_
      rintro e w4 ⟨rfl, hw4⟩
      obtain ⟨A', hch', hal⟩ := hch.call hw4
      exact hK2 _ _ v11.symm ⟨2, A', ⟨e0, rfl⟩, by omega, by rw [Q2.out]; exact hch', hal _ _ _ _ _ s5, hal _ _ _ _ _ s10, hal _ _ _ _ _ x0⟩ (fun _ _ _ h => h)
  · rintro u w3 hu L hall hG
    obtain ⟨c, A, ⟨e0, e1⟩, hcn, hch, s5, s10, x0⟩ := hG
    have hck : c = 2 := by
      have h1 := (hall 11 (by decide)).symm.trans e1
      simp at h1; omega
    subst hck
    have hfin : lst 2 = ((l0 ++ [oc, (UInt8.ofNat n)]) ++ List.flatten [(d.take n)]) := by rw [Q2.out, Q1.out, Q0.out]
    rw [hfin] at hch
    exact HK.out _ _ _ ⟨rfl, rfl⟩ (KpU.cons (rfl) (KpU.cons (rfl) (KpU.cons (rfl) (KpU.cons (rfl) (KpU.cons (rfl) (KpU.cons (h5.symm) (KpU.cons (rfl) (KpU.cons (h7.symm) (KpU.cons (h8.symm) (KpU.cons (h9.symm) (KpU.cons (rfl) (KpU.cons (rfl) (KpU.cons (rfl) (KpU.cons (rfl) (KpU.cons (rfl) (KpU.cons (rfl) (KpU.cons (rfl) (KpU.cons (rfl) (KpU.cons (rfl) (KpU.cons (rfl) (KpU.cons (rfl) (KpU.cons (rfl) (KpU.cons (rfl) (KpU.cons (rfl) (KpU.cons (rfl) (KpU.cons (rfl) (KpU.cons (rfl) (KpU.cons (rfl) (KpU.cons (rfl) (KpU.cons (rfl) (KpU.cons (rfl) (KpU.cons (rfl) (KpU.cons (rfl) (KpU.cons (rfl) (KpU.cons (rfl) (KpU.cons (rfl) (KpU.cons (rfl) (KpU.cons (rfl) (KpU.cons (rfl) (KpU.cons (rfl) (KpU.cons (rfl) (KpU.cons (rfl) (KpU.cons (rfl) (KpU.cons (rfl) (KpU.cons (rfl) (KpU.cons (rfl) (KpU.cons (rfl) (KpU.cons (rfl) (KpU.cons (rfl) (KpU.cons (rfl) (KpU.cons (rfl) (KpU.cons (rfl) (KpU.cons (rfl) (KpU.cons (rfl) (KpU.cons (rfl) (KpU.cons (rfl) (KpU.cons (rfl) (KpU.cons (rfl) (KpU.cons (rfl) (KpU.cons (rfl) (KpU.cons (rfl) (KpU.cons (rfl) (KpU.cons (rfl) (KpU.cons (rfl) (KpU.cons (rfl) (KpU.cons (rfl) (KpU.cons (rfl) (KpU.cons (rfl) (KpU.cons (rfl) (KpU.cons (rfl) (KpU.cons (rfl) (KpU.cons (rfl) (KpU.cons (rfl) (KpU.cons (rfl) (KpU.cons (rfl) (KpU.cons (rfl) (KpU.cons (rfl) (KpU.cons (rfl) (KpU.cons (rfl) (KpU.cons (rfl) (KpU.cons (rfl) (KpU.cons (rfl) (KpU.cons (rfl) (KpU.cons (rfl) (KpU.cons (rfl) (KpU.cons (rfl) (KpU.cons (rfl) (KpU.cons (rfl) (KpU.cons (rfl) (KpU.nil _ _))))))))))))))))))))))))))))))))))))))))))))))))))))))))))))))))))))))))))))))))))))))))))  hch x0
theorem dwR21  (w1 : World) (p B : Nat) (A0 : Option Addr) (l0 : List UInt8) (a : Act) (w : World) (K : Exit → Act → World → Prop) (hs : Sz 101 a)
    (h5 : sl a 5 = .pointer (some ⟨p, 0, none⟩)) 
     (hch0 : Chn w1 p B A0 l0 w) (N00 : l0.length ≤ 50000000)
    (hK : ∀ a' w' A', Sz 101 a' → Kp [0, 1, 2, 3, 4, 5, 6, 7, 8, 9, 11, 12, 13, 14, 15, 16, 17, 18, 19, 20, 21, 22, 23, 24, 25, 26, 27, 28, 29, 30, 31, 32, 33, 34, 35, 36, 37, 38, 39, 40, 41, 42, 43, 44, 45, 46, 47, 48, 49, 50, 51, 52, 53, 54, 55, 56, 57, 58, 59, 60, 61, 62, 63, 64, 65, 66, 67, 68, 69, 70, 71, 72, 73, 74, 75, 76, 77, 78, 79, 80, 81, 82, 83, 84, 85, 86, 87, 88, 89, 90, 91, 97, 98, 99, 100] a a' → sl a' 10 = .string (bs ((l0 ++ [255]) ++ List.replicate (300 - List.length (α := UInt8) (l0 ++ [255])) (0 : UInt8))) → Chn w1 p B A' ((l0 ++ [255]) ++ List.replicate (300 - List.length (α := UInt8) (l0 ++ [255])) (0 : UInt8)) w' → K .normal a' w') :
    (regionOf Tryz.f161 21).wp Tryz.prog K a w := by
  have hK2 : ∀ a' w' A', Sz 101 a' → KpU [0, 1, 2, 3, 4, 5, 6, 7, 8, 9, 11, 12, 13, 14, 15, 16, 17, 18, 19, 20, 21, 22, 23, 24, 25, 26, 27, 28, 29, 30, 31, 32, 33, 34, 35, 36, 37, 38, 39, 40, 41, 42, 43, 44, 45, 46, 47, 48, 49, 50, 51, 52, 53, 54, 55, 56, 57, 58, 59, 60, 61, 62, 63, 64, 65, 66, 67, 68, 69, 70, 71, 72, 73, 74, 75, 76, 77, 78, 79, 80, 81, 82, 83, 84, 85, 86, 87, 88, 89, 90, 91, 97, 98, 99, 100] (sl a) a' → sl a' 10 = .string (bs ((l0 ++ [255]) ++ List.replicate (300 - List.length (α := UInt8) (l0 ++ [255])) (0 : UInt8))) → Chn w1 p B A' ((l0 ++ [255]) ++ List.replicate (300 - List.length (α := UInt8) (l0 ++ [255])) (0 : UInt8)) w' → K .normal a' w' := hK
  clear hK
  rw [dwF_of hs]
  clear hs
  generalize sl a = z at *
  clear a
  have HK := Lib.hid hK2
  clear hK2
  conv => arg 2; whnf
  simp only [dwF, h5]
  obtain ⟨lst, Q0, Q1, Q2⟩ : ∃ lst : Nat → List UInt8, Hid (lst 0 = l0) ∧ Hid (lst 1 = lst 0 ++ [255]) ∧ Hid (lst 2 = lst 1 ++ List.replicate (300 - List.length (α := UInt8) (lst 1)) (0 : UInt8)) := by
    exact ⟨fun k => match k with | 0 => l0 | 1 => (l0 ++ [255]) | _ => ((l0 ++ [255]) ++ List.replicate (300 - List.length (α := UInt8) (l0 ++ [255])) (0 : UInt8)), rfl, rfl, rfl⟩
  have N0 : Hid ((lst 0).length ≤ 50000000) := by unfold Hid; rw [Q0.out]; exact N00
  have N1 : Hid ((lst 1).length ≤ 50000000 + (1)) := by have h0 := N0.out; have h1 : (([255] : List UInt8)).length ≤ 1 := (by simp [bigs_length, macB, big_length] <;> omega); unfold Hid; rw [Q1.out, List.length_append]; omega
  have N2 : Hid ((lst 2).length ≤ 50000000 + (1) + (300)) := by have h0 := N1.out; have h1 : ((List.replicate (300 - List.length (α := UInt8) (lst 1)) (0 : UInt8) : List UInt8)).length ≤ 300 := (by simp [bigs_length, macB, big_length] <;> omega); unfold Hid; rw [Q2.out, List.length_append]; omega
  obtain ⟨V, hV⟩ : ∃ V : Nat → Value, V = (fun j => match j with | 0 => .pointer (some ⟨p, 0, none⟩) | 2 => .pointer (some ⟨p, 0, none⟩) | 3 => .pointer (some ⟨p, 0, none⟩) | 4 => .string (bs (lst 2)) | 5 => .string (bs (lst 2)) | _ => undef) := ⟨_, rfl⟩
  have v0 : V 0 = .pointer (some ⟨p, 0, none⟩) := congrFun hV 0
  have v2 : V 2 = .pointer (some ⟨p, 0, none⟩) := congrFun hV 2
  have v3 : V 3 = .pointer (some ⟨p, 0, none⟩) := congrFun hV 3
  have v4 : V 4 = .string (bs (lst 2)) := congrFun hV 4
  have v5 : V 5 = .string (bs (lst 2)) := congrFun hV 5
  clear hV
  refine wp_region_ssau_plain (by kernel_rfl) (by kernel_rfl) (by kernel_rfl)
    (fun u => ⟨List.toArray ((z 0) :: (z 1) :: (z 2) :: (z 3) :: (z 4) :: (.pointer (some ⟨p, 0, none⟩)) :: (z 6) :: (z 7) :: (z 8) :: (z 9) :: (u 5) :: (z 11) :: (z 12) :: (z 13) :: (z 14) :: (z 15) :: (z 16) :: (z 17) :: (z 18) :: (z 19) :: (z 20) :: (z 21) :: (z 22) :: (z 23) :: (z 24) :: (z 25) :: (z 26) :: (z 27) :: (z 28) :: (z 29) :: (z 30) :: (z 31) :: (z 32) :: (z 33) :: (z 34) :: (z 35) :: (z 36) :: (z 37) :: (z 38) :: (z 39) :: (z 40) :: (z 41) :: (z 42) :: (z 43) :: (z 44) :: (z 45) :: (z 46) :: (z 47) :: (z 48) :: (z 49) :: (z 50) :: (z 51) :: (z 52) :: (z 53) :: (z 54) :: (z 55) :: (z 56) :: (z 57) :: (z 58) :: (z 59) :: (z 60) :: (z 61) :: (z 62) :: (z 63) :: (z 64) :: (z 65) :: (z 66) :: (z 67) :: (z 68) :: (z 69) :: (z 70) :: (z 71) :: (z 72) :: (z 73) :: (z 74) :: (z 75) :: (z 76) :: (z 77) :: (z 78) :: (z 79) :: (z 80) :: (z 81) :: (z 82) :: (z 83) :: (z 84) :: (z 85) :: (z 86) :: (z 87) :: (z 88) :: (z 89) :: (z 90) :: (z 91) :: (u 0) :: (u 1) :: (u 2) :: (u 3) :: (u 4) :: (z 97) :: (z 98) :: (z 99) :: (z 100) :: []), []⟩)
    (fun j v w3 => if j = 1 then True else v = V j)
    (fun L u w3 => ∃ (c : Nat) (A : Option Addr), (L 2 = decide (0 < c) ∧ L 3 = decide (1 < c)) ∧ c ≤ 2 ∧ Chn w1 p B A (lst c) w3 ∧ AlS (L 1) (u 1) 1 5 #[.int .u8 255] B A w3) (fun j => if j = 0 then z 92 else if j = 1 then z 93 else if j = 2 then z 94 else if j = 3 then z 95 else if j = 4 then z 96 else if j = 5 then z 10 else undef) ⟨0, A0, ⟨rfl, rfl⟩, by omega, by rw [Q0.out]; exact hch0, AlS.false⟩ ?_ ?_
  · rintro L u w3 i o hG hΦ ho hL hd K2 hK2
    match i, ho with
    | 0, ho =>
      simp at ho; subst ho
      clear hΦ hd
      go_simp
      exact hK2 _ _ v0.symm hG (fun _ _ _ h => h)
    | 1, ho =>
      simp at ho; subst ho
      clear hΦ hd
      obtain ⟨c, A, ⟨e0, e1⟩, hcn, hch, s1⟩ := hG
      go_simp
      exact hK2 _ _ trivial ⟨c, A, ⟨e0, e1⟩, hcn, hch.alloc _, AlS.new hch 1 5 #[.int .u8 255]⟩ (fun _ _ _ h => h)
    | 2, ho =>
      simp at ho; subst ho
      have hu0 : u 0 = V 0 := hΦ 0 (hd ⟨0, .data⟩ (by simp) (by rfl))
      rw [v0] at hu0
      have hl1 : L 1 = true := hd ⟨1, .data⟩ (by simp) (by rfl)
      clear hΦ hd
      obtain ⟨c, A, ⟨e0, e1⟩, hcn, hch, s1⟩ := hG
      have hck : c = 0 := by
        have h1 := hL.symm.trans e0
        simp at h1; omega
      subst hck
      obtain ⟨g1, hg1, hb1, hB1, hn1⟩ := s1 hl1
      have hx : ∃ y, u = (upd (upd y 0 (.pointer (some ⟨p, 0, none⟩))) 1 (.slice (some ⟨g1, 0, none⟩) 1 1)) := ⟨u, by rw [← upd_self hu0, ← upd_self hg1]⟩
      clear hu0 hg1
      obtain ⟨y, rfl⟩ := hx
      simp only [upd, reduceIte, Nat.reduceEqDiff]
      go_simp
      refine (wU8 p A _ w3 _ 1 1 [255] (wrS p A) hch.wr (SlR.of_bk (n := 1) (size := 1) hb1 (AlS.not hch hB1 hn1) rfl) (by have := N0.out; first | omega | (simp; omega))).mono ?_
      rintro e w4 ⟨rfl, hw4⟩
      obtain ⟨A', hch', hal⟩ := hch.call hw4
      exact hK2 _ _ v2.symm ⟨1, A', ⟨rfl, e1⟩, by omega, by rw [Q1.out]; exact hch', hal _ _ _ _ _ s1⟩ (fun _ _ _ h => h)
    | 3, ho =>
      simp at ho; subst ho
      have hu2 : u 2 = V 2 := hΦ 2 (hd ⟨2, .data⟩ (by simp) (by rfl))
      rw [v2] at hu2
      have hlc : L 2 = true := hd ⟨2, .chain⟩ (by simp) (by rfl)
      clear hΦ hd
      obtain ⟨c, A, ⟨e0, e1⟩, hcn, hch, s1⟩ := hG
      have hck : c = 1 := by
        have h1 := hL.symm.trans e1
        have h2 := hlc.symm.trans e0
        simp at h1 h2; omega
      subst hck
      have hx : ∃ y, u = (upd y 2 (.pointer (some ⟨p, 0, none⟩))) := ⟨u, by rw [← upd_self hu2]⟩
      clear hu2
      obtain ⟨y, rfl⟩ := hx
      simp only [upd, reduceIte, Nat.reduceEqDiff]
      go_simp
      refine (wZero p A _ w3 300 hch.wr (by omega) (by have := N1.out; first | omega | (simp; omega))).mono ?_
      rintro e w4 ⟨rfl, hw4⟩
      obtain ⟨A', hch', hal⟩ := hch.call hw4
      exact hK2 _ _ v3.symm ⟨2, A', ⟨e0, rfl⟩, by omega, by rw [Q2.out]; exact hch', hal _ _ _ _ _ s1⟩ (fun _ _ _ h => h)
    | 4, ho =>
      simp at ho; subst ho
      have hu3 : u 3 = V 3 := hΦ 3 (hd ⟨3, .data⟩ (by simp) (by rfl))
      rw [v3] at hu3
      have hlc : L 3 = true := hd ⟨3, .chain⟩ (by simp) (by rfl)
      clear hΦ hd
      obtain ⟨c, A, ⟨e0, e1⟩, hcn, hch, s1⟩ := hG
      have hck : c = 2 := by
        have h2 := hlc.symm.trans e1
        simp at h2; omega
      subst hck
      have hx : ∃ y, u = (upd y 3 (.pointer (some ⟨p, 0, none⟩))) := ⟨u, by rw [← upd_self hu3]⟩
      clear hu3
      obtain ⟨y, rfl⟩ := hx
      simp only [upd, reduceIte, Nat.reduceEqDiff]
      go_simp
      refine (wString p _ _ _ hch.wr).mono ?_
      rintro e w4 ⟨rfl, rfl⟩
      exact hK2 _ _ v4.symm ⟨2, A, ⟨e0, e1⟩, hcn, hch, s1⟩ (fun _ _ _ h => h)
    | 5, ho =>
      simp at ho; subst ho
      have hu4 : u 4 = V 4 := hΦ 4 (hd ⟨4, .data⟩ (by simp) (by rfl))
      rw [v4] at hu4
      clear hΦ hd
      have hx : ∃ y, u = (upd y 4 (.string (bs (lst 2)))) := ⟨u, by rw [← upd_self hu4]⟩
      clear hu4
      obtain ⟨y, rfl⟩ := hx
      simp only [upd, reduceIte, Nat.reduceEqDiff]
      go_simp
      exact hK2 _ _ v5.symm hG (fun _ _ _ h => h)
  · rintro u w3 hu L hall hG
    obtain ⟨c, A, ⟨e0, e1⟩, hcn, hch, s1⟩ := hG
    have hck : c = 2 := by
      have h1 := (hall 3 (by decide)).symm.trans e1
      simp at h1; omega
    subst hck
    have hfin : lst 2 = ((l0 ++ [255]) ++ List.replicate (300 - List.length (α := UInt8) (l0 ++ [255])) (0 : UInt8)) := by rw [Q2.out, Q1.out, Q0.out]
    rw [hfin] at hch
    have ho10 : u 5 = V 5 := hu 5 (by decide)
    rw [v5, hfin] at ho10
    exact HK.out _ _ _ ⟨rfl, rfl⟩ (KpU.cons (rfl) (KpU.cons (rfl) (KpU.cons (rfl) (KpU.cons (rfl) (KpU.cons (rfl) (KpU.cons (h5.symm) (KpU.cons (rfl) (KpU.cons (rfl) (KpU.cons (rfl) (KpU.cons (rfl) (KpU.cons (rfl) (KpU.cons (rfl) (KpU.cons (rfl) (KpU.cons (rfl) (KpU.cons (rfl) (KpU.cons (rfl) (KpU.cons (rfl) (KpU.cons (rfl) (KpU.cons (rfl) (KpU.cons (rfl) (KpU.cons (rfl) (KpU.cons (rfl) (KpU.cons (rfl) (KpU.cons (rfl) (KpU.cons (rfl) (KpU.cons (rfl) (KpU.cons (rfl) (KpU.cons (rfl) (KpU.cons (rfl) (KpU.cons (rfl) (KpU.cons (rfl) (KpU.cons (rfl) (KpU.cons (rfl) (KpU.cons (rfl) (KpU.cons (rfl) (KpU.cons (rfl) (KpU.cons (rfl) (KpU.cons (rfl) (KpU.cons (rfl) (KpU.cons (rfl) (KpU.cons (rfl) (KpU.cons (rfl) (KpU.cons (rfl) (KpU.cons (rfl) (KpU.cons (rfl) (KpU.cons (rfl) (KpU.cons (rfl) (KpU.cons (rfl) (KpU.cons (rfl) (KpU.cons (rfl) (KpU.cons (rfl) (KpU.cons (rfl) (KpU.cons (rfl) (KpU.cons (rfl) (KpU.cons (rfl) (KpU.cons (rfl) (KpU.cons (rfl) (KpU.cons (rfl) (KpU.cons (rfl) (KpU.cons (rfl) (KpU.cons (rfl) (KpU.cons (rfl) (KpU.cons (rfl) (KpU.cons (rfl) (KpU.cons (rfl) (KpU.cons (rfl) (KpU.cons (rfl) (KpU.cons (rfl) (KpU.cons (rfl) (KpU.cons (rfl) (KpU.cons (rfl) (KpU.cons (rfl) (KpU.cons (rfl) (KpU.cons (rfl) (KpU.cons (rfl) (KpU.cons (rfl) (KpU.cons (rfl) (KpU.cons (rfl) (KpU.cons (rfl) (KpU.cons (rfl) (KpU.cons (rfl) (KpU.cons (rfl) (KpU.cons (rfl) (KpU.cons (rfl) (KpU.cons (rfl) (KpU.cons (rfl) (KpU.cons (rfl) (KpU.cons (rfl) (KpU.cons (rfl) (KpU.cons (rfl) (KpU.cons (rfl) (KpU.cons (rfl) (KpU.cons (rfl) (KpU.cons (rfl) (KpU.cons (rfl) (KpU.nil _ _)))))))))))))))))))))))))))))))))))))))))))))))))))))))))))))))))))))))))))))))))))))))))))))))) ho10 hch 
end Go.Proofs.YtcbkaiakdhiloacGreatDoor
