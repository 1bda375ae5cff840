/- Parts of the walk; written by programs, merged. -/
import Derived.Test.YtcbkaiakdhiloabGreatDoorMaf
import Derived.Test.YtcbkaiakdhiloabGreatDoorMao
import Derived.Test.YtcbkaiakdhiloabGreatDoorProg
import Derived.WalkKit
import Derived.WalkLawsBesides
import Derived.WalkSpells
import Derived.Deep.AppendLies
import Derived.Deep.DrawnRows
import Derived.Maps.AppendAt
import Derived.StillTailTactics
import Derived.Lib.Hide
import Derived.Lib.AppendStr
import Derived.Lib.Strings
import Derived.Laws.MakeOwn
import Derived.Laws.OwnMore
import Derived.Laws.BitsAllLaws
import Derived.Orders
import Derived.Deep.MidRow
import Derived.Deep.DeepMust
import Derived.Deep.RegionHeld3
import Derived.Deep.RegionLaw
import Derived.Deep.LoopGhost
import Derived.Lib.ConvBytes
import Derived.Lib.LazyBuf
import Derived.Deep.Cut
import Derived.Deep.CutRange
set_option linter.unusedSimpArgs false
set_option linter.unusedVariables false
set_option maxRecDepth 20000
set_option maxHeartbeats 8000000
namespace Go.Proofs.YtcbkaiakdhiloabGreatDoor
open Go.RowKit Go.Proofs
attribute [local go_sem] bs_size bs_append bs_extract bs_toList
def rdF (u : Nat → Value) : Act := ⟨#[u 0, u 1, u 2, u 3, u 4, u 5, u 6, u 7, u 8, u 9, u 10, u 11, u 12, u 13, u 14, u 15, u 16, u 17, u 18, u 19, u 20, u 21, u 22, u 23, u 24, u 25, u 26, u 27, u 28, u 29, u 30, u 31, u 32, u 33, u 34, u 35, u 36, u 37, u 38, u 39, u 40, u 41, u 42, u 43, u 44, u 45, u 46, u 47, u 48, u 49, u 50, u 51, u 52, u 53, u 54, u 55, u 56, u 57, u 58, u 59, u 60, u 61, u 62, u 63, u 64, u 65, u 66, u 67, u 68, u 69, u 70, u 71, u 72, u 73, u 74, u 75, u 76, u 77, u 78, u 79, u 80, u 81, u 82, u 83, u 84, u 85, u 86, u 87, u 88, u 89, u 90, u 91, u 92, u 93, u 94, u 95, u 96, u 97, u 98, u 99], []⟩
set_option maxRecDepth 100000 in
theorem rdF_eq (u : Nat → Value) : rdF u = frN 100 u := rfl
theorem rdF_of {a : Act} (h : Sz 100 a) : a = rdF (sl a) := h.eq.trans (rdF_eq _).symm
theorem rdR8 (pa : Nat) (rp : Bool) (xid client yours next n cap : Nat) (Ao : Option Addr) (m0 m1 m2 m3 m4 m5 : UInt8) (l0 : List UInt8) (a : Act) (w : World) (K : Exit → Act → World → Prop) (hs : Sz 100 a)
    (h1 : sl a 1 = .pointer (some ⟨pa, 0, none⟩)) (h4 : sl a 4 = .string (bs l0)) (hpa : Bk w pa 75 #[.bool rp, .int .u32 (xid : Int), .int .u32 (client : Int), .int .u32 (yours : Int), .int .u32 (next : Int), .int .u8 (m0.toNat : Int), .int .u8 (m1.toNat : Int), .int .u8 (m2.toNat : Int), .int .u8 (m3.toNat : Int), .int .u8 (m4.toNat : Int), .int .u8 (m5.toNat : Int), .slice Ao n cap]) (hcl : client < 4294967296) (hyo : yours < 4294967296) (hnx : next < 4294967296) (Ll0 : Hid (l0.length ≤ 1000))
    (hK : ∀ a' w', Sz 100 a' → Kp [0, 1, 2, 3, 5, 6, 7, 8, 9, 10, 11, 12, 13, 14, 15, 16, 17, 18, 19, 20, 21, 22, 23, 45, 46, 47, 48, 49, 50, 51, 52, 53, 54, 55, 56, 57, 58, 59, 60, 61, 62, 63, 64, 65, 66, 67, 68, 69, 70, 71, 72, 73, 74, 75, 76, 77, 78, 79, 80, 81, 82, 83, 84, 85, 86, 87, 88, 89, 90, 91, 92, 93, 94, 95, 96, 97, 98, 99] a a' → sl a' 4 = .string (bs (((((((l0 ++ big 4 client) ++ big 4 yours) ++ big 4 next) ++ big 4 0) ++ macB (m0, m1, m2, m3, m4, m5))) ++ List.replicate (236 - List.length (α := UInt8) ((((((l0 ++ big 4 client) ++ big 4 yours) ++ big 4 next) ++ big 4 0) ++ macB (m0, m1, m2, m3, m4, m5)))) (0 : UInt8) ++ [99, 130, 83, 99])) → Fr noB w w' → K .normal a' w') :
    (regionOf Tryz.f217 8).wp Tryz.prog K a w := by
  have hK2 : ∀ a' w', Sz 100 a' → KpU [0, 1, 2, 3, 5, 6, 7, 8, 9, 10, 11, 12, 13, 14, 15, 16, 17, 18, 19, 20, 21, 22, 23, 45, 46, 47, 48, 49, 50, 51, 52, 53, 54, 55, 56, 57, 58, 59, 60, 61, 62, 63, 64, 65, 66, 67, 68, 69, 70, 71, 72, 73, 74, 75, 76, 77, 78, 79, 80, 81, 82, 83, 84, 85, 86, 87, 88, 89, 90, 91, 92, 93, 94, 95, 96, 97, 98, 99] (sl a) a' → sl a' 4 = .string (bs (((((((l0 ++ big 4 client) ++ big 4 yours) ++ big 4 next) ++ big 4 0) ++ macB (m0, m1, m2, m3, m4, m5))) ++ List.replicate (236 - List.length (α := UInt8) ((((((l0 ++ big 4 client) ++ big 4 yours) ++ big 4 next) ++ big 4 0) ++ macB (m0, m1, m2, m3, m4, m5)))) (0 : UInt8) ++ [99, 130, 83, 99])) → Fr noB w w' → K .normal a' w' := hK
  clear hK
  rw [rdF_of hs]
  clear hs
  generalize sl a = z at *
  clear a
  have HK := Lib.hid hK2
  clear hK2
  conv => arg 2; whnf
  simp only [rdF, h1, h4]
  clear h4
  obtain ⟨t1, Ht1⟩ : ∃ s : List UInt8, Hid (s = big 4 client) := ⟨big 4 client, Lib.hid rfl⟩
  obtain ⟨s1, Hs1⟩ : ∃ s : List UInt8, Hid (s = l0 ++ t1) := ⟨l0 ++ t1, Lib.hid rfl⟩
  obtain ⟨t2, Ht2⟩ : ∃ s : List UInt8, Hid (s = big 4 yours) := ⟨big 4 yours, Lib.hid rfl⟩
  obtain ⟨s2, Hs2⟩ : ∃ s : List UInt8, Hid (s = s1 ++ t2) := ⟨s1 ++ t2, Lib.hid rfl⟩
  obtain ⟨t3, Ht3⟩ : ∃ s : List UInt8, Hid (s = big 4 next) := ⟨big 4 next, Lib.hid rfl⟩
  obtain ⟨s3, Hs3⟩ : ∃ s : List UInt8, Hid (s = s2 ++ t3) := ⟨s2 ++ t3, Lib.hid rfl⟩
  obtain ⟨t4, Ht4⟩ : ∃ s : List UInt8, Hid (s = big 4 0) := ⟨big 4 0, Lib.hid rfl⟩
  obtain ⟨s4, Hs4⟩ : ∃ s : List UInt8, Hid (s = s3 ++ t4) := ⟨s3 ++ t4, Lib.hid rfl⟩
  obtain ⟨t5, Ht5⟩ : ∃ s : List UInt8, Hid (s = macB (m0, m1, m2, m3, m4, m5)) := ⟨macB (m0, m1, m2, m3, m4, m5), Lib.hid rfl⟩
  obtain ⟨s5, Hs5⟩ : ∃ s : List UInt8, Hid (s = s4 ++ t5) := ⟨s4 ++ t5, Lib.hid rfl⟩
  obtain ⟨s6, Hs6⟩ : ∃ s : List UInt8, Hid (s = s5 ++ List.replicate (236 - List.length (α := UInt8) s5) (0 : UInt8)) := ⟨s5 ++ List.replicate (236 - List.length (α := UInt8) s5) (0 : UInt8), Lib.hid rfl⟩
  obtain ⟨s7, Hs7⟩ : ∃ s : List UInt8, Hid (s = s6 ++ [99, 130, 83, 99]) := ⟨s6 ++ [99, 130, 83, 99], Lib.hid rfl⟩
  have Lt1 : Hid (t1.length ≤ 4) := by have l_l0 := Ll0.out; unfold Hid; rw [Ht1.out]; (simp [big_length, macB, bigs_length] <;> omega)
  have Ls1 : Hid (s1.length ≤ 1004) := by have l_l0 := Ll0.out; have l_t1 := Lt1.out; unfold Hid; rw [Hs1.out]; (simp [big_length, macB, bigs_length] <;> omega)
  have Lt2 : Hid (t2.length ≤ 4) := by have l_l0 := Ll0.out; have l_t1 := Lt1.out; have l_s1 := Ls1.out; unfold Hid; rw [Ht2.out]; (simp [big_length, macB, bigs_length] <;> omega)
  have Ls2 : Hid (s2.length ≤ 1008) := by have l_l0 := Ll0.out; have l_t1 := Lt1.out; have l_s1 := Ls1.out; have l_t2 := Lt2.out; unfold Hid; rw [Hs2.out]; (simp [big_length, macB, bigs_length] <;> omega)
  have Lt3 : Hid (t3.length ≤ 4) := by have l_l0 := Ll0.out; have l_t1 := Lt1.out; have l_s1 := Ls1.out; have l_t2 := Lt2.out; have l_s2 := Ls2.out; unfold Hid; rw [Ht3.out]; (simp [big_length, macB, bigs_length] <;> omega)
  have Ls3 : Hid (s3.length ≤ 1012) := by have l_l0 := Ll0.out; have l_t1 := Lt1.out; have l_s1 := Ls1.out; have l_t2 := Lt2.out; have l_s2 := Ls2.out; have l_t3 := Lt3.out; unfold Hid; rw [Hs3.out]; (simp [big_length, macB, bigs_length] <;> omega)
  have Lt4 : Hid (t4.length ≤ 4) := by have l_l0 := Ll0.out; have l_t1 := Lt1.out; have l_s1 := Ls1.out; have l_t2 := Lt2.out; have l_s2 := Ls2.out; have l_t3 := Lt3.out; have l_s3 := Ls3.out; unfold Hid; rw [Ht4.out]; (simp [big_length, macB, bigs_length] <;> omega)
  have Ls4 : Hid (s4.length ≤ 1016) := by have l_l0 := Ll0.out; have l_t1 := Lt1.out; have l_s1 := Ls1.out; have l_t2 := Lt2.out; have l_s2 := Ls2.out; have l_t3 := Lt3.out; have l_s3 := Ls3.out; have l_t4 := Lt4.out; unfold Hid; rw [Hs4.out]; (simp [big_length, macB, bigs_length] <;> omega)
  have Lt5 : Hid (t5.length ≤ 6) := by have l_l0 := Ll0.out; have l_t1 := Lt1.out; have l_s1 := Ls1.out; have l_t2 := Lt2.out; have l_s2 := Ls2.out; have l_t3 := Lt3.out; have l_s3 := Ls3.out; have l_t4 := Lt4.out; have l_s4 := Ls4.out; unfold Hid; rw [Ht5.out]; (simp [big_length, macB, bigs_length] <;> omega)
  have Ls5 : Hid (s5.length ≤ 1022) := by have l_l0 := Ll0.out; have l_t1 := Lt1.out; have l_s1 := Ls1.out; have l_t2 := Lt2.out; have l_s2 := Ls2.out; have l_t3 := Lt3.out; have l_s3 := Ls3.out; have l_t4 := Lt4.out; have l_s4 := Ls4.out; have l_t5 := Lt5.out; unfold Hid; rw [Hs5.out]; (simp [big_length, macB, bigs_length] <;> omega)
  have Ls6 : Hid (s6.length ≤ 1300) := by have l_l0 := Ll0.out; have l_t1 := Lt1.out; have l_s1 := Ls1.out; have l_t2 := Lt2.out; have l_s2 := Ls2.out; have l_t3 := Lt3.out; have l_s3 := Ls3.out; have l_t4 := Lt4.out; have l_s4 := Ls4.out; have l_t5 := Lt5.out; have l_s5 := Ls5.out; unfold Hid; rw [Hs6.out]; (simp [big_length, macB, bigs_length] <;> omega)
  have Ls7 : Hid (s7.length ≤ 1304) := by have l_l0 := Ll0.out; have l_t1 := Lt1.out; have l_s1 := Ls1.out; have l_t2 := Lt2.out; have l_s2 := Ls2.out; have l_t3 := Lt3.out; have l_s3 := Ls3.out; have l_t4 := Lt4.out; have l_s4 := Ls4.out; have l_t5 := Lt5.out; have l_s5 := Ls5.out; have l_s6 := Ls6.out; unfold Hid; rw [Hs7.out]; (simp [big_length, macB, bigs_length] <;> omega)
  obtain ⟨V, hV⟩ : ∃ V : Nat → Value, V = (fun j => match j with | 0 => .string (bs l0) | 1 => .pointer (some ⟨pa, 2, none⟩) | 2 => .int .u32 (client : Int) | 3 => .string (bs t1) | 4 => .string (bs s1) | 5 => .pointer (some ⟨pa, 3, none⟩) | 6 => .int .u32 (yours : Int) | 7 => .string (bs t2) | 8 => .string (bs s2) | 9 => .pointer (some ⟨pa, 4, none⟩) | 10 => .int .u32 (next : Int) | 11 => .string (bs t3) | 12 => .string (bs s3) | 13 => .string (bs t4) | 14 => .string (bs s4) | 15 => .pointer (some ⟨pa, 5, none⟩) | 16 => .agg #[.int .u8 (m0.toNat : Int), .int .u8 (m1.toNat : Int), .int .u8 (m2.toNat : Int), .int .u8 (m3.toNat : Int), .int .u8 (m4.toNat : Int), .int .u8 (m5.toNat : Int)] | 17 => .string (bs t5) | 18 => .string (bs s5) | 19 => .string (bs s6) | 20 => .string (bs s7) | 21 => .string (bs s7) | _ => undef) := ⟨_, rfl⟩
  have v0 : V 0 = .string (bs l0) := congrFun hV 0
  have v1 : V 1 = .pointer (some ⟨pa, 2, none⟩) := congrFun hV 1
  have v2 : V 2 = .int .u32 (client : Int) := congrFun hV 2
  have v3 : V 3 = .string (bs t1) := congrFun hV 3
  have v4 : V 4 = .string (bs s1) := congrFun hV 4
  have v5 : V 5 = .pointer (some ⟨pa, 3, none⟩) := congrFun hV 5
  have v6 : V 6 = .int .u32 (yours : Int) := congrFun hV 6
  have v7 : V 7 = .string (bs t2) := congrFun hV 7
  have v8 : V 8 = .string (bs s2) := congrFun hV 8
  have v9 : V 9 = .pointer (some ⟨pa, 4, none⟩) := congrFun hV 9
  have v10 : V 10 = .int .u32 (next : Int) := congrFun hV 10
  have v11 : V 11 = .string (bs t3) := congrFun hV 11
  have v12 : V 12 = .string (bs s3) := congrFun hV 12
  have v13 : V 13 = .string (bs t4) := congrFun hV 13
  have v14 : V 14 = .string (bs s4) := congrFun hV 14
  have v15 : V 15 = .pointer (some ⟨pa, 5, none⟩) := congrFun hV 15
  have v16 : V 16 = .agg #[.int .u8 (m0.toNat : Int), .int .u8 (m1.toNat : Int), .int .u8 (m2.toNat : Int), .int .u8 (m3.toNat : Int), .int .u8 (m4.toNat : Int), .int .u8 (m5.toNat : Int)] := congrFun hV 16
  have v17 : V 17 = .string (bs t5) := congrFun hV 17
  have v18 : V 18 = .string (bs s5) := congrFun hV 18
  have v19 : V 19 = .string (bs s6) := congrFun hV 19
  have v20 : V 20 = .string (bs s7) := congrFun hV 20
  have v21 : V 21 = .string (bs s7) := congrFun hV 21
  clear hV
  refine wp_region_ssac (by kernel_rfl) (by kernel_rfl) (by kernel_rfl)
    (fun u => ⟨List.toArray ((z 0) :: (.pointer (some ⟨pa, 0, none⟩)) :: (z 2) :: (z 3) :: (u 21) :: (z 5) :: (z 6) :: (z 7) :: (z 8) :: (z 9) :: (z 10) :: (z 11) :: (z 12) :: (z 13) :: (z 14) :: (z 15) :: (z 16) :: (z 17) :: (z 18) :: (z 19) :: (z 20) :: (z 21) :: (z 22) :: (z 23) :: (u 0) :: (u 1) :: (u 2) :: (u 3) :: (u 4) :: (u 5) :: (u 6) :: (u 7) :: (u 8) :: (u 9) :: (u 10) :: (u 11) :: (u 12) :: (u 13) :: (u 14) :: (u 15) :: (u 16) :: (u 17) :: (u 18) :: (u 19) :: (u 20) :: (z 45) :: (z 46) :: (z 47) :: (z 48) :: (z 49) :: (z 50) :: (z 51) :: (z 52) :: (z 53) :: (z 54) :: (z 55) :: (z 56) :: (z 57) :: (z 58) :: (z 59) :: (z 60) :: (z 61) :: (z 62) :: (z 63) :: (z 64) :: (z 65) :: (z 66) :: (z 67) :: (z 68) :: (z 69) :: (z 70) :: (z 71) :: (z 72) :: (z 73) :: (z 74) :: (z 75) :: (z 76) :: (z 77) :: (z 78) :: (z 79) :: (z 80) :: (z 81) :: (z 82) :: (z 83) :: (z 84) :: (z 85) :: (z 86) :: (z 87) :: (z 88) :: (z 89) :: (z 90) :: (z 91) :: (z 92) :: (z 93) :: (z 94) :: (z 95) :: (z 96) :: (z 97) :: (z 98) :: (z 99) :: []), []⟩)
    (fun j v w3 => v = V j)
    (fun L u w3 => (L 21 = false → u 21 = .string (bs l0)) ∧ Fr noB w w3) (fun j => if j = 0 then z 24 else if j = 1 then z 25 else if j = 2 then z 26 else if j = 3 then z 27 else if j = 4 then z 28 else if j = 5 then z 29 else if j = 6 then z 30 else if j = 7 then z 31 else if j = 8 then z 32 else if j = 9 then z 33 else if j = 10 then z 34 else if j = 11 then z 35 else if j = 12 then z 36 else if j = 13 then z 37 else if j = 14 then z 38 else if j = 15 then z 39 else if j = 16 then z 40 else if j = 17 then z 41 else if j = 18 then z 42 else if j = 19 then z 43 else if j = 20 then z 44 else if j = 21 then .string (bs l0) else undef) ⟨fun _ => rfl, (Fr.refl _ _).drew⟩ ?_ ?_
  · rintro L u w3 i o hcl hG hΦ ho hL hd K2 hK2
    match i, ho with
    | 0, ho =>
      simp at ho; subst ho
      clear hΦ hd
      obtain ⟨hI21, hG0⟩ := hG
      have hnl21 : L 21 = false := by cases h : L 21 with | false => rfl | true => exact (by have h2 := (hcl.dep 4 0 (hcl.dep 8 4 (hcl.dep 12 8 (hcl.dep 14 12 (hcl.dep 18 14 (hcl.dep 19 18 (hcl.dep 21 19 h (by rfl)) (by rfl)) (by rfl)) (by rfl)) (by rfl)) (by rfl)) (by rfl)); rw [hL] at h2; cases h2)
      have hr21 := hI21 hnl21
      have hx : ∃ y, u = (upd y 21 (.string (bs l0))) := ⟨u, by rw [← upd_self hr21]⟩
      clear hr21
      obtain ⟨y, rfl⟩ := hx
      simp only [upd, reduceIte, Nat.reduceEqDiff]
      go_simp
      exact hK2 _ _ v0.symm ⟨hI21, hG0⟩ (fun _ _ _ h => h)
    | 1, ho =>
      simp at ho; subst ho
      clear hΦ hd
      obtain ⟨hI21, hG0⟩ := hG
      go_simp
      exact hK2 _ _ v1.symm ⟨hI21, hG0⟩ (fun _ _ _ h => h)
    | 2, ho =>
      simp at ho; subst ho
      have hu1 : u 1 = V 1 := hΦ 1 (hd ⟨1, .data⟩ (by simp) (by rfl))
      rw [v1] at hu1
      clear hΦ hd
      obtain ⟨hI21, hG0⟩ := hG
      have hx : ∃ y, u = (upd y 1 (.pointer (some ⟨pa, 2, none⟩))) := ⟨u, by rw [← upd_self hu1]⟩
      clear hu1
      obtain ⟨y, rfl⟩ := hx
      simp only [upd, reduceIte, Nat.reduceEqDiff]
      have hc0 := ((hpa).keep hG0 (fun x => x)).cells
      go_simp
      exact hK2 _ _ v2.symm ⟨hI21, hG0⟩ (fun _ _ _ h => h)
    | 3, ho =>
      simp at ho; subst ho
      have hu2 : u 2 = V 2 := hΦ 2 (hd ⟨2, .data⟩ (by simp) (by rfl))
      rw [v2] at hu2
      clear hΦ hd
      obtain ⟨hI21, hG0⟩ := hG
      have hx : ∃ y, u = (upd y 2 (.int .u32 (client : Int))) := ⟨u, by rw [← upd_self hu2]⟩
      clear hu2
      obtain ⟨y, rfl⟩ := hx
      simp only [upd, reduceIte, Nat.reduceEqDiff]
      go_simp
      refine (refIp client _ (by omega)).mono ?_
      rintro e w4 ⟨rfl, hf4⟩
      rw [← Ht1.out]
      exact hK2 _ _ v3.symm ⟨hI21, (hG0.none hf4)⟩ (fun _ _ _ h => h)
    | 4, ho =>
      simp at ho; subst ho
      have hu0 : u 0 = V 0 := hΦ 0 (hd ⟨0, .data⟩ (by simp) (by rfl))
      rw [v0] at hu0
      have hu3 : u 3 = V 3 := hΦ 3 (hd ⟨3, .data⟩ (by simp) (by rfl))
      rw [v3] at hu3
      clear hΦ hd
      obtain ⟨hI21, hG0⟩ := hG
      have hx : ∃ y, u = (upd (upd y 0 (.string (bs l0))) 3 (.string (bs t1))) := ⟨u, by rw [← upd_self hu0, ← upd_self hu3]⟩
      clear hu0 hu3
      obtain ⟨y, rfl⟩ := hx
      simp only [upd, reduceIte, Nat.reduceEqDiff]
      have hln : ¬ 9223372036854775807 < l0.length + t1.length := by have l1 := Ll0.out; have l2 := Lt1.out; omega
      go_simp
      rw [← Hs1.out]
      exact hK2 _ _ v4.symm ⟨hI21, hG0⟩ (fun _ _ _ h => h)
    | 5, ho =>
      simp at ho; subst ho
      clear hΦ hd
      obtain ⟨hI21, hG0⟩ := hG
      go_simp
      exact hK2 _ _ v5.symm ⟨hI21, hG0⟩ (fun _ _ _ h => h)
    | 6, ho =>
      simp at ho; subst ho
      have hu5 : u 5 = V 5 := hΦ 5 (hd ⟨5, .data⟩ (by simp) (by rfl))
      rw [v5] at hu5
      clear hΦ hd
      obtain ⟨hI21, hG0⟩ := hG
      have hx : ∃ y, u = (upd y 5 (.pointer (some ⟨pa, 3, none⟩))) := ⟨u, by rw [← upd_self hu5]⟩
      clear hu5
      obtain ⟨y, rfl⟩ := hx
      simp only [upd, reduceIte, Nat.reduceEqDiff]
      have hc0 := ((hpa).keep hG0 (fun x => x)).cells
      go_simp
      exact hK2 _ _ v6.symm ⟨hI21, hG0⟩ (fun _ _ _ h => h)
    | 7, ho =>
      simp at ho; subst ho
      have hu6 : u 6 = V 6 := hΦ 6 (hd ⟨6, .data⟩ (by simp) (by rfl))
      rw [v6] at hu6
      clear hΦ hd
      obtain ⟨hI21, hG0⟩ := hG
      have hx : ∃ y, u = (upd y 6 (.int .u32 (yours : Int))) := ⟨u, by rw [← upd_self hu6]⟩
      clear hu6
      obtain ⟨y, rfl⟩ := hx
      simp only [upd, reduceIte, Nat.reduceEqDiff]
      go_simp
      refine (refIp yours _ (by omega)).mono ?_
      rintro e w4 ⟨rfl, hf4⟩
      rw [← Ht2.out]
      exact hK2 _ _ v7.symm ⟨hI21, (hG0.none hf4)⟩ (fun _ _ _ h => h)
    | 8, ho =>
      simp at ho; subst ho
      have hu4 : u 4 = V 4 := hΦ 4 (hd ⟨4, .data⟩ (by simp) (by rfl))
      rw [v4] at hu4
      have hu7 : u 7 = V 7 := hΦ 7 (hd ⟨7, .data⟩ (by simp) (by rfl))
      rw [v7] at hu7
      clear hΦ hd
      obtain ⟨hI21, hG0⟩ := hG
      have hx : ∃ y, u = (upd (upd y 4 (.string (bs s1))) 7 (.string (bs t2))) := ⟨u, by rw [← upd_self hu4, ← upd_self hu7]⟩
      clear hu4 hu7
      obtain ⟨y, rfl⟩ := hx
      simp only [upd, reduceIte, Nat.reduceEqDiff]
      have hln : ¬ 9223372036854775807 < s1.length + t2.length := by have l1 := Ls1.out; have l2 := Lt2.out; omega
      go_simp
      rw [← Hs2.out]
      exact hK2 _ _ v8.symm ⟨hI21, hG0⟩ (fun _ _ _ h => h)
    | 9, ho =>
      simp at ho; subst ho
      clear hΦ hd
      obtain ⟨hI21, hG0⟩ := hG
      go_simp
      exact hK2 _ _ v9.symm ⟨hI21, hG0⟩ (fun _ _ _ h => h)
    | 10, ho =>
      simp at ho; subst ho
      have hu9 : u 9 = V 9 := hΦ 9 (hd ⟨9, .data⟩ (by simp) (by rfl))
      rw [v9] at hu9
      clear hΦ hd
      obtain ⟨hI21, hG0⟩ := hG
      have hx : ∃ y, u = (upd y 9 (.pointer (some ⟨pa, 4, none⟩))) := ⟨u, by rw [← upd_self hu9]⟩
      clear hu9
      obtain ⟨y, rfl⟩ := hx
      simp only [upd, reduceIte, Nat.reduceEqDiff]
      have hc0 := ((hpa).keep hG0 (fun x => x)).cells
      go_simp
      exact hK2 _ _ v10.symm ⟨hI21, hG0⟩ (fun _ _ _ h => h)
    | 11, ho =>
      simp at ho; subst ho
      have hu10 : u 10 = V 10 := hΦ 10 (hd ⟨10, .data⟩ (by simp) (by rfl))
      rw [v10] at hu10
      clear hΦ hd
      obtain ⟨hI21, hG0⟩ := hG
      have hx : ∃ y, u = (upd y 10 (.int .u32 (next : Int))) := ⟨u, by rw [← upd_self hu10]⟩
      clear hu10
      obtain ⟨y, rfl⟩ := hx
      simp only [upd, reduceIte, Nat.reduceEqDiff]
      go_simp
      refine (refIp next _ (by omega)).mono ?_
      rintro e w4 ⟨rfl, hf4⟩
      rw [← Ht3.out]
      exact hK2 _ _ v11.symm ⟨hI21, (hG0.none hf4)⟩ (fun _ _ _ h => h)
    | 12, ho =>
      simp at ho; subst ho
      have hu8 : u 8 = V 8 := hΦ 8 (hd ⟨8, .data⟩ (by simp) (by rfl))
      rw [v8] at hu8
      have hu11 : u 11 = V 11 := hΦ 11 (hd ⟨11, .data⟩ (by simp) (by rfl))
      rw [v11] at hu11
      clear hΦ hd
      obtain ⟨hI21, hG0⟩ := hG
      have hx : ∃ y, u = (upd (upd y 8 (.string (bs s2))) 11 (.string (bs t3))) := ⟨u, by rw [← upd_self hu8, ← upd_self hu11]⟩
      clear hu8 hu11
      obtain ⟨y, rfl⟩ := hx
      simp only [upd, reduceIte, Nat.reduceEqDiff]
      have hln : ¬ 9223372036854775807 < s2.length + t3.length := by have l1 := Ls2.out; have l2 := Lt3.out; omega
      go_simp
      rw [← Hs3.out]
      exact hK2 _ _ v12.symm ⟨hI21, hG0⟩ (fun _ _ _ h => h)
    | 13, ho =>
      simp at ho; subst ho
      clear hΦ hd
      obtain ⟨hI21, hG0⟩ := hG
      go_simp
      refine (refIp 0 _ (by omega)).mono ?_
      rintro e w4 ⟨rfl, hf4⟩
      rw [← Ht4.out]
      exact hK2 _ _ v13.symm ⟨hI21, (hG0.none hf4)⟩ (fun _ _ _ h => h)
    | 14, ho =>
      simp at ho; subst ho
      have hu12 : u 12 = V 12 := hΦ 12 (hd ⟨12, .data⟩ (by simp) (by rfl))
      rw [v12] at hu12
      have hu13 : u 13 = V 13 := hΦ 13 (hd ⟨13, .data⟩ (by simp) (by rfl))
      rw [v13] at hu13
      clear hΦ hd
      obtain ⟨hI21, hG0⟩ := hG
      have hx : ∃ y, u = (upd (upd y 12 (.string (bs s3))) 13 (.string (bs t4))) := ⟨u, by rw [← upd_self hu12, ← upd_self hu13]⟩
      clear hu12 hu13
      obtain ⟨y, rfl⟩ := hx
      simp only [upd, reduceIte, Nat.reduceEqDiff]
      have hln : ¬ 9223372036854775807 < s3.length + t4.length := by have l1 := Ls3.out; have l2 := Lt4.out; omega
      go_simp
      rw [← Hs4.out]
      exact hK2 _ _ v14.symm ⟨hI21, hG0⟩ (fun _ _ _ h => h)
    | 15, ho =>
      simp at ho; subst ho
      clear hΦ hd
      obtain ⟨hI21, hG0⟩ := hG
      go_simp
      exact hK2 _ _ v15.symm ⟨hI21, hG0⟩ (fun _ _ _ h => h)
    | 16, ho =>
      simp at ho; subst ho
      have hu15 : u 15 = V 15 := hΦ 15 (hd ⟨15, .data⟩ (by simp) (by rfl))
      rw [v15] at hu15
      clear hΦ hd
      obtain ⟨hI21, hG0⟩ := hG
      have hx : ∃ y, u = (upd y 15 (.pointer (some ⟨pa, 5, none⟩))) := ⟨u, by rw [← upd_self hu15]⟩
      clear hu15
      obtain ⟨y, rfl⟩ := hx
      simp only [upd, reduceIte, Nat.reduceEqDiff]
      have hc0 := ((hpa).keep hG0 (fun x => x)).cells
      go_simp
      exact hK2 _ _ v16.symm ⟨hI21, hG0⟩ (fun _ _ _ h => h)
    | 17, ho =>
      simp at ho; subst ho
      have hu16 : u 16 = V 16 := hΦ 16 (hd ⟨16, .data⟩ (by simp) (by rfl))
      rw [v16] at hu16
      clear hΦ hd
      obtain ⟨hI21, hG0⟩ := hG
      have hx : ∃ y, u = (upd y 16 (.agg #[.int .u8 (m0.toNat : Int), .int .u8 (m1.toNat : Int), .int .u8 (m2.toNat : Int), .int .u8 (m3.toNat : Int), .int .u8 (m4.toNat : Int), .int .u8 (m5.toNat : Int)])) := ⟨u, by rw [← upd_self hu16]⟩
      clear hu16
      obtain ⟨y, rfl⟩ := hx
      simp only [upd, reduceIte, Nat.reduceEqDiff]
      go_simp
      refine (refMac (m0, m1, m2, m3, m4, m5) _).mono ?_
      rintro e w4 ⟨rfl, hf4⟩
      rw [← Ht5.out]
      exact hK2 _ _ v17.symm ⟨hI21, (hG0.none hf4)⟩ (fun _ _ _ h => h)
    | 18, ho =>
      simp at ho; subst ho
      have hu14 : u 14 = V 14 := hΦ 14 (hd ⟨14, .data⟩ (by simp) (by rfl))
      rw [v14] at hu14
      have hu17 : u 17 = V 17 := hΦ 17 (hd ⟨17, .data⟩ (by simp) (by rfl))
      rw [v17] at hu17
      clear hΦ hd
      obtain ⟨hI21, hG0⟩ := hG
      have hx : ∃ y, u = (upd (upd y 14 (.string (bs s4))) 17 (.string (bs t5))) := ⟨u, by rw [← upd_self hu14, ← upd_self hu17]⟩
      clear hu14 hu17
      obtain ⟨y, rfl⟩ := hx
      simp only [upd, reduceIte, Nat.reduceEqDiff]
      have hln : ¬ 9223372036854775807 < s4.length + t5.length := by have l1 := Ls4.out; have l2 := Lt5.out; omega
      go_simp
      rw [← Hs5.out]
      exact hK2 _ _ v18.symm ⟨hI21, hG0⟩ (fun _ _ _ h => h)
    | 19, ho =>
      simp at ho; subst ho
      have hu18 : u 18 = V 18 := hΦ 18 (hd ⟨18, .data⟩ (by simp) (by rfl))
      rw [v18] at hu18
      clear hΦ hd
      obtain ⟨hI21, hG0⟩ := hG
      have hx : ∃ y, u = (upd y 18 (.string (bs s5))) := ⟨u, by rw [← upd_self hu18]⟩
      clear hu18
      obtain ⟨y, rfl⟩ := hx
      simp only [upd, reduceIte, Nat.reduceEqDiff]
      go_simp
      refine (refZero s5 236 _ (by have := Ls5.out; omega) (by omega)).mono ?_
      rintro e w4 ⟨rfl, hf4⟩
      rw [← Hs6.out]
      exact hK2 _ _ v19.symm ⟨hI21, (hG0.none hf4)⟩ (fun _ _ _ h => h)
    | 20, ho =>
      simp at ho; subst ho
      have hu19 : u 19 = V 19 := hΦ 19 (hd ⟨19, .data⟩ (by simp) (by rfl))
      rw [v19] at hu19
      clear hΦ hd
      obtain ⟨hI21, hG0⟩ := hG
      have hx : ∃ y, u = (upd y 19 (.string (bs s6))) := ⟨u, by rw [← upd_self hu19]⟩
      clear hu19
      obtain ⟨y, rfl⟩ := hx
      simp only [upd, reduceIte, Nat.reduceEqDiff]
      have hcs : (⟨#[99, 130, 83, 99]⟩ : ByteArray) = bs [99, 130, 83, 99] := rfl
      have hln : ¬ 9223372036854775807 < s6.length + 4 := by have l1 := Ls6.out; omega
      go_simp
      rw [← Hs7.out]
      exact hK2 _ _ v20.symm ⟨hI21, hG0⟩ (fun _ _ _ h => h)
    | 21, ho =>
      simp at ho; subst ho
      have hu20 : u 20 = V 20 := hΦ 20 (hd ⟨20, .data⟩ (by simp) (by rfl))
      rw [v20] at hu20
      clear hΦ hd
      obtain ⟨hI21, hG0⟩ := hG
      have hx : ∃ y, u = (upd y 20 (.string (bs s7))) := ⟨u, by rw [← upd_self hu20]⟩
      clear hu20
      obtain ⟨y, rfl⟩ := hx
      simp only [upd, reduceIte, Nat.reduceEqDiff]
      go_simp
      exact hK2 _ _ v21.symm ⟨fun h => absurd (show (true : Bool) = false from h) (by decide), hG0⟩ (fun _ _ _ h => h)
  · rintro u w3 hu L hall hG
    obtain ⟨hI21, hG0⟩ := hG
    have ho4 : u 21 = V 21 := hu 21 (by decide)
    rw [v21] at ho4
    try rw [Hs7.out, Hs6.out, Hs5.out, Ht5.out, Hs4.out, Ht4.out, Hs3.out, Ht3.out, Hs2.out, Ht2.out, Hs1.out, Ht1.out] at ho4
    exact HK.out _ _ ⟨rfl, rfl⟩ (KpU.cons (rfl) (KpU.cons (h1.symm) (KpU.cons (rfl) (KpU.cons (rfl) (KpU.cons (rfl) (KpU.cons (rfl) (KpU.cons (rfl) (KpU.cons (rfl) (KpU.cons (rfl) (KpU.cons (rfl) (KpU.cons (rfl) (KpU.cons (rfl) (KpU.cons (rfl) (KpU.cons (rfl) (KpU.cons (rfl) (KpU.cons (rfl) (KpU.cons (rfl) (KpU.cons (rfl) (KpU.cons (rfl) (KpU.cons (rfl) (KpU.cons (rfl) (KpU.cons (rfl) (KpU.cons (rfl) (KpU.cons (rfl) (KpU.cons (rfl) (KpU.cons (rfl) (KpU.cons (rfl) (KpU.cons (rfl) (KpU.cons (rfl) (KpU.cons (rfl) (KpU.cons (rfl) (KpU.cons (rfl) (KpU.cons (rfl) (KpU.cons (rfl) (KpU.cons (rfl) (KpU.cons (rfl) (KpU.cons (rfl) (KpU.cons (rfl) (KpU.cons (rfl) (KpU.cons (rfl) (KpU.cons (rfl) (KpU.cons (rfl) (KpU.cons (rfl) (KpU.cons (rfl) (KpU.cons (rfl) (KpU.cons (rfl) (KpU.cons (rfl) (KpU.cons (rfl) (KpU.cons (rfl) (KpU.cons (rfl) (KpU.cons (rfl) (KpU.cons (rfl) (KpU.cons (rfl) (KpU.cons (rfl) (KpU.cons (rfl) (KpU.cons (rfl) (KpU.cons (rfl) (KpU.cons (rfl) (KpU.cons (rfl) (KpU.cons (rfl) (KpU.cons (rfl) (KpU.cons (rfl) (KpU.cons (rfl) (KpU.cons (rfl) (KpU.cons (rfl) (KpU.cons (rfl) (KpU.cons (rfl) (KpU.cons (rfl) (KpU.cons (rfl) (KpU.cons (rfl) (KpU.cons (rfl) (KpU.cons (rfl) (KpU.cons (rfl) (KpU.cons (rfl) (KpU.cons (rfl) (KpU.cons (rfl) (KpU.cons (rfl) (KpU.cons (rfl) (KpU.nil _ _))))))))))))))))))))))))))))))))))))))))))))))))))))))))))))))))))))))))))))))) ho4 hG0
theorem rdR16 (go : Nat) (oc : UInt8) (od d l0 : List UInt8) (a : Act) (w : World) (K : Exit → Act → World → Prop) (hs : Sz 100 a)
    (h4 : sl a 4 = .string (bs l0)) (h6 : sl a 6 = .pointer (some ⟨go, 0, none⟩)) (h7 : sl a 7 = .string (bs d)) (hpo : Bk w go 72 #[.int .u8 (oc.toNat : Int), .string (bs od)]) (hd : 255 ≤ d.length) (Ll0 : Hid (l0.length ≤ 40000000))
    (hK : ∀ a' w', Sz 100 a' → Kp [0, 1, 2, 3, 5, 6, 7, 8, 9, 10, 11, 12, 13, 14, 15, 16, 17, 18, 19, 20, 21, 22, 23, 24, 25, 26, 27, 28, 29, 30, 31, 32, 33, 34, 35, 36, 37, 38, 39, 40, 41, 42, 43, 44, 45, 46, 47, 48, 49, 50, 51, 52, 53, 54, 55, 56, 57, 58, 59, 60, 61, 62, 63, 64, 65, 66, 67, 68, 69, 79, 80, 81, 82, 83, 84, 85, 86, 87, 88, 89, 90, 91, 92, 93, 94, 95, 96, 97, 98, 99] a a' → sl a' 4 = .string (bs (l0 ++ ([oc, 255] ++ d.take 255))) → Fr noB w w' → K .normal a' w') :
    (regionOf Tryz.f217 16).wp Tryz.prog K a w := by
  have hK2 : ∀ a' w', Sz 100 a' → KpU [0, 1, 2, 3, 5, 6, 7, 8, 9, 10, 11, 12, 13, 14, 15, 16, 17, 18, 19, 20, 21, 22, 23, 24, 25, 26, 27, 28, 29, 30, 31, 32, 33, 34, 35, 36, 37, 38, 39, 40, 41, 42, 43, 44, 45, 46, 47, 48, 49, 50, 51, 52, 53, 54, 55, 56, 57, 58, 59, 60, 61, 62, 63, 64, 65, 66, 67, 68, 69, 79, 80, 81, 82, 83, 84, 85, 86, 87, 88, 89, 90, 91, 92, 93, 94, 95, 96, 97, 98, 99] (sl a) a' → sl a' 4 = .string (bs (l0 ++ ([oc, 255] ++ d.take 255))) → Fr noB w w' → K .normal a' w' := hK
  clear hK
  rw [rdF_of hs]
  clear hs
  generalize sl a = z at *
  clear a
  have HK := Lib.hid hK2
  clear hK2
  conv => arg 2; whnf
  simp only [rdF, h4, h6, h7]
  clear h4
  obtain ⟨t0, Ht0⟩ : ∃ s : List UInt8, Hid (s = [oc, 255]) := ⟨[oc, 255], Lib.hid rfl⟩
  obtain ⟨t1, Ht1⟩ : ∃ s : List UInt8, Hid (s = d.take 255) := ⟨d.take 255, Lib.hid rfl⟩
  obtain ⟨s1, Hs1⟩ : ∃ s : List UInt8, Hid (s = t0 ++ t1) := ⟨t0 ++ t1, Lib.hid rfl⟩
  obtain ⟨s2, Hs2⟩ : ∃ s : List UInt8, Hid (s = l0 ++ s1) := ⟨l0 ++ s1, Lib.hid rfl⟩
  have Lt0 : Hid (t0.length ≤ 2) := by have l_l0 := Ll0.out; unfold Hid; rw [Ht0.out]; (simp [big_length, macB, bigs_length] <;> omega)
  have Lt1 : Hid (t1.length ≤ 255) := by have l_l0 := Ll0.out; have l_t0 := Lt0.out; unfold Hid; rw [Ht1.out]; (simp [big_length, macB, bigs_length] <;> omega)
  have Ls1 : Hid (s1.length ≤ 257) := by have l_l0 := Ll0.out; have l_t0 := Lt0.out; have l_t1 := Lt1.out; unfold Hid; rw [Hs1.out]; (simp [big_length, macB, bigs_length] <;> omega)
  have Ls2 : Hid (s2.length ≤ 40000257) := by have l_l0 := Ll0.out; have l_t0 := Lt0.out; have l_t1 := Lt1.out; have l_s1 := Ls1.out; unfold Hid; rw [Hs2.out]; (simp [big_length, macB, bigs_length] <;> omega)
  obtain ⟨V, hV⟩ : ∃ V : Nat → Value, V = (fun j => match j with | 0 => .string (bs l0) | 1 => .pointer (some ⟨go, 0, none⟩) | 2 => .int .u8 (oc.toNat : Int) | 4 => .string (bs t0) | 5 => .string (bs d) | 6 => .string (bs t1) | 7 => .string (bs s1) | 8 => .string (bs s2) | 9 => .string (bs s2) | _ => undef) := ⟨_, rfl⟩
  have v0 : V 0 = .string (bs l0) := congrFun hV 0
  have v1 : V 1 = .pointer (some ⟨go, 0, none⟩) := congrFun hV 1
  have v2 : V 2 = .int .u8 (oc.toNat : Int) := congrFun hV 2
  have v4 : V 4 = .string (bs t0) := congrFun hV 4
  have v5 : V 5 = .string (bs d) := congrFun hV 5
  have v6 : V 6 = .string (bs t1) := congrFun hV 6
  have v7 : V 7 = .string (bs s1) := congrFun hV 7
  have v8 : V 8 = .string (bs s2) := congrFun hV 8
  have v9 : V 9 = .string (bs s2) := congrFun hV 9
  clear hV
  refine wp_region_ssac (by kernel_rfl) (by kernel_rfl) (by kernel_rfl)
    (fun u => ⟨List.toArray ((z 0) :: (z 1) :: (z 2) :: (z 3) :: (u 9) :: (z 5) :: (.pointer (some ⟨go, 0, none⟩)) :: (.string (bs d)) :: (z 8) :: (z 9) :: (z 10) :: (z 11) :: (z 12) :: (z 13) :: (z 14) :: (z 15) :: (z 16) :: (z 17) :: (z 18) :: (z 19) :: (z 20) :: (z 21) :: (z 22) :: (z 23) :: (z 24) :: (z 25) :: (z 26) :: (z 27) :: (z 28) :: (z 29) :: (z 30) :: (z 31) :: (z 32) :: (z 33) :: (z 34) :: (z 35) :: (z 36) :: (z 37) :: (z 38) :: (z 39) :: (z 40) :: (z 41) :: (z 42) :: (z 43) :: (z 44) :: (z 45) :: (z 46) :: (z 47) :: (z 48) :: (z 49) :: (z 50) :: (z 51) :: (z 52) :: (z 53) :: (z 54) :: (z 55) :: (z 56) :: (z 57) :: (z 58) :: (z 59) :: (z 60) :: (z 61) :: (z 62) :: (z 63) :: (z 64) :: (z 65) :: (z 66) :: (z 67) :: (z 68) :: (z 69) :: (u 0) :: (u 1) :: (u 2) :: (u 3) :: (u 4) :: (u 5) :: (u 6) :: (u 7) :: (u 8) :: (z 79) :: (z 80) :: (z 81) :: (z 82) :: (z 83) :: (z 84) :: (z 85) :: (z 86) :: (z 87) :: (z 88) :: (z 89) :: (z 90) :: (z 91) :: (z 92) :: (z 93) :: (z 94) :: (z 95) :: (z 96) :: (z 97) :: (z 98) :: (z 99) :: []), []⟩)
    (fun j v w3 => if j = 3 then True else v = V j)
    (fun L u w3 => (L 9 = false → u 9 = .string (bs l0)) ∧ Fr noB w w3 ∧ AlS (L 3) (u 3) 2 5 #[.int .u8 (oc.toNat : Int), .int .u8 255] 0 none w3) (fun j => if j = 0 then z 70 else if j = 1 then z 71 else if j = 2 then z 72 else if j = 3 then z 73 else if j = 4 then z 74 else if j = 5 then z 75 else if j = 6 then z 76 else if j = 7 then z 77 else if j = 8 then z 78 else if j = 9 then .string (bs l0) else undef) ⟨fun _ => rfl, (Fr.refl _ _).drew, AlS.false⟩ ?_ ?_
  · rintro L u w3 i o hcl hG hΦ ho hL hd K2 hK2
    match i, ho with
    | 0, ho =>
      simp at ho; subst ho
      clear hΦ hd
      obtain ⟨hI9, hG0, s3⟩ := hG
      have hnl9 : L 9 = false := by cases h : L 9 with | false => rfl | true => exact (by have h2 := (hcl.dep 8 0 (hcl.dep 9 8 h (by rfl)) (by rfl)); rw [hL] at h2; cases h2)
      have hr9 := hI9 hnl9
      have hx : ∃ y, u = (upd y 9 (.string (bs l0))) := ⟨u, by rw [← upd_self hr9]⟩
      clear hr9
      obtain ⟨y, rfl⟩ := hx
      simp only [upd, reduceIte, Nat.reduceEqDiff]
      go_simp
      exact hK2 _ _ v0.symm ⟨hI9, hG0, s3⟩ (fun _ _ _ h => h)
    | 1, ho =>
      simp at ho; subst ho
      clear hΦ hd
      obtain ⟨hI9, hG0, s3⟩ := hG
      go_simp
      exact hK2 _ _ v1.symm ⟨hI9, hG0, s3⟩ (fun _ _ _ h => h)
    | 2, ho =>
      simp at ho; subst ho
      have hu1 : u 1 = V 1 := hΦ 1 (hd ⟨1, .data⟩ (by simp) (by rfl))
      rw [v1] at hu1
      clear hΦ hd
      obtain ⟨hI9, hG0, s3⟩ := hG
      have hx : ∃ y, u = (upd y 1 (.pointer (some ⟨go, 0, none⟩))) := ⟨u, by rw [← upd_self hu1]⟩
      clear hu1
      obtain ⟨y, rfl⟩ := hx
      simp only [upd, reduceIte, Nat.reduceEqDiff]
      have hc0 := ((hpo).keep hG0 (fun x => x)).cells
      go_simp
      exact hK2 _ _ v2.symm ⟨hI9, hG0, s3⟩ (fun _ _ _ h => h)
    | 3, ho =>
      simp at ho; subst ho
      have hu2 : u 2 = V 2 := hΦ 2 (hd ⟨2, .data⟩ (by simp) (by rfl))
      rw [v2] at hu2
      clear hΦ hd
      obtain ⟨hI9, hG0, s3⟩ := hG
      have hx : ∃ y, u = (upd y 2 (.int .u8 (oc.toNat : Int))) := ⟨u, by rw [← upd_self hu2]⟩
      clear hu2
      obtain ⟨y, rfl⟩ := hx
      simp only [upd, reduceIte, Nat.reduceEqDiff]
      go_simp
      exact hK2 _ _ trivial ⟨hI9, (hG0.alloc _), AlS.new0 w3 2 5 #[.int .u8 (oc.toNat : Int), .int .u8 255]⟩ (fun _ _ _ h => h)
    | 4, ho =>
      simp at ho; subst ho
      have hl3 : L 3 = true := hd ⟨3, .data⟩ (by simp) (by rfl)
      clear hΦ hd
      obtain ⟨hI9, hG0, s3⟩ := hG
      obtain ⟨g3, hg3, hb3, -, -⟩ := s3 hl3
      have hx : ∃ y, u = (upd y 3 (.slice (some ⟨g3, 0, none⟩) 2 2)) := ⟨u, by rw [← upd_self hg3]⟩
      clear hg3
      obtain ⟨y, rfl⟩ := hx
      simp only [upd, reduceIte, Nat.reduceEqDiff]
      have hcv := run_str_of (P := Tryz.prog) w3 98 9 5 Tryz.underlying98 Tryz.underlying5 Tryz.underlying9 noB (some ⟨g3, 0, none⟩) 2 2 [oc, 255] (SlR.of_bk (n := 2) (size := 1) hb3 (fun x => x) rfl) (.inr ⟨_, _, rfl⟩)
      go_simp
      rw [← Ht0.out]
      exact hK2 _ _ v4.symm ⟨hI9, hG0, s3⟩ (fun _ _ _ h => h)
    | 5, ho =>
      simp at ho; subst ho
      clear hΦ hd
      obtain ⟨hI9, hG0, s3⟩ := hG
      go_simp
      exact hK2 _ _ v5.symm ⟨hI9, hG0, s3⟩ (fun _ _ _ h => h)
    | 6, ho =>
      simp at ho; subst ho
      have hu5 : u 5 = V 5 := hΦ 5 (hd ⟨5, .data⟩ (by simp) (by rfl))
      rw [v5] at hu5
      clear hΦ hd
      obtain ⟨hI9, hG0, s3⟩ := hG
      have hx : ∃ y, u = (upd y 5 (.string (bs d))) := ⟨u, by rw [← upd_self hu5]⟩
      clear hu5
      obtain ⟨y, rfl⟩ := hx
      simp only [upd, reduceIte, Nat.reduceEqDiff]
      have e1 : (255 : Int) ≤ (d.length : Int) := by omega
      go_simp
      rw [← Ht1.out]
      exact hK2 _ _ v6.symm ⟨hI9, hG0, s3⟩ (fun _ _ _ h => h)
    | 7, ho =>
      simp at ho; subst ho
      have hu4 : u 4 = V 4 := hΦ 4 (hd ⟨4, .data⟩ (by simp) (by rfl))
      rw [v4] at hu4
      have hu6 : u 6 = V 6 := hΦ 6 (hd ⟨6, .data⟩ (by simp) (by rfl))
      rw [v6] at hu6
      clear hΦ hd
      obtain ⟨hI9, hG0, s3⟩ := hG
      have hx : ∃ y, u = (upd (upd y 4 (.string (bs t0))) 6 (.string (bs t1))) := ⟨u, by rw [← upd_self hu4, ← upd_self hu6]⟩
      clear hu4 hu6
      obtain ⟨y, rfl⟩ := hx
      simp only [upd, reduceIte, Nat.reduceEqDiff]
      have hln : ¬ 9223372036854775807 < t0.length + t1.length := by have l1 := Lt0.out; have l2 := Lt1.out; omega
      go_simp
      rw [← Hs1.out]
      exact hK2 _ _ v7.symm ⟨hI9, hG0, s3⟩ (fun _ _ _ h => h)
    | 8, ho =>
      simp at ho; subst ho
      have hu0 : u 0 = V 0 := hΦ 0 (hd ⟨0, .data⟩ (by simp) (by rfl))
      rw [v0] at hu0
      have hu7 : u 7 = V 7 := hΦ 7 (hd ⟨7, .data⟩ (by simp) (by rfl))
      rw [v7] at hu7
      clear hΦ hd
      obtain ⟨hI9, hG0, s3⟩ := hG
      have hx : ∃ y, u = (upd (upd y 0 (.string (bs l0))) 7 (.string (bs s1))) := ⟨u, by rw [← upd_self hu0, ← upd_self hu7]⟩
      clear hu0 hu7
      obtain ⟨y, rfl⟩ := hx
      simp only [upd, reduceIte, Nat.reduceEqDiff]
      have hln : ¬ 9223372036854775807 < l0.length + s1.length := by have l1 := Ll0.out; have l2 := Ls1.out; omega
      go_simp
      rw [← Hs2.out]
      exact hK2 _ _ v8.symm ⟨hI9, hG0, s3⟩ (fun _ _ _ h => h)
    | 9, ho =>
      simp at ho; subst ho
      have hu8 : u 8 = V 8 := hΦ 8 (hd ⟨8, .data⟩ (by simp) (by rfl))
      rw [v8] at hu8
      clear hΦ hd
      obtain ⟨hI9, hG0, s3⟩ := hG
      have hx : ∃ y, u = (upd y 8 (.string (bs s2))) := ⟨u, by rw [← upd_self hu8]⟩
      clear hu8
      obtain ⟨y, rfl⟩ := hx
      simp only [upd, reduceIte, Nat.reduceEqDiff]
      go_simp
      exact hK2 _ _ v9.symm ⟨fun h => absurd (show (true : Bool) = false from h) (by decide), hG0, s3⟩ (fun _ _ _ h => h)
  · rintro u w3 hu L hall hG
    obtain ⟨hI9, hG0, s3⟩ := hG
    have ho4 : u 9 = V 9 := hu 9 (by decide)
    rw [v9] at ho4
    try rw [Hs2.out, Hs1.out, Ht1.out, Ht0.out] at ho4
    exact HK.out _ _ ⟨rfl, rfl⟩ (KpU.cons (rfl) (KpU.cons (rfl) (KpU.cons (rfl) (KpU.cons (rfl) (KpU.cons (rfl) (KpU.cons (h6.symm) (KpU.cons (h7.symm) (KpU.cons (rfl) (KpU.cons (rfl) (KpU.cons (rfl) (KpU.cons (rfl) (KpU.cons (rfl) (KpU.cons (rfl) (KpU.cons (rfl) (KpU.cons (rfl) (KpU.cons (rfl) (KpU.cons (rfl) (KpU.cons (rfl) (KpU.cons (rfl) (KpU.cons (rfl) (KpU.cons (rfl) (KpU.cons (rfl) (KpU.cons (rfl) (KpU.cons (rfl) (KpU.cons (rfl) (KpU.cons (rfl) (KpU.cons (rfl) (KpU.cons (rfl) (KpU.cons (rfl) (KpU.cons (rfl) (KpU.cons (rfl) (KpU.cons (rfl) (KpU.cons (rfl) (KpU.cons (rfl) (KpU.cons (rfl) (KpU.cons (rfl) (KpU.cons (rfl) (KpU.cons (rfl) (KpU.cons (rfl) (KpU.cons (rfl) (KpU.cons (rfl) (KpU.cons (rfl) (KpU.cons (rfl) (KpU.cons (rfl) (KpU.cons (rfl) (KpU.cons (rfl) (KpU.cons (rfl) (KpU.cons (rfl) (KpU.cons (rfl) (KpU.cons (rfl) (KpU.cons (rfl) (KpU.cons (rfl) (KpU.cons (rfl) (KpU.cons (rfl) (KpU.cons (rfl) (KpU.cons (rfl) (KpU.cons (rfl) (KpU.cons (rfl) (KpU.cons (rfl) (KpU.cons (rfl) (KpU.cons (rfl) (KpU.cons (rfl) (KpU.cons (rfl) (KpU.cons (rfl) (KpU.cons (rfl) (KpU.cons (rfl) (KpU.cons (rfl) (KpU.cons (rfl) (KpU.cons (rfl) (KpU.cons (rfl) (KpU.cons (rfl) (KpU.cons (rfl) (KpU.cons (rfl) (KpU.cons (rfl) (KpU.cons (rfl) (KpU.cons (rfl) (KpU.cons (rfl) (KpU.cons (rfl) (KpU.cons (rfl) (KpU.cons (rfl) (KpU.cons (rfl) (KpU.cons (rfl) (KpU.cons (rfl) (KpU.cons (rfl) (KpU.cons (rfl) (KpU.cons (rfl) (KpU.cons (rfl) (KpU.cons (rfl) (KpU.cons (rfl) (KpU.cons (rfl) (KpU.nil _ _))))))))))))))))))))))))))))))))))))))))))))))))))))))))))))))))))))))))))))))))))))))))))) ho4 hG0
theorem rdR18 (go : Nat) (oc : UInt8) (od d l0 : List UInt8) (a : Act) (w : World) (K : Exit → Act → World → Prop) (hs : Sz 100 a)
    (h4 : sl a 4 = .string (bs l0)) (h6 : sl a 6 = .pointer (some ⟨go, 0, none⟩)) (h7 : sl a 7 = .string (bs d)) (hpo : Bk w go 72 #[.int .u8 (oc.toNat : Int), .string (bs od)]) (hd : d.length ≤ 255) (Ll0 : Hid (l0.length ≤ 40000000)) (Ld : Hid (d.length ≤ 255))
    (hK : ∀ a' w', Sz 100 a' → Kp [0, 1, 2, 3, 5, 6, 7, 8, 9, 10, 11, 12, 13, 14, 15, 16, 17, 18, 19, 20, 21, 22, 23, 24, 25, 26, 27, 28, 29, 30, 31, 32, 33, 34, 35, 36, 37, 38, 39, 40, 41, 42, 43, 44, 45, 46, 47, 48, 49, 50, 51, 52, 53, 54, 55, 56, 57, 58, 59, 60, 61, 62, 63, 64, 65, 66, 67, 68, 69, 70, 71, 72, 73, 74, 75, 76, 77, 78, 79, 80, 92, 93, 94, 95, 96, 97, 98, 99] a a' → sl a' 4 = .string (bs (l0 ++ ([oc, UInt8.ofNat d.length] ++ d))) → Fr noB w w' → K .normal a' w') :
    (regionOf Tryz.f217 18).wp Tryz.prog K a w := by
  have hK2 : ∀ a' w', Sz 100 a' → KpU [0, 1, 2, 3, 5, 6, 7, 8, 9, 10, 11, 12, 13, 14, 15, 16, 17, 18, 19, 20, 21, 22, 23, 24, 25, 26, 27, 28, 29, 30, 31, 32, 33, 34, 35, 36, 37, 38, 39, 40, 41, 42, 43, 44, 45, 46, 47, 48, 49, 50, 51, 52, 53, 54, 55, 56, 57, 58, 59, 60, 61, 62, 63, 64, 65, 66, 67, 68, 69, 70, 71, 72, 73, 74, 75, 76, 77, 78, 79, 80, 92, 93, 94, 95, 96, 97, 98, 99] (sl a) a' → sl a' 4 = .string (bs (l0 ++ ([oc, UInt8.ofNat d.length] ++ d))) → Fr noB w w' → K .normal a' w' := hK
  clear hK
  rw [rdF_of hs]
  clear hs
  generalize sl a = z at *
  clear a
  have HK := Lib.hid hK2
  clear hK2
  conv => arg 2; whnf
  simp only [rdF, h4, h6, h7]
  clear h4
  obtain ⟨t0, Ht0⟩ : ∃ s : List UInt8, Hid (s = [oc, UInt8.ofNat d.length]) := ⟨[oc, UInt8.ofNat d.length], Lib.hid rfl⟩
  obtain ⟨s1, Hs1⟩ : ∃ s : List UInt8, Hid (s = t0 ++ d) := ⟨t0 ++ d, Lib.hid rfl⟩
  obtain ⟨s2, Hs2⟩ : ∃ s : List UInt8, Hid (s = l0 ++ s1) := ⟨l0 ++ s1, Lib.hid rfl⟩
  have Lt0 : Hid (t0.length ≤ 2) := by have l_l0 := Ll0.out; have l_d := Ld.out; unfold Hid; rw [Ht0.out]; (simp [big_length, macB, bigs_length] <;> omega)
  have Ls1 : Hid (s1.length ≤ 257) := by have l_l0 := Ll0.out; have l_d := Ld.out; have l_t0 := Lt0.out; unfold Hid; rw [Hs1.out]; (simp [big_length, macB, bigs_length] <;> omega)
  have Ls2 : Hid (s2.length ≤ 40000257) := by have l_l0 := Ll0.out; have l_d := Ld.out; have l_t0 := Lt0.out; have l_s1 := Ls1.out; unfold Hid; rw [Hs2.out]; (simp [big_length, macB, bigs_length] <;> omega)
  obtain ⟨V, hV⟩ : ∃ V : Nat → Value, V = (fun j => match j with | 0 => .string (bs l0) | 1 => .pointer (some ⟨go, 0, none⟩) | 2 => .int .u8 (oc.toNat : Int) | 3 => .string (bs d) | 4 => .int .i64 (d.length : Int) | 5 => .int .u8 ((UInt8.ofNat d.length).toNat : Int) | 7 => .string (bs t0) | 8 => .string (bs d) | 9 => .string (bs s1) | 10 => .string (bs s2) | 11 => .string (bs s2) | _ => undef) := ⟨_, rfl⟩
  have v0 : V 0 = .string (bs l0) := congrFun hV 0
  have v1 : V 1 = .pointer (some ⟨go, 0, none⟩) := congrFun hV 1
  have v2 : V 2 = .int .u8 (oc.toNat : Int) := congrFun hV 2
  have v3 : V 3 = .string (bs d) := congrFun hV 3
  have v4 : V 4 = .int .i64 (d.length : Int) := congrFun hV 4
  have v5 : V 5 = .int .u8 ((UInt8.ofNat d.length).toNat : Int) := congrFun hV 5
  have v7 : V 7 = .string (bs t0) := congrFun hV 7
  have v8 : V 8 = .string (bs d) := congrFun hV 8
  have v9 : V 9 = .string (bs s1) := congrFun hV 9
  have v10 : V 10 = .string (bs s2) := congrFun hV 10
  have v11 : V 11 = .string (bs s2) := congrFun hV 11
  clear hV
  refine wp_region_ssac_plain (by kernel_rfl) (by kernel_rfl) (by kernel_rfl)
    (fun u => ⟨List.toArray ((z 0) :: (z 1) :: (z 2) :: (z 3) :: (u 11) :: (z 5) :: (.pointer (some ⟨go, 0, none⟩)) :: (.string (bs d)) :: (z 8) :: (z 9) :: (z 10) :: (z 11) :: (z 12) :: (z 13) :: (z 14) :: (z 15) :: (z 16) :: (z 17) :: (z 18) :: (z 19) :: (z 20) :: (z 21) :: (z 22) :: (z 23) :: (z 24) :: (z 25) :: (z 26) :: (z 27) :: (z 28) :: (z 29) :: (z 30) :: (z 31) :: (z 32) :: (z 33) :: (z 34) :: (z 35) :: (z 36) :: (z 37) :: (z 38) :: (z 39) :: (z 40) :: (z 41) :: (z 42) :: (z 43) :: (z 44) :: (z 45) :: (z 46) :: (z 47) :: (z 48) :: (z 49) :: (z 50) :: (z 51) :: (z 52) :: (z 53) :: (z 54) :: (z 55) :: (z 56) :: (z 57) :: (z 58) :: (z 59) :: (z 60) :: (z 61) :: (z 62) :: (z 63) :: (z 64) :: (z 65) :: (z 66) :: (z 67) :: (z 68) :: (z 69) :: (z 70) :: (z 71) :: (z 72) :: (z 73) :: (z 74) :: (z 75) :: (z 76) :: (z 77) :: (z 78) :: (z 79) :: (z 80) :: (u 0) :: (u 1) :: (u 2) :: (u 3) :: (u 4) :: (u 5) :: (u 6) :: (u 7) :: (u 8) :: (u 9) :: (u 10) :: (z 92) :: (z 93) :: (z 94) :: (z 95) :: (z 96) :: (z 97) :: (z 98) :: (z 99) :: []), []⟩)
    (fun j v w3 => if j = 6 then True else v = V j)
    (fun L u w3 => (L 11 = false → u 11 = .string (bs l0)) ∧ Fr noB w w3 ∧ AlS (L 6) (u 6) 2 5 #[.int .u8 (oc.toNat : Int), .int .u8 ((UInt8.ofNat d.length).toNat : Int)] 0 none w3) (fun j => if j = 0 then z 81 else if j = 1 then z 82 else if j = 2 then z 83 else if j = 3 then z 84 else if j = 4 then z 85 else if j = 5 then z 86 else if j = 6 then z 87 else if j = 7 then z 88 else if j = 8 then z 89 else if j = 9 then z 90 else if j = 10 then z 91 else if j = 11 then .string (bs l0) else undef) ⟨fun _ => rfl, (Fr.refl _ _), AlS.false⟩ ?_ ?_
  · rintro L u w3 i o hcl hG hΦ ho hL hd K2 hK2
    match i, ho with
    | 0, ho =>
      simp at ho; subst ho
      clear hΦ hd
      obtain ⟨hI11, hG0, s6⟩ := hG
      have hnl11 : L 11 = false := by cases h : L 11 with | false => rfl | true => exact (by have h2 := (hcl.dep 10 0 (hcl.dep 11 10 h (by rfl)) (by rfl)); rw [hL] at h2; cases h2)
      have hr11 := hI11 hnl11
      have hx : ∃ y, u = (upd y 11 (.string (bs l0))) := ⟨u, by rw [← upd_self hr11]⟩
      clear hr11
      obtain ⟨y, rfl⟩ := hx
      simp only [upd, reduceIte, Nat.reduceEqDiff]
      go_simp
      exact hK2 _ _ v0.symm ⟨hI11, hG0, s6⟩ (fun _ _ _ h => h)
    | 1, ho =>
      simp at ho; subst ho
      clear hΦ hd
      obtain ⟨hI11, hG0, s6⟩ := hG
      go_simp
      exact hK2 _ _ v1.symm ⟨hI11, hG0, s6⟩ (fun _ _ _ h => h)
    | 2, ho =>
      simp at ho; subst ho
      have hu1 : u 1 = V 1 := hΦ 1 (hd ⟨1, .data⟩ (by simp) (by rfl))
      rw [v1] at hu1
      clear hΦ hd
      obtain ⟨hI11, hG0, s6⟩ := hG
      have hx : ∃ y, u = (upd y 1 (.pointer (some ⟨go, 0, none⟩))) := ⟨u, by rw [← upd_self hu1]⟩
      clear hu1
      obtain ⟨y, rfl⟩ := hx
      simp only [upd, reduceIte, Nat.reduceEqDiff]
      have hc0 := ((hpo).keep hG0 (fun x => x)).cells
      go_simp
      exact hK2 _ _ v2.symm ⟨hI11, hG0, s6⟩ (fun _ _ _ h => h)
    | 3, ho =>
      simp at ho; subst ho
      clear hΦ hd
      obtain ⟨hI11, hG0, s6⟩ := hG
      go_simp
      exact hK2 _ _ v3.symm ⟨hI11, hG0, s6⟩ (fun _ _ _ h => h)
    | 4, ho =>
      simp at ho; subst ho
      have hu3 : u 3 = V 3 := hΦ 3 (hd ⟨3, .data⟩ (by simp) (by rfl))
      rw [v3] at hu3
      clear hΦ hd
      obtain ⟨hI11, hG0, s6⟩ := hG
      have hx : ∃ y, u = (upd y 3 (.string (bs d))) := ⟨u, by rw [← upd_self hu3]⟩
      clear hu3
      obtain ⟨y, rfl⟩ := hx
      simp only [upd, reduceIte, Nat.reduceEqDiff]
      go_simp
      exact hK2 _ _ v4.symm ⟨hI11, hG0, s6⟩ (fun _ _ _ h => h)
    | 5, ho =>
      simp at ho; subst ho
      have hu4 : u 4 = V 4 := hΦ 4 (hd ⟨4, .data⟩ (by simp) (by rfl))
      rw [v4] at hu4
      clear hΦ hd
      obtain ⟨hI11, hG0, s6⟩ := hG
      have hx : ∃ y, u = (upd y 4 (.int .i64 (d.length : Int))) := ⟨u, by rw [← upd_self hu4]⟩
      clear hu4
      obtain ⟨y, rfl⟩ := hx
      simp only [upd, reduceIte, Nat.reduceEqDiff]
      have e1 : IntKind.u8.wrap (d.length : Int) = ((UInt8.ofNat d.length).toNat : Int) := wrap_u8_of d.length hd
      go_simp
      exact hK2 _ _ v5.symm ⟨hI11, hG0, s6⟩ (fun _ _ _ h => h)
    | 6, ho =>
      simp at ho; subst ho
      have hu2 : u 2 = V 2 := hΦ 2 (hd ⟨2, .data⟩ (by simp) (by rfl))
      rw [v2] at hu2
      have hu5 : u 5 = V 5 := hΦ 5 (hd ⟨5, .data⟩ (by simp) (by rfl))
      rw [v5] at hu5
      clear hΦ hd
      obtain ⟨hI11, hG0, s6⟩ := hG
      have hx : ∃ y, u = (upd (upd y 2 (.int .u8 (oc.toNat : Int))) 5 (.int .u8 ((UInt8.ofNat d.length).toNat : Int))) := ⟨u, by rw [← upd_self hu2, ← upd_self hu5]⟩
      clear hu2 hu5
      obtain ⟨y, rfl⟩ := hx
      simp only [upd, reduceIte, Nat.reduceEqDiff]
      go_simp
      exact hK2 _ _ trivial ⟨hI11, (hG0.alloc _), AlS.new0 w3 2 5 #[.int .u8 (oc.toNat : Int), .int .u8 ((UInt8.ofNat d.length).toNat : Int)]⟩ (fun _ _ _ h => h)
    | 7, ho =>
      simp at ho; subst ho
      have hl6 : L 6 = true := hd ⟨6, .data⟩ (by simp) (by rfl)
      clear hΦ hd
      obtain ⟨hI11, hG0, s6⟩ := hG
      obtain ⟨g6, hg6, hb6, -, -⟩ := s6 hl6
      have hx : ∃ y, u = (upd y 6 (.slice (some ⟨g6, 0, none⟩) 2 2)) := ⟨u, by rw [← upd_self hg6]⟩
      clear hg6
      obtain ⟨y, rfl⟩ := hx
      simp only [upd, reduceIte, Nat.reduceEqDiff]
      have hcv := run_str_of (P := Tryz.prog) w3 98 9 5 Tryz.underlying98 Tryz.underlying5 Tryz.underlying9 noB (some ⟨g6, 0, none⟩) 2 2 [oc, (UInt8.ofNat d.length)] (SlR.of_bk (n := 2) (size := 1) hb6 (fun x => x) rfl) (.inr ⟨_, _, rfl⟩)
      go_simp
      rw [← Ht0.out]
      exact hK2 _ _ v7.symm ⟨hI11, hG0, s6⟩ (fun _ _ _ h => h)
    | 8, ho =>
      simp at ho; subst ho
      clear hΦ hd
      obtain ⟨hI11, hG0, s6⟩ := hG
      go_simp
      exact hK2 _ _ v8.symm ⟨hI11, hG0, s6⟩ (fun _ _ _ h => h)
    | 9, ho =>
      simp at ho; subst ho
      have hu7 : u 7 = V 7 := hΦ 7 (hd ⟨7, .data⟩ (by simp) (by rfl))
      rw [v7] at hu7
      have hu8 : u 8 = V 8 := hΦ 8 (hd ⟨8, .data⟩ (by simp) (by rfl))
      rw [v8] at hu8
      clear hΦ hd
      obtain ⟨hI11, hG0, s6⟩ := hG
      have hx : ∃ y, u = (upd (upd y 7 (.string (bs t0))) 8 (.string (bs d))) := ⟨u, by rw [← upd_self hu7, ← upd_self hu8]⟩
      clear hu7 hu8
      obtain ⟨y, rfl⟩ := hx
      simp only [upd, reduceIte, Nat.reduceEqDiff]
      have hln : ¬ 9223372036854775807 < t0.length + d.length := by have l1 := Lt0.out; have l2 := Ld.out; omega
      go_simp
      rw [← Hs1.out]
      exact hK2 _ _ v9.symm ⟨hI11, hG0, s6⟩ (fun _ _ _ h => h)
    | 10, ho =>
      simp at ho; subst ho
      have hu0 : u 0 = V 0 := hΦ 0 (hd ⟨0, .data⟩ (by simp) (by rfl))
      rw [v0] at hu0
      have hu9 : u 9 = V 9 := hΦ 9 (hd ⟨9, .data⟩ (by simp) (by rfl))
      rw [v9] at hu9
      clear hΦ hd
      obtain ⟨hI11, hG0, s6⟩ := hG
      have hx : ∃ y, u = (upd (upd y 0 (.string (bs l0))) 9 (.string (bs s1))) := ⟨u, by rw [← upd_self hu0, ← upd_self hu9]⟩
      clear hu0 hu9
      obtain ⟨y, rfl⟩ := hx
      simp only [upd, reduceIte, Nat.reduceEqDiff]
      have hln : ¬ 9223372036854775807 < l0.length + s1.length := by have l1 := Ll0.out; have l2 := Ls1.out; omega
      go_simp
      rw [← Hs2.out]
      exact hK2 _ _ v10.symm ⟨hI11, hG0, s6⟩ (fun _ _ _ h => h)
    | 11, ho =>
      simp at ho; subst ho
      have hu10 : u 10 = V 10 := hΦ 10 (hd ⟨10, .data⟩ (by simp) (by rfl))
      rw [v10] at hu10
      clear hΦ hd
      obtain ⟨hI11, hG0, s6⟩ := hG
      have hx : ∃ y, u = (upd y 10 (.string (bs s2))) := ⟨u, by rw [← upd_self hu10]⟩
      clear hu10
      obtain ⟨y, rfl⟩ := hx
      simp only [upd, reduceIte, Nat.reduceEqDiff]
      go_simp
      exact hK2 _ _ v11.symm ⟨fun h => absurd (show (true : Bool) = false from h) (by decide), hG0, s6⟩ (fun _ _ _ h => h)
  · rintro u w3 hu L hall hG
    obtain ⟨hI11, hG0, s6⟩ := hG
    have ho4 : u 11 = V 11 := hu 11 (by decide)
    rw [v11] at ho4
    try rw [Hs2.out, Hs1.out, Ht0.out] at ho4
    exact HK.out _ _ ⟨rfl, rfl⟩ (KpU.cons (rfl) (KpU.cons (rfl) (KpU.cons (rfl) (KpU.cons (rfl) (KpU.cons (rfl) (KpU.cons (h6.symm) (KpU.cons (h7.symm) (KpU.cons (rfl) (KpU.cons (rfl) (KpU.cons (rfl) (KpU.cons (rfl) (KpU.cons (rfl) (KpU.cons (rfl) (KpU.cons (rfl) (KpU.cons (rfl) (KpU.cons (rfl) (KpU.cons (rfl) (KpU.cons (rfl) (KpU.cons (rfl) (KpU.cons (rfl) (KpU.cons (rfl) (KpU.cons (rfl) (KpU.cons (rfl) (KpU.cons (rfl) (KpU.cons (rfl) (KpU.cons (rfl) (KpU.cons (rfl) (KpU.cons (rfl) (KpU.cons (rfl) (KpU.cons (rfl) (KpU.cons (rfl) (KpU.cons (rfl) (KpU.cons (rfl) (KpU.cons (rfl) (KpU.cons (rfl) (KpU.cons (rfl) (KpU.cons (rfl) (KpU.cons (rfl) (KpU.cons (rfl) (KpU.cons (rfl) (KpU.cons (rfl) (KpU.cons (rfl) (KpU.cons (rfl) (KpU.cons (rfl) (KpU.cons (rfl) (KpU.cons (rfl) (KpU.cons (rfl) (KpU.cons (rfl) (KpU.cons (rfl) (KpU.cons (rfl) (KpU.cons (rfl) (KpU.cons (rfl) (KpU.cons (rfl) (KpU.cons (rfl) (KpU.cons (rfl) (KpU.cons (rfl) (KpU.cons (rfl) (KpU.cons (rfl) (KpU.cons (rfl) (KpU.cons (rfl) (KpU.cons (rfl) (KpU.cons (rfl) (KpU.cons (rfl) (KpU.cons (rfl) (KpU.cons (rfl) (KpU.cons (rfl) (KpU.cons (rfl) (KpU.cons (rfl) (KpU.cons (rfl) (KpU.cons (rfl) (KpU.cons (rfl) (KpU.cons (rfl) (KpU.cons (rfl) (KpU.cons (rfl) (KpU.cons (rfl) (KpU.cons (rfl) (KpU.cons (rfl) (KpU.cons (rfl) (KpU.cons (rfl) (KpU.cons (rfl) (KpU.cons (rfl) (KpU.cons (rfl) (KpU.cons (rfl) (KpU.cons (rfl) (KpU.cons (rfl) (KpU.cons (rfl) (KpU.cons (rfl) (KpU.cons (rfl) (KpU.nil _ _))))))))))))))))))))))))))))))))))))))))))))))))))))))))))))))))))))))))))))))))))))))))) ho4 hG0
end Go.Proofs.YtcbkaiakdhiloabGreatDoor
namespace Go.Proofs.YtcbkaiakdhiloabGreatDoor
open Go.RowKit Go.Proofs
attribute [local go_sem] bs_size bs_append bs_extract bs_toList
theorem refWriteDHCP (rp : Bool) (xid client yours next : Nat) (m0 m1 m2 m3 m4 m5 : UInt8) (os : List OptD) (Ao : Option Addr) (cap : Nat) (w : World)
    (hxid : xid < 4294967296) (hcl : client < 4294967296) (hyo : yours < 4294967296) (hnx : next < 4294967296) (hA : SlR w noB 2 Ao os.length (optC os)) (hwt : wtO os ≤ 2097152) :
    Calls Tryz.prog 217 #[.agg #[.bool rp, .int .u32 (xid : Int), .int .u32 (client : Int), .int .u32 (yours : Int), .int .u32 (next : Int), .int .u8 (m0.toNat : Int), .int .u8 (m1.toNat : Int), .int .u8 (m2.toNat : Int), .int .u8 (m3.toNat : Int), .int .u8 (m4.toNat : Int), .int .u8 (m5.toNat : Int), .slice Ao os.length cap]] w (strPost (wrDHCP rp xid client yours next [m0, m1, m2, m3, m4, m5] os) w) := by
  obtain ⟨n, hn⟩ : ∃ n, os.length = n := ⟨_, rfl⟩
  rw [hn] at hA ⊢
  have hpa := Bk.new w 75 #[.bool rp, .int .u32 (xid : Int), .int .u32 (client : Int), .int .u32 (yours : Int), .int .u32 (next : Int), .int .u8 (m0.toNat : Int), .int .u8 (m1.toNat : Int), .int .u8 (m2.toNat : Int), .int .u8 (m3.toNat : Int), .int .u8 (m4.toNat : Int), .int .u8 (m5.toNat : Int), .slice Ao n cap]
  have hpa0 := hpa.cells
  have hf0 : Fr noB w (w.alloc (.cells #[.bool rp, .int .u32 (xid : Int), .int .u32 (client : Int), .int .u32 (yours : Int), .int .u32 (next : Int), .int .u8 (m0.toNat : Int), .int .u8 (m1.toNat : Int), .int .u8 (m2.toNat : Int), .int .u8 (m3.toNat : Int), .int .u8 (m4.toNat : Int), .int .u8 (m5.toNat : Int), .slice Ao n cap] 75)) := (Fr.refl _ _).alloc _
  have hA1 := hA.keep hf0
  go_enter Tryz.func217, Tryz.ntmps217
  go_upto_if 9 with fail
  go_cut [4] from 8 (fun s4 wx => s4 = .string (bs (if rp then [2, 1, 6, 0] else [1, 1, 6, 0])) ∧ wx = w.alloc (.cells #[.bool rp, .int .u32 (xid : Int), .int .u32 (client : Int), .int .u32 (yours : Int), .int .u32 (next : Int), .int .u8 (m0.toNat : Int), .int .u8 (m1.toNat : Int), .int .u8 (m2.toNat : Int), .int .u8 (m3.toNat : Int), .int .u8 (m4.toNat : Int), .int .u8 (m5.toNat : Int), .slice Ao n cap] 75))
  case first =>
    cases rp
    · go_wp2_with fail
      go_meet
      case rel => exact ⟨rfl, rfl⟩
    · go_wp2_with fail
      go_meet
      case rel => exact ⟨rfl, rfl⟩
  case rest =>
  obtain ⟨rfl, rfl⟩ := hcut
  generalize w.alloc (.cells #[.bool rp, .int .u32 (xid : Int), .int .u32 (client : Int), .int .u32 (yours : Int), .int .u32 (next : Int), .int .u8 (m0.toNat : Int), .int .u8 (m1.toNat : Int), .int .u8 (m2.toNat : Int), .int .u8 (m3.toNat : Int), .int .u8 (m4.toNat : Int), .int .u8 (m5.toNat : Int), .slice Ao n cap] 75) = w1 at *
  obtain ⟨l1, hl1⟩ : ∃ l, (if rp then [2, 1, 6, 0] else [1, 1, 6, 0] : List UInt8) = l := ⟨_, rfl⟩
  have hn1 : l1.length = 4 := by rw [← hl1]; split <;> rfl
  rw [hl1]
  have Hl1 := Lib.hid hl1
  clear hl1
  have e2 : IntKind.i64.wrap (xid : Int) = xid := IntWalk.i64_in _ (by omega)
  have e2' : wrap64 (xid : Int) = xid := wr64 (by omega) (by omega)
  have hc00 : (⟨#[0, 0]⟩ : ByteArray) = bs [0, 0] := rfl
  go_wp2_with fail
  refine (refBig xid 4 w1 (by omega) (by omega)).mono ?_
  rintro e w2 ⟨rfl, hf2⟩
  have ht0 := big_length 4 xid
  obtain ⟨t0, ht⟩ : ∃ l, big 4 xid = l := ⟨_, rfl⟩
  rw [ht] at ht0
  rw [ht]
  have Ht := Lib.hid ht
  have hpa2 := hpa.keep hf2 (fun x => x)
  have hA2 := hA1.keep hf2
  have hF2 := hf0.none hf2
  have hpc2 := hpa2.cells
  clear ht hf2 hpa hpa0 hA1 hf0 e2 e2'
  go_upto_if 19 with fail
  go_cut [4] from 8 (fun s4 wx => s4 = .string (bs (l1 ++ (t0 ++ [0, 0]) ++ (if client = 0 then [128, 0] else [0, 0]))) ∧ wx = w2)
  case first =>
    have hc128 : (⟨#[128, 0]⟩ : ByteArray) = bs [128, 0] := rfl
    by_cases hc : client = 0
    · have hci : (client : Int) = 0 := by omega
      have HC := Lib.hid hc
      clear hc
      go_wp2_with fail
      go_meet
      case rel => exact ⟨by rw [if_pos HC.out]; simp, rfl⟩
    · have hci : ¬ (client : Int) = 0 := by omega
      have HC := Lib.hid hc
      clear hc
      go_wp2_with fail
      go_meet
      case rel => exact ⟨by rw [if_neg HC.out]; simp, rfl⟩
  case rest =>
  obtain ⟨rfl, rfl⟩ := hcut
  obtain ⟨l5, hl5⟩ : ∃ l, l1 ++ (t0 ++ [0, 0]) ++ (if client = 0 then [128, 0] else [0, 0]) = l := ⟨_, rfl⟩
  have hn5 : l5.length = 12 := by rw [← hl5]; simp only [List.length_append, hn1, ht0]; split <;> rfl
  rw [hl5]
  have Hl5 := Lib.hid hl5
  clear hl5 hpc2 hn1 ht0
  go_upto_region 8 with fail
  refine wp_at (c := regionOf Tryz.f217 8) (by kernel_rfl) (rdR8 w.heap.size rp xid client yours next n cap Ao m0 m1 m2 m3 m4 m5 l5 _ _ _ ⟨rfl, rfl⟩ rfl rfl hpa2 hcl hyo hnx (Lib.hid (by omega)) ?_)
  intro a8 w8 hs8 kp8 ho4 hf8
  have hhead : l5 ++ big 4 client ++ big 4 yours ++ big 4 next ++ big 4 0 ++ macB (m0, m1, m2, m3, m4, m5) ++ List.replicate (236 - List.length (α := UInt8) (l5 ++ big 4 client ++ big 4 yours ++ big 4 next ++ big 4 0 ++ macB (m0, m1, m2, m3, m4, m5))) (0 : UInt8) ++ [99, 130, 83, 99] = dhcHead rp xid client yours next [m0, m1, m2, m3, m4, m5] := by
    rw [← Hl5.out, ← Hl1.out, ← Ht.out]
    unfold dhcHead zeroTo
    have e0 : (if rp then [2, 1, 6, 0] else [1, 1, 6, 0] : List UInt8) ++ (big 4 xid ++ [0, 0]) ++ (if client = 0 then [128, 0] else [0, 0]) ++ big 4 client ++ big 4 yours ++ big 4 next ++ big 4 0 ++ macB (m0, m1, m2, m3, m4, m5) =
        [if rp then 2 else 1, 1, 6, 0] ++ big 4 xid ++ [0, 0] ++ (if client = 0 then [128, 0] else [0, 0]) ++ big 4 client ++ big 4 yours ++ big 4 next ++ big 4 0 ++ [m0, m1, m2, m3, m4, m5] := by
      cases rp <;> simp [macB]
    rw [e0]
  rw [hhead] at ho4
  obtain ⟨l9, hl9⟩ : ∃ l, dhcHead rp xid client yours next [m0, m1, m2, m3, m4, m5] = l := ⟨_, rfl⟩
  have hn9 : l9.length = 240 := by rw [← hl9]; exact dhcHead_length _ _ _ _ _ _ rfl
  rw [hl9] at ho4
  have Hl9 := Lib.hid hl9
  clear hl9 hhead Hl5 hn5 Hl1 Ht
  have hpa8 := hpa2.keep hf8 (fun x => x)
  have hA8 := hA2.keep hf8
  have hF8 := hF2.none hf8
  have hpc8 := hpa8.cells
  clear hpa2 hA2 hF2 hf8
  rw [kp8.eq_put (n := 100) [24, 25, 26, 27, 28, 29, 30, 31, 32, 33, 34, 35, 36, 37, 38, 39, 40, 41, 42, 43, 44, 4] ⟨rfl, rfl⟩ hs8 (by decide) (by decide)]
  simp only [List.foldl, Act.put, List.setIfInBounds_toArray, List.set_cons_succ, List.set_cons_zero, ho4]
  clear kp8 hs8 ho4
  generalize sl a8 = z8
  have hlw := wtO_len os
  go_wp2_with fail
  go_loopw [4, 48] (fun sv iv wr => ∃ (i : Nat), i ≤ n ∧ iv = .int .i64 (i : Int) ∧ sv = .string (bs (l9 ++ optsB (os.take i))) ∧ Fr noB w8 wr ∧ goodTo os i) (fun _ iv _ => n - (intOf iv).toNat)
  case atStart => exact ⟨0, by omega, rfl, by simp [optsB], Fr.refl _ _, fun j o h => absurd h (by omega)⟩
  case round =>
    obtain ⟨i, hi, rfl, rfl, hw, hgood⟩ := hrel
    have hbl : (l9 ++ optsB (os.take i)).length ≤ 20000000 := by
      have h1 := optsB_len (os.take i)
      have h2 := wtO_take os i
      rw [List.length_append]; omega
    obtain ⟨lb, hlb⟩ : ∃ lb, l9 ++ optsB (os.take i) = lb := ⟨_, rfl⟩
    rw [hlb] at hbl
    rw [hlb]
    have Hlb := Lib.hid hlb
    clear hlb
    by_cases hlt : i < n
    · obtain ⟨o, ho⟩ : ∃ o, os[i]? = some o := ⟨_, List.getElem?_eq_getElem (by omega)⟩
      obtain ⟨ad, rfl, c1, c2⟩ := (hA8.keep hw).optAt ho
      have hol := wtO_at os i o ho
      have Ho := Lib.hid ho
      have Hgood := Lib.hid hgood
      clear ho hgood hpc8
      have hfb : Fr noB w (wr.alloc (.cells #[.int .u8 (o.code.toNat : Int), .string (bs o.data)] 72)) := (hF8.none hw).alloc _
      have hfw : Fr noB w8 (wr.alloc (.cells #[.int .u8 (o.code.toNat : Int), .string (bs o.data)] 72)) := hw.alloc _
      have hpo := Bk.new wr 72 #[.int .u8 (o.code.toNat : Int), .string (bs o.data)]
      have Hfw := Lib.hid hfw
      have Hpo := Lib.hid hpo
      clear hfw hpo
      have hbadP : optBad o = true → wrDHCP rp xid client yours next [m0, m1, m2, m3, m4, m5] os = ([], 2) := by
        intro hb; unfold wrDHCP; rw [if_pos (List.any_eq_true.2 ⟨o, List.mem_of_getElem? Ho.out, hb⟩)]
      have HbadP := Lib.hid hbadP
      clear hbadP
      have hk : o.code = 0 ∨ o.code = 255 ∨ o.code = 52 ∨ (o.code ≠ 0 ∧ o.code ≠ 255 ∧ o.code ≠ 52) := by
        by_cases h1 : o.code = 0
        · exact .inl h1
        · by_cases h2 : o.code = 255
          · exact .inr (.inl h2)
          · by_cases h3 : o.code = 52
            · exact .inr (.inr (.inl h3))
            · exact .inr (.inr (.inr ⟨h1, h2, h3⟩))
      rcases hk with hk | hk | hk | ⟨k1, k2, k3⟩
      · have hki : (o.code.toNat : Int) = 0 := by rw [hk]; decide
        have Hno := Lib.hid (HbadP.out (by unfold optBad; rw [hk]; decide))
        rw [hki] at hfb
        clear hk HbadP
        go_wp2_with fail
        go_ret2
        exact ⟨by rw [Hno.out]; rfl, hfb⟩
      · have hki : (o.code.toNat : Int) = 255 := by rw [hk]; decide
        have Hno := Lib.hid (HbadP.out (by unfold optBad; rw [hk]; decide))
        rw [hki] at hfb
        clear hk HbadP
        go_wp2_with fail
        go_ret2
        exact ⟨by rw [Hno.out]; rfl, hfb⟩
      · have hki : (o.code.toNat : Int) = 52 := by rw [hk]; decide
        have Hno := Lib.hid (HbadP.out (by unfold optBad; rw [hk]; decide))
        rw [hki] at hfb
        clear hk HbadP
        go_wp2_with fail
        go_ret2
        exact ⟨by rw [Hno.out]; rfl, hfb⟩
      · have k1i : ((o.code.toNat : Int) == 0) = false := u8_ne k1
        have k2i : ((o.code.toNat : Int) == 255) = false := u8_ne k2
        have k3i : ((o.code.toNat : Int) == 52) = false := u8_ne k3
        have Hg1 : Hid (goodTo os (i + 1)) := Lib.hid (by
          intro j o' hj h2
          rcases Nat.lt_or_ge j i with h3 | h3
          · exact Hgood.out j o' h3 h2
          · obtain rfl : j = i := by omega
            rw [Ho.out] at h2; cases h2
            unfold optBad; simp [k1, k2, k3])
        clear k1 k2 k3 HbadP hfb
        go_wp2_with fail
        obtain ⟨go, hgo⟩ : ∃ go, wr.heap.size = go := ⟨_, rfl⟩
        rw [hgo] at Hpo
        rw [hgo]
        obtain ⟨w4, hw4⟩ : ∃ w4, wr.alloc (.cells #[.int .u8 (o.code.toNat : Int), .string (bs o.data)] 72) = w4 := ⟨_, rfl⟩
        rw [hw4] at Hfw Hpo
        rw [hw4]
        have hfw := Hfw.out
        have hpo := Hpo.out
        clear hgo hw4 Hfw Hpo c1 c2
        have hcl := chunk_len o.data.length o.code o.data (Nat.le_refl _)
        go_loopw [4, 7] (fun sv dv wx => ∃ (d l : List UInt8), sv = .string (bs l) ∧ dv = .string (bs d) ∧ Bk wx go 72 #[.int .u8 (o.code.toNat : Int), .string (bs o.data)] ∧ Fr noB w8 wx ∧
            l ++ chunk o.code d = lb ++ chunk o.code o.data ∧ d.length ≤ o.data.length) (fun _ dv _ => match dv with | .string s => s.size | _ => 0)
        case atStart => exact ⟨o.data, lb, rfl, rfl, hpo, hfw, rfl, Nat.le_refl _⟩
        case round =>
          obtain ⟨d, l, rfl, rfl, hpd, hfd, hld, hdl⟩ := hrel
          have hll : l.length ≤ 30000000 := by
            have h1 := congrArg List.length hld
            rw [List.length_append, List.length_append] at h1
            omega
          rcases Nat.lt_or_ge 255 d.length with h255 | h255
          · have h255i : (255 : Int) < (d.length : Int) := by omega
            go_upto_region 16 with fail
            refine wp_at (c := regionOf Tryz.f217 16) (by kernel_rfl) (rdR16 go o.code o.data d l _ _ _ ⟨rfl, rfl⟩ rfl rfl rfl hpd (by omega) (Lib.hid (by omega)) ?_)
            intro a17 w17 hs17 kp17 ho4 hf17
            have hpd2 := hpd.keep hf17 (fun x => x)
            have hfd2 := hfd.none hf17
            rw [kp17.eq_put (n := 100) [70, 71, 72, 73, 74, 75, 76, 77, 78, 4] ⟨rfl, rfl⟩ hs17 (by decide) (by decide)]
            simp only [List.foldl, Act.put, List.setIfInBounds_toArray, List.set_cons_succ, List.set_cons_zero, ho4]
            generalize sl a17 = z17
            go_wp2_with fail
            refine ⟨⟨d.drop 255, _, rfl, rfl, hpd2, hfd2, ?_, by rw [List.length_drop]; omega⟩, by simp [bs_size]; omega⟩
            rw [← hld, chunk_big o.code d h255]
            simp
          · have h255i : ¬ (255 : Int) < (d.length : Int) := by omega
            go_upto_region 18 with fail
            refine wp_at (c := regionOf Tryz.f217 18) (by kernel_rfl) (rdR18 go o.code o.data d l _ _ _ ⟨rfl, rfl⟩ rfl rfl rfl hpd (by omega) (Lib.hid (by omega)) (Lib.hid (by omega)) ?_)
            intro a17 w17 hs17 kp17 ho4 hf17
            have hfd2 := hfd.none hf17
            have e : l9 ++ optsB (os.take (i + 1)) = l ++ ([o.code, UInt8.ofNat d.length] ++ d) := by
              rw [optsB_succ Ho.out, ← List.append_assoc, Hlb.out, ← hld, chunk_small o.code d h255]
            rw [← e] at ho4
            rw [kp17.eq_put (n := 100) [81, 82, 83, 84, 85, 86, 87, 88, 89, 90, 91, 4] ⟨rfl, rfl⟩ hs17 (by decide) (by decide)]
            simp only [List.foldl, Act.put, List.setIfInBounds_toArray, List.set_cons_succ, List.set_cons_zero, ho4]
            generalize sl a17 = z17
            go_wp2_with fail
            exact ⟨⟨i + 1, by omega, by rw [Int.natCast_add]; rfl, rfl, hfd2, Hg1.out⟩, by simp only [intOf]; omega⟩
    · obtain rfl : i = n := by omega
      rw [List.take_of_length_le (by omega)] at Hlb
      have hg : os.any optBad = false := goodTo_any (by rw [hn]; exact hgood)
      have Hg := Lib.hid hg
      clear hg hgood
      have hc255 : (⟨#[255]⟩ : ByteArray) = bs [255] := rfl
      have hF9 := hF8.none hw
      go_wp2_with fail
      refine (refZero (lb ++ [255]) 300 wr (by simp; omega) (by omega)).mono ?_
      rintro e w21 ⟨rfl, hf21⟩
      have hfr := hF9.none hf21
      obtain ⟨lf, hlf⟩ : ∃ lf, dhcBody (dhcHead rp xid client yours next [m0, m1, m2, m3, m4, m5]) os = lf := ⟨_, rfl⟩
      have e10 : lb ++ [255] ++ List.replicate (300 - (lb ++ [255]).length) 0 = lf := by
        rw [← hlf, Hl9.out, ← Hlb.out]
        unfold dhcBody zeroTo optsB
        rfl
      have hsp : wrDHCP rp xid client yours next [m0, m1, m2, m3, m4, m5] os = if 1472 < lf.length then ([], 7) else (lf, 0) := by
        unfold wrDHCP
        rw [Hg.out, hlf]
        rfl
      have Hsp := Lib.hid hsp
      rw [e10]
      clear hlf hsp e10
      by_cases hlen : 1472 < lf.length
      · have hli : (1472 : Int) < (lf.length : Int) := by omega
        have Hr : Hid (wrDHCP rp xid client yours next [m0, m1, m2, m3, m4, m5] os = ([], 7)) := Lib.hid (by rw [Hsp.out, if_pos hlen])
        clear hlen
        go_wp2_with fail
        go_ret2
        exact ⟨by rw [Hr.out]; rfl, hfr⟩
      · have hli : ¬ (1472 : Int) < (lf.length : Int) := by omega
        have Hr : Hid (wrDHCP rp xid client yours next [m0, m1, m2, m3, m4, m5] os = (lf, 0)) := Lib.hid (by rw [Hsp.out, if_neg hlen])
        clear hlen
        go_wp2_with fail
        go_ret2
        exact ⟨by rw [Hr.out]; rfl, hfr⟩
end Go.Proofs.YtcbkaiakdhiloabGreatDoor
