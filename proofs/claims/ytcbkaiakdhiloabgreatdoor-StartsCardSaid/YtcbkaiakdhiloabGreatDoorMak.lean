/- Parts of the walk; written by programs, merged. -/
import Derived.Test.YtcbkaiakdhiloabGreatDoorMab
import Derived.Test.YtcbkaiakdhiloabGreatDoorMad
import Derived.Test.YtcbkaiakdhiloabGreatDoorMae
import Derived.Test.YtcbkaiakdhiloabGreatDoorMaf
import Derived.Test.YtcbkaiakdhiloabGreatDoorMag
import Derived.Test.YtcbkaiakdhiloabGreatDoorMai
import Derived.Test.YtcbkaiakdhiloabGreatDoorMaj
import Derived.Test.YtcbkaiakdhiloabGreatDoorProg
import Derived.Test.YtcbkaiakdhiloabGreatDoorShelf
import Derived.WalkKit
import Derived.WalkLawsBesides
import Derived.WalkSpells
import Derived.Deep.AppendLies
import Derived.Deep.DrawnRows
import Derived.Maps.AppendAt
import Derived.StillTailTactics
import Derived.Lib.Hide
import Derived.Lib.AppendStr
import Derived.Lib.Strings
import Derived.Laws.MakeOwn
import Derived.Laws.OwnMore
import Derived.Laws.BitsAllLaws
import Derived.Orders
import Derived.Deep.MidRow
import Derived.Deep.DeepMust
import Derived.Deep.RegionHeld3
import Derived.Deep.RegionLaw
import Derived.Deep.LoopGhost
import Derived.Deep.QuietTactic
import Derived.BigQuiet
import Derived.Deep.Cut
import Derived.Deep.CutRange
import Derived.Lib.ConvBytes
import Derived.Lib.LazyBuf
import Derived.Recover
import Derived.OrdersHeld
import Derived.Lib.MapLaws
import Derived.Lib.TrimAscii
import Derived.Lib.LaidTab
import Derived.Lib.ItoaNum
import Derived.Maps.Own
import Derived.Maps.OwnOps
import Derived.Maps.OwnSet
import Derived.Maps.Views
import Derived.Maps.RangeWalk
import Derived.Deep.CutBlock
set_option linter.unusedSimpArgs false
set_option linter.unusedVariables false
set_option maxRecDepth 20000
set_option maxHeartbeats 8000000
namespace Go.Proofs.YtcbkaiakdhiloabGreatDoor
open Go.RowKit Go.Proofs
attribute [local go_sem] bs_size bs_append bs_sub bs_toList
theorem refWriteUDP (fm tp fi ti : Nat) (ld : List UInt8) (w : World) (hfm : fm < 65536) (htp : tp < 65536) (hfi : fi < 4294967296) (hti : ti < 4294967296) (hld : ld.length ≤ 4611686018427387000) :
    Calls Tryz.prog 264 #[.agg #[.int .u16 (fm : Int), .int .u16 (tp : Int), .string (bs ld)], .int .u32 (fi : Int), .int .u32 (ti : Int)] w (strPost (wrUDP fm tp fi ti ld) w) := by
  have hpa := Bk.new w 42 #[.int .u16 (fm : Int), .int .u16 (tp : Int), .string (bs ld)]
  have hpa0 := hpa.cells
  have e8 : IntKind.i64.wrap (8 + (ld.length : Int)) = 8 + (ld.length : Int) := IntWalk.i64_in _ (by omega)
  have hf0 : Fr noB w (w.alloc (.cells #[.int .u16 (fm : Int), .int .u16 (tp : Int), .string (bs ld)] 42)) := (Fr.refl _ _).alloc _
  go_enter Tryz.func264, Tryz.ntmps264
  by_cases h1 : 1480 < 8 + ld.length
  · have hs : Hid (wrUDP fm tp fi ti ld = ([], 7)) := by unfold Hid wrUDP; rw [if_pos h1]
    have b1 : 1480 < 8 + (ld.length : Int) := by omega
    clear h1
    go_wp2_with fail
    go_ret2
    exact ⟨by rw [hs.out]; rfl, hf0⟩
  have b1 : ¬ 1480 < 8 + (ld.length : Int) := by omega
  have hs : Hid (wrUDP fm tp fi ti ld = (udpWith fm tp ld (udpSum fm tp fi ti ld), 0)) := by unfold Hid wrUDP; rw [if_neg h1]
  have hl2 : ld.length ≤ 1480 := by omega
  have Lld := Lib.hid hl2
  clear h1
  go_upto_if 16 with fail
  go_cut [6, 7] from 11 to 16 (fun a b wx => a = .string ⟨#[]⟩ ∧ b = .int .i64 0 ∧ wx = w.alloc (.cells #[.int .u16 (fm : Int), .int .u16 (tp : Int), .string (bs ld)] 42))
  case first =>
    go_wp2_with fail
    go_meet
    case rel => exact ⟨rfl, rfl, rfl⟩
  case rest =>
  obtain ⟨rfl, rfl, rfl⟩ := hcut
  clear hpa0
  go_upto_region 4 with fail
  generalize w.alloc (.cells #[.int .u16 (fm : Int), .int .u16 (tp : Int), .string (bs ld)] 42) = w1 at *
  go_cut [9] from 11 to 28 (fun a wx => a = .string (bs (udpA fm tp (8 + ld.length))) ∧ Fr noB w wx ∧ Bk wx w.heap.size 42 #[.int .u16 (fm : Int), .int .u16 (tp : Int), .string (bs ld)])
  case first =>
    obtain ⟨x1, Hx1⟩ : ∃ s : List UInt8, Hid (s = big 2 fm) := ⟨big 2 fm, Lib.hid rfl⟩
    obtain ⟨x2, Hx2⟩ : ∃ s : List UInt8, Hid (s = big 2 tp) := ⟨big 2 tp, Lib.hid rfl⟩
    obtain ⟨s1, Hs1⟩ : ∃ s : List UInt8, Hid (s = x1 ++ x2) := ⟨x1 ++ x2, Lib.hid rfl⟩
    obtain ⟨x3, Hx3⟩ : ∃ s : List UInt8, Hid (s = big 2 (8 + ld.length)) := ⟨big 2 (8 + ld.length), Lib.hid rfl⟩
    obtain ⟨s2, Hs2⟩ : ∃ s : List UInt8, Hid (s = s1 ++ x3) := ⟨s1 ++ x3, Lib.hid rfl⟩
    have Lx1 : Hid (x1.length ≤ 2) := by unfold Hid; rw [Hx1.out]; (simp [big_length, macB, bigs_length] <;> omega)
    have Lx2 : Hid (x2.length ≤ 2) := by have l_x1 := Lx1.out; unfold Hid; rw [Hx2.out]; (simp [big_length, macB, bigs_length] <;> omega)
    have Ls1 : Hid (s1.length ≤ 4) := by have l_x1 := Lx1.out; have l_x2 := Lx2.out; unfold Hid; rw [Hs1.out]; (simp [big_length, macB, bigs_length] <;> omega)
    have Lx3 : Hid (x3.length ≤ 2) := by have l_x1 := Lx1.out; have l_x2 := Lx2.out; have l_s1 := Ls1.out; unfold Hid; rw [Hx3.out]; (simp [big_length, macB, bigs_length] <;> omega)
    have Ls2 : Hid (s2.length ≤ 6) := by have l_x1 := Lx1.out; have l_x2 := Lx2.out; have l_s1 := Ls1.out; have l_x3 := Lx3.out; unfold Hid; rw [Hs2.out]; (simp [big_length, macB, bigs_length] <;> omega)
    obtain ⟨V, hV⟩ : ∃ V : Nat → Value, V = (fun j => match j with | 0 => .pointer (some ⟨w.heap.size, 0, none⟩) | 1 => .int .u16 (fm : Int) | 2 => .int .i64 (fm : Int) | 3 => .string (bs x1) | 4 => .pointer (some ⟨w.heap.size, 1, none⟩) | 5 => .int .u16 (tp : Int) | 6 => .int .i64 (tp : Int) | 7 => .string (bs x2) | 8 => .string (bs s1) | 9 => .int .i64 (8 + (ld.length : Int)) | 10 => .string (bs x3) | 11 => .string (bs s2) | 12 => .string (bs s2) | _ => undef) := ⟨_, rfl⟩
    have v0 : V 0 = .pointer (some ⟨w.heap.size, 0, none⟩) := congrFun hV 0
    have v1 : V 1 = .int .u16 (fm : Int) := congrFun hV 1
    have v2 : V 2 = .int .i64 (fm : Int) := congrFun hV 2
    have v3 : V 3 = .string (bs x1) := congrFun hV 3
    have v4 : V 4 = .pointer (some ⟨w.heap.size, 1, none⟩) := congrFun hV 4
    have v5 : V 5 = .int .u16 (tp : Int) := congrFun hV 5
    have v6 : V 6 = .int .i64 (tp : Int) := congrFun hV 6
    have v7 : V 7 = .string (bs x2) := congrFun hV 7
    have v8 : V 8 = .string (bs s1) := congrFun hV 8
    have v9 : V 9 = .int .i64 (8 + (ld.length : Int)) := congrFun hV 9
    have v10 : V 10 = .string (bs x3) := congrFun hV 10
    have v11 : V 11 = .string (bs s2) := congrFun hV 11
    have v12 : V 12 = .string (bs s2) := congrFun hV 12
    clear hV
    refine wp_region_ssau (by kernel_rfl) (by kernel_rfl) (by kernel_rfl)
      (fun u => ⟨#[.agg #[.int .u16 (fm : Int), .int .u16 (tp : Int), .string (bs ld)], .int .u32 (fi : Int), .int .u32 (ti : Int), .pointer (some ⟨w.heap.size, 0, none⟩), undef, undef, .string ⟨#[]⟩, .int .i64 0, .int .i64 (8 + (ld.length : Int)), u 12, undef, u11, u12, u13, u14, u15, u16, u 0, u 1, u 2, u 3, u 4, u 5, u 6, u 7, u 8, u 9, u 10, u 11, undef, undef, undef, undef, undef, undef, undef, undef, undef, undef, undef, undef, undef, undef, undef, undef, undef, undef, undef, undef], []⟩)
      (fun j v w3 => v = V j)
      (fun L u w3 => Fr noB w1 w3) (fun j => undef) ((Fr.refl _ _).drew) ?_ ?_
    · rintro L u w3 i o hG hΦ ho hL hd K hK
      match i, ho with
      | 0, ho =>
        simp at ho; subst ho
        clear hΦ hd
        go_simp
        exact hK _ _ v0.symm hG (fun _ _ _ h => h)
      | 1, ho =>
        simp at ho; subst ho
        have hu0 : u 0 = V 0 := hΦ 0 (hd ⟨0, .data⟩ (by simp) (by rfl))
        rw [v0] at hu0
        clear hΦ hd
        have hG0 := hG
        have hx : ∃ x, u = (upd x 0 (.pointer (some ⟨w.heap.size, 0, none⟩))) := ⟨u, by rw [← upd_self hu0]⟩
        clear hu0
        obtain ⟨x, rfl⟩ := hx
        simp only [upd, reduceIte, Nat.reduceEqDiff]
        have hc0 := ((hpa).keep hG0 (fun x => x)).cells
        go_simp
        exact hK _ _ v1.symm hG0 (fun _ _ _ h => h)
      | 2, ho =>
        simp at ho; subst ho
        have hu1 : u 1 = V 1 := hΦ 1 (hd ⟨1, .data⟩ (by simp) (by rfl))
        rw [v1] at hu1
        clear hΦ hd
        have hx : ∃ x, u = (upd x 1 (.int .u16 (fm : Int))) := ⟨u, by rw [← upd_self hu1]⟩
        clear hu1
        obtain ⟨x, rfl⟩ := hx
        simp only [upd, reduceIte, Nat.reduceEqDiff]
        have e2 : IntKind.i64.wrap (fm : Int) = fm := IntWalk.i64_in _ (by omega)
        have e2' : wrap64 (fm : Int) = fm := wr64 (by omega) (by omega)
        go_simp
        exact hK _ _ v2.symm hG (fun _ _ _ h => h)
      | 3, ho =>
        simp at ho; subst ho
        have hu2 : u 2 = V 2 := hΦ 2 (hd ⟨2, .data⟩ (by simp) (by rfl))
        rw [v2] at hu2
        clear hΦ hd
        have hG0 := hG
        have hx : ∃ x, u = (upd x 2 (.int .i64 (fm : Int))) := ⟨u, by rw [← upd_self hu2]⟩
        clear hu2
        obtain ⟨x, rfl⟩ := hx
        simp only [upd, reduceIte, Nat.reduceEqDiff]
        go_simp
        refine (refBig fm 2 w3 (by omega) (by omega)).mono ?_
        rintro e w4 ⟨rfl, hf4⟩
        rw [← Hx1.out]
        exact hK _ _ v3.symm (hG0.none hf4) (fun _ _ _ h => h)
      | 4, ho =>
        simp at ho; subst ho
        clear hΦ hd
        go_simp
        exact hK _ _ v4.symm hG (fun _ _ _ h => h)
      | 5, ho =>
        simp at ho; subst ho
        have hu4 : u 4 = V 4 := hΦ 4 (hd ⟨4, .data⟩ (by simp) (by rfl))
        rw [v4] at hu4
        clear hΦ hd
        have hG0 := hG
        have hx : ∃ x, u = (upd x 4 (.pointer (some ⟨w.heap.size, 1, none⟩))) := ⟨u, by rw [← upd_self hu4]⟩
        clear hu4
        obtain ⟨x, rfl⟩ := hx
        simp only [upd, reduceIte, Nat.reduceEqDiff]
        have hc0 := ((hpa).keep hG0 (fun x => x)).cells
        go_simp
        exact hK _ _ v5.symm hG0 (fun _ _ _ h => h)
      | 6, ho =>
        simp at ho; subst ho
        have hu5 : u 5 = V 5 := hΦ 5 (hd ⟨5, .data⟩ (by simp) (by rfl))
        rw [v5] at hu5
        clear hΦ hd
        have hx : ∃ x, u = (upd x 5 (.int .u16 (tp : Int))) := ⟨u, by rw [← upd_self hu5]⟩
        clear hu5
        obtain ⟨x, rfl⟩ := hx
        simp only [upd, reduceIte, Nat.reduceEqDiff]
        have e2 : IntKind.i64.wrap (tp : Int) = tp := IntWalk.i64_in _ (by omega)
        have e2' : wrap64 (tp : Int) = tp := wr64 (by omega) (by omega)
        go_simp
        exact hK _ _ v6.symm hG (fun _ _ _ h => h)
      | 7, ho =>
        simp at ho; subst ho
        have hu6 : u 6 = V 6 := hΦ 6 (hd ⟨6, .data⟩ (by simp) (by rfl))
        rw [v6] at hu6
        clear hΦ hd
        have hG0 := hG
        have hx : ∃ x, u = (upd x 6 (.int .i64 (tp : Int))) := ⟨u, by rw [← upd_self hu6]⟩
        clear hu6
        obtain ⟨x, rfl⟩ := hx
        simp only [upd, reduceIte, Nat.reduceEqDiff]
        go_simp
        refine (refBig tp 2 w3 (by omega) (by omega)).mono ?_
        rintro e w4 ⟨rfl, hf4⟩
        rw [← Hx2.out]
        exact hK _ _ v7.symm (hG0.none hf4) (fun _ _ _ h => h)
      | 8, ho =>
        simp at ho; subst ho
        have hu3 : u 3 = V 3 := hΦ 3 (hd ⟨3, .data⟩ (by simp) (by rfl))
        rw [v3] at hu3
        have hu7 : u 7 = V 7 := hΦ 7 (hd ⟨7, .data⟩ (by simp) (by rfl))
        rw [v7] at hu7
        clear hΦ hd
        have hx : ∃ x, u = (upd (upd x 3 (.string (bs x1))) 7 (.string (bs x2))) := ⟨u, by rw [← upd_self hu3, ← upd_self hu7]⟩
        clear hu3 hu7
        obtain ⟨x, rfl⟩ := hx
        simp only [upd, reduceIte, Nat.reduceEqDiff]
        have hln : ¬ 9223372036854775807 < x1.length + x2.length := by have l1 := Lx1.out; have l2 := Lx2.out; omega
        go_simp
        rw [← Hs1.out]
        exact hK _ _ v8.symm hG (fun _ _ _ h => h)
      | 9, ho =>
        simp at ho; subst ho
        clear hΦ hd
        go_simp
        exact hK _ _ v9.symm hG (fun _ _ _ h => h)
      | 10, ho =>
        simp at ho; subst ho
        have hu9 : u 9 = V 9 := hΦ 9 (hd ⟨9, .data⟩ (by simp) (by rfl))
        rw [v9] at hu9
        clear hΦ hd
        have hG0 := hG
        have hx : ∃ x, u = (upd x 9 (.int .i64 (8 + (ld.length : Int)))) := ⟨u, by rw [← upd_self hu9]⟩
        clear hu9
        obtain ⟨x, rfl⟩ := hx
        simp only [upd, reduceIte, Nat.reduceEqDiff]
        go_simp
        refine (refBigI (8 + (ld.length : Int)) 2 w3 (by omega) (by omega) (by omega)).mono ?_
        rintro e w4 ⟨rfl, hf4⟩
        rw [show (8 + (ld.length : Int)).toNat = 8 + ld.length by omega, ← Hx3.out]
        exact hK _ _ v10.symm (hG0.none hf4) (fun _ _ _ h => h)
      | 11, ho =>
        simp at ho; subst ho
        have hu8 : u 8 = V 8 := hΦ 8 (hd ⟨8, .data⟩ (by simp) (by rfl))
        rw [v8] at hu8
        have hu10 : u 10 = V 10 := hΦ 10 (hd ⟨10, .data⟩ (by simp) (by rfl))
        rw [v10] at hu10
        clear hΦ hd
        have hx : ∃ x, u = (upd (upd x 8 (.string (bs s1))) 10 (.string (bs x3))) := ⟨u, by rw [← upd_self hu8, ← upd_self hu10]⟩
        clear hu8 hu10
        obtain ⟨x, rfl⟩ := hx
        simp only [upd, reduceIte, Nat.reduceEqDiff]
        have hln : ¬ 9223372036854775807 < s1.length + x3.length := by have l1 := Ls1.out; have l2 := Lx3.out; omega
        go_simp
        rw [← Hs2.out]
        exact hK _ _ v11.symm hG (fun _ _ _ h => h)
      | 12, ho =>
        simp at ho; subst ho
        have hu11 : u 11 = V 11 := hΦ 11 (hd ⟨11, .data⟩ (by simp) (by rfl))
        rw [v11] at hu11
        clear hΦ hd
        have hx : ∃ x, u = (upd x 11 (.string (bs s2))) := ⟨u, by rw [← upd_self hu11]⟩
        clear hu11
        obtain ⟨x, rfl⟩ := hx
        simp only [upd, reduceIte, Nat.reduceEqDiff]
        go_simp
        exact hK _ _ v12.symm hG (fun _ _ _ h => h)
    · rintro u w3 hu L hall hG
      have hG0 := hG
      have h12 : u 12 = V 12 := hu 12 (by simp)
      rw [v12] at h12
      clear hu hall
      rw [h12]
      have hA : s2 = udpA fm tp (8 + ld.length) := by rw [Hs2.out, Hs1.out, Hx1.out, Hx2.out, Hx3.out]; rfl
      rw [hA]
      go_wp2_with fail
      go_meet
      case rel => exact ⟨rfl, hf0.none hG0, hpa.keep hG0 (fun x => x)⟩
  case rest =>
  obtain ⟨rfl, hf5, hpa5⟩ := hcut
  clear hf0 hpa w1
  obtain ⟨A1, HA1⟩ : ∃ A1, Hid (A1 = udpA fm tp (8 + ld.length)) := ⟨_, Lib.hid rfl⟩
  rw [← HA1.out]
  have LA1 : Hid (A1.length ≤ 6) := by unfold Hid; rw [HA1.out, udpA_length]; omega
  go_upto_region 5 with fail
  obtain ⟨w1, rfl⟩ : ∃ w1, w1 = wc := ⟨_, rfl⟩
  have hf0 := hf5
  have hpa := hpa5
  clear hf5 hpa5
  go_cut [10] from 11 to 39 (fun a wx => a = .int .i64 (udpSum0 fm tp fi ti ld : Int) ∧ Fr noB w wx ∧ Bk wx w.heap.size 42 #[.int .u16 (fm : Int), .int .u16 (tp : Int), .string (bs ld)])
  case first =>
    obtain ⟨y1, Hy1⟩ : ∃ s : List UInt8, Hid (s = besideB fi ti (8 + ld.length)) := ⟨besideB fi ti (8 + ld.length), Lib.hid rfl⟩
    obtain ⟨t1, Ht1⟩ : ∃ s : List UInt8, Hid (s = y1 ++ A1) := ⟨y1 ++ A1, Lib.hid rfl⟩
    obtain ⟨c1, Hc1⟩ : ∃ s : List UInt8, Hid (s = [0, 0]) := ⟨[0, 0], Lib.hid rfl⟩
    obtain ⟨t2, Ht2⟩ : ∃ s : List UInt8, Hid (s = t1 ++ c1) := ⟨t1 ++ c1, Lib.hid rfl⟩
    obtain ⟨t3, Ht3⟩ : ∃ s : List UInt8, Hid (s = t2 ++ ld) := ⟨t2 ++ ld, Lib.hid rfl⟩
    have Ly1 : Hid (y1.length ≤ 12) := by have lA1 := LA1.out; have lld := Lld.out; unfold Hid; rw [Hy1.out]; first | (rw [beside_length]; omega) | (rw [udpA_length]; omega) | (rw [udpWith_length]; omega) | (simp [big_length, macB, bigs_length] <;> omega)
    have Lt1 : Hid (t1.length ≤ 18) := by have lA1 := LA1.out; have lld := Lld.out; have l_y1 := Ly1.out; unfold Hid; rw [Ht1.out]; first | (rw [beside_length]; omega) | (rw [udpA_length]; omega) | (rw [udpWith_length]; omega) | (simp [big_length, macB, bigs_length] <;> omega)
    have Lc1 : Hid (c1.length ≤ 2) := by have lA1 := LA1.out; have lld := Lld.out; have l_y1 := Ly1.out; have l_t1 := Lt1.out; unfold Hid; rw [Hc1.out]; first | (rw [beside_length]; omega) | (rw [udpA_length]; omega) | (rw [udpWith_length]; omega) | (simp [big_length, macB, bigs_length] <;> omega)
    have Lt2 : Hid (t2.length ≤ 20) := by have lA1 := LA1.out; have lld := Lld.out; have l_y1 := Ly1.out; have l_t1 := Lt1.out; have l_c1 := Lc1.out; unfold Hid; rw [Ht2.out]; first | (rw [beside_length]; omega) | (rw [udpA_length]; omega) | (rw [udpWith_length]; omega) | (simp [big_length, macB, bigs_length] <;> omega)
    have Lt3 : Hid (t3.length ≤ 1500) := by have lA1 := LA1.out; have lld := Lld.out; have l_y1 := Ly1.out; have l_t1 := Lt1.out; have l_c1 := Lc1.out; have l_t2 := Lt2.out; unfold Hid; rw [Ht3.out]; first | (rw [beside_length]; omega) | (rw [udpA_length]; omega) | (rw [udpWith_length]; omega) | (simp [big_length, macB, bigs_length] <;> omega)
    obtain ⟨V, hV⟩ : ∃ V : Nat → Value, V = (fun j => match j with | 0 => .int .u32 (fi : Int) | 1 => .int .u32 (ti : Int) | 2 => .int .i64 (8 + (ld.length : Int)) | 3 => .string (bs y1) | 4 => .string (bs A1) | 5 => .string (bs t1) | 6 => .string (bs t2) | 7 => .pointer (some ⟨w.heap.size, 2, none⟩) | 8 => .string (bs ld) | 9 => .string (bs t3) | 10 => .int .i64 (check t3 : Int) | 11 => .int .i64 (check t3 : Int) | _ => undef) := ⟨_, rfl⟩
    have v0 : V 0 = .int .u32 (fi : Int) := congrFun hV 0
    have v1 : V 1 = .int .u32 (ti : Int) := congrFun hV 1
    have v2 : V 2 = .int .i64 (8 + (ld.length : Int)) := congrFun hV 2
    have v3 : V 3 = .string (bs y1) := congrFun hV 3
    have v4 : V 4 = .string (bs A1) := congrFun hV 4
    have v5 : V 5 = .string (bs t1) := congrFun hV 5
    have v6 : V 6 = .string (bs t2) := congrFun hV 6
    have v7 : V 7 = .pointer (some ⟨w.heap.size, 2, none⟩) := congrFun hV 7
    have v8 : V 8 = .string (bs ld) := congrFun hV 8
    have v9 : V 9 = .string (bs t3) := congrFun hV 9
    have v10 : V 10 = .int .i64 (check t3 : Int) := congrFun hV 10
    have v11 : V 11 = .int .i64 (check t3 : Int) := congrFun hV 11
    clear hV
    refine wp_region_ssau (by kernel_rfl) (by kernel_rfl) (by kernel_rfl)
      (fun u => ⟨#[.agg #[.int .u16 (fm : Int), .int .u16 (tp : Int), .string (bs ld)], .int .u32 (fi : Int), .int .u32 (ti : Int), .pointer (some ⟨w.heap.size, 0, none⟩), undef, undef, .string ⟨#[]⟩, .int .i64 0, .int .i64 (8 + (ld.length : Int)), .string (bs A1), u 11, u11, u12, u13, u14, u15, u16, u17, u18, u19, u20, u21, u22, u23, u24, u25, u26, u27, u28, u 0, u 1, u 2, u 3, u 4, u 5, u 6, u 7, u 8, u 9, u 10, undef, undef, undef, undef, undef, undef, undef, undef, undef], []⟩)
      (fun j v w3 => v = V j)
      (fun L u w3 => Fr noB w1 w3) (fun j => undef) ((Fr.refl _ _).drew) ?_ ?_
    · rintro L u w3 i o hG hΦ ho hL hd K hK
      match i, ho with
      | 0, ho =>
        simp at ho; subst ho
        clear hΦ hd
        go_simp
        exact hK _ _ v0.symm hG (fun _ _ _ h => h)
      | 1, ho =>
        simp at ho; subst ho
        clear hΦ hd
        go_simp
        exact hK _ _ v1.symm hG (fun _ _ _ h => h)
      | 2, ho =>
        simp at ho; subst ho
        clear hΦ hd
        go_simp
        exact hK _ _ v2.symm hG (fun _ _ _ h => h)
      | 3, ho =>
        simp at ho; subst ho
        have hu0 : u 0 = V 0 := hΦ 0 (hd ⟨0, .data⟩ (by simp) (by rfl))
        rw [v0] at hu0
        have hu1 : u 1 = V 1 := hΦ 1 (hd ⟨1, .data⟩ (by simp) (by rfl))
        rw [v1] at hu1
        have hu2 : u 2 = V 2 := hΦ 2 (hd ⟨2, .data⟩ (by simp) (by rfl))
        rw [v2] at hu2
        clear hΦ hd
        have hG0 := hG
        have hx : ∃ x, u = (upd (upd (upd x 0 (.int .u32 (fi : Int))) 1 (.int .u32 (ti : Int))) 2 (.int .i64 (8 + (ld.length : Int)))) := ⟨u, by rw [← upd_self hu0, ← upd_self hu1, ← upd_self hu2]⟩
        clear hu0 hu1 hu2
        obtain ⟨x, rfl⟩ := hx
        simp only [upd, reduceIte, Nat.reduceEqDiff]
        go_simp
        refine (refBeside fi ti (8 + (ld.length : Int)) w3 hfi hti (by omega) (by omega)).mono ?_
        rintro e w4 ⟨rfl, hf4⟩
        rw [show (8 + (ld.length : Int)).toNat = 8 + ld.length by omega, ← Hy1.out]
        exact hK _ _ v3.symm (hG0.none hf4) (fun _ _ _ h => h)
      | 4, ho =>
        simp at ho; subst ho
        clear hΦ hd
        go_simp
        exact hK _ _ v4.symm hG (fun _ _ _ h => h)
      | 5, ho =>
        simp at ho; subst ho
        have hu3 : u 3 = V 3 := hΦ 3 (hd ⟨3, .data⟩ (by simp) (by rfl))
        rw [v3] at hu3
        have hu4 : u 4 = V 4 := hΦ 4 (hd ⟨4, .data⟩ (by simp) (by rfl))
        rw [v4] at hu4
        clear hΦ hd
        have hx : ∃ x, u = (upd (upd x 3 (.string (bs y1))) 4 (.string (bs A1))) := ⟨u, by rw [← upd_self hu3, ← upd_self hu4]⟩
        clear hu3 hu4
        obtain ⟨x, rfl⟩ := hx
        simp only [upd, reduceIte, Nat.reduceEqDiff]
        have hln : ¬ 9223372036854775807 < y1.length + A1.length := by have l1 := Ly1.out; have l2 := LA1.out; omega
        go_simp
        rw [← Ht1.out]
        exact hK _ _ v5.symm hG (fun _ _ _ h => h)
      | 6, ho =>
        simp at ho; subst ho
        have hu5 : u 5 = V 5 := hΦ 5 (hd ⟨5, .data⟩ (by simp) (by rfl))
        rw [v5] at hu5
        clear hΦ hd
        have hx : ∃ x, u = (upd x 5 (.string (bs t1))) := ⟨u, by rw [← upd_self hu5]⟩
        clear hu5
        obtain ⟨x, rfl⟩ := hx
        simp only [upd, reduceIte, Nat.reduceEqDiff]
        have hln : ¬ 9223372036854775807 < t1.length + c1.length := by have l1 := Lt1.out; have l2 := Lc1.out; omega
        have hcs : (⟨#[0, 0]⟩ : ByteArray) = bs c1 := by rw [Hc1.out]; rfl
        go_simp
        rw [← Ht2.out]
        exact hK _ _ v6.symm hG (fun _ _ _ h => h)
      | 7, ho =>
        simp at ho; subst ho
        clear hΦ hd
        go_simp
        exact hK _ _ v7.symm hG (fun _ _ _ h => h)
      | 8, ho =>
        simp at ho; subst ho
        have hu7 : u 7 = V 7 := hΦ 7 (hd ⟨7, .data⟩ (by simp) (by rfl))
        rw [v7] at hu7
        clear hΦ hd
        have hG0 := hG
        have hx : ∃ x, u = (upd x 7 (.pointer (some ⟨w.heap.size, 2, none⟩))) := ⟨u, by rw [← upd_self hu7]⟩
        clear hu7
        obtain ⟨x, rfl⟩ := hx
        simp only [upd, reduceIte, Nat.reduceEqDiff]
        have hc0 := ((hpa).keep hG0 (fun x => x)).cells
        go_simp
        exact hK _ _ v8.symm hG0 (fun _ _ _ h => h)
      | 9, ho =>
        simp at ho; subst ho
        have hu6 : u 6 = V 6 := hΦ 6 (hd ⟨6, .data⟩ (by simp) (by rfl))
        rw [v6] at hu6
        have hu8 : u 8 = V 8 := hΦ 8 (hd ⟨8, .data⟩ (by simp) (by rfl))
        rw [v8] at hu8
        clear hΦ hd
        have hx : ∃ x, u = (upd (upd x 6 (.string (bs t2))) 8 (.string (bs ld))) := ⟨u, by rw [← upd_self hu6, ← upd_self hu8]⟩
        clear hu6 hu8
        obtain ⟨x, rfl⟩ := hx
        simp only [upd, reduceIte, Nat.reduceEqDiff]
        have hln : ¬ 9223372036854775807 < t2.length + ld.length := by have l1 := Lt2.out; have l2 := Lld.out; omega
        go_simp
        rw [← Ht3.out]
        exact hK _ _ v9.symm hG (fun _ _ _ h => h)
      | 10, ho =>
        simp at ho; subst ho
        have hu9 : u 9 = V 9 := hΦ 9 (hd ⟨9, .data⟩ (by simp) (by rfl))
        rw [v9] at hu9
        clear hΦ hd
        have hG0 := hG
        have hx : ∃ x, u = (upd x 9 (.string (bs t3))) := ⟨u, by rw [← upd_self hu9]⟩
        clear hu9
        obtain ⟨x, rfl⟩ := hx
        simp only [upd, reduceIte, Nat.reduceEqDiff]
        go_simp
        refine (refCheck_any t3 w3 (by have := Lt3.out; omega)).mono ?_
        rintro e w4 ⟨rfl, hf4⟩
        exact hK _ _ v10.symm (hG0.none hf4) (fun _ _ _ h => h)
      | 11, ho =>
        simp at ho; subst ho
        have hu10 : u 10 = V 10 := hΦ 10 (hd ⟨10, .data⟩ (by simp) (by rfl))
        rw [v10] at hu10
        clear hΦ hd
        have hx : ∃ x, u = (upd x 10 (.int .i64 (check t3 : Int))) := ⟨u, by rw [← upd_self hu10]⟩
        clear hu10
        obtain ⟨x, rfl⟩ := hx
        simp only [upd, reduceIte, Nat.reduceEqDiff]
        go_simp
        exact hK _ _ v11.symm hG (fun _ _ _ h => h)
    · rintro u w3 hu L hall hG
      have hG0 := hG
      have h11 : u 11 = V 11 := hu 11 (by simp)
      rw [v11] at h11
      clear hu hall
      rw [h11]
      have hA : check t3 = udpSum0 fm tp fi ti ld := by rw [Ht3.out, Ht2.out, Ht1.out, Hc1.out, Hy1.out, HA1.out]; rfl
      rw [hA]
      generalize udpSum0 fm tp fi ti ld = R at *
      go_wp2_with fail
      go_meet
      case rel => exact ⟨rfl, hf0.none hG0, hpa.keep hG0 (fun x => x)⟩
  case rest =>
  obtain ⟨rfl, hf5, hpa5⟩ := hcut
  clear hf0 hpa w1
  have hu0 : Hid (udpSum fm tp fi ti ld = if udpSum0 fm tp fi ti ld = 0 then 65535 else udpSum0 fm tp fi ti ld) := rfl
  generalize udpSum0 fm tp fi ti ld = s0 at *
  obtain ⟨sm, Hsm⟩ : ∃ sm, Hid (sm = udpSum fm tp fi ti ld) := ⟨_, Lib.hid rfl⟩
  have Lsm : Hid (sm ≤ 65535) := by unfold Hid; rw [Hsm.out]; exact udpSum_le _ _ _ _ _
  go_upto_if 41 with fail
  go_cut [10] from 11 to 41 (fun a wx => a = .int .i64 (sm : Int) ∧ wx = wc)
  case first =>
    by_cases h0 : s0 = 0
    · have b0 : ((s0 : Int) == 0) = true := by simp; omega
      have hsm : Hid (sm = 65535) := by unfold Hid; rw [Hsm.out, hu0.out, if_pos h0]
      clear h0
      rw [b0]
      go_wp2_with fail
      go_meet
      case rel => exact ⟨by rw [hsm.out]; rfl, rfl⟩
    · have b0 : ((s0 : Int) == 0) = false := by simp; omega
      have hsm : Hid (sm = s0) := by unfold Hid; rw [Hsm.out, hu0.out, if_neg h0]
      clear h0
      rw [b0]
      go_wp2_with fail
      go_meet
      case rel => exact ⟨by rw [hsm.out], rfl⟩
  case rest =>
  obtain ⟨rfl, rfl⟩ := hcut
  obtain ⟨w1, rfl⟩ : ∃ w1, w1 = wc := ⟨_, rfl⟩
  have hf0 := hf5
  have hpa := hpa5
  clear hf5 hpa5
  go_upto_region 8 with fail
  obtain ⟨x4, Hx4⟩ : ∃ s : List UInt8, Hid (s = big 2 sm) := ⟨big 2 sm, Lib.hid rfl⟩
  obtain ⟨p1, Hp1⟩ : ∃ s : List UInt8, Hid (s = A1 ++ x4) := ⟨A1 ++ x4, Lib.hid rfl⟩
  obtain ⟨p2, Hp2⟩ : ∃ s : List UInt8, Hid (s = p1 ++ ld) := ⟨p1 ++ ld, Lib.hid rfl⟩
  have Lx4 : Hid (x4.length ≤ 2) := by have lA1 := LA1.out; have lld := Lld.out; unfold Hid; rw [Hx4.out]; first | (rw [beside_length]; omega) | (rw [udpA_length]; omega) | (rw [udpWith_length]; omega) | (simp [big_length, macB, bigs_length] <;> omega)
  have Lp1 : Hid (p1.length ≤ 8) := by have lA1 := LA1.out; have lld := Lld.out; have l_x4 := Lx4.out; unfold Hid; rw [Hp1.out]; first | (rw [beside_length]; omega) | (rw [udpA_length]; omega) | (rw [udpWith_length]; omega) | (simp [big_length, macB, bigs_length] <;> omega)
  have Lp2 : Hid (p2.length ≤ 1488) := by have lA1 := LA1.out; have lld := Lld.out; have l_x4 := Lx4.out; have l_p1 := Lp1.out; unfold Hid; rw [Hp2.out]; first | (rw [beside_length]; omega) | (rw [udpA_length]; omega) | (rw [udpWith_length]; omega) | (simp [big_length, macB, bigs_length] <;> omega)
  obtain ⟨V, hV⟩ : ∃ V : Nat → Value, V = (fun j => match j with | 0 => .string (bs A1) | 1 => .int .i64 (sm : Int) | 2 => .string (bs x4) | 3 => .string (bs p1) | 4 => .pointer (some ⟨w.heap.size, 2, none⟩) | 5 => .string (bs ld) | 6 => .string (bs p2) | 7 => .string (bs p2) | 8 => .int .i64 0 | _ => undef) := ⟨_, rfl⟩
  have v0 : V 0 = .string (bs A1) := congrFun hV 0
  have v1 : V 1 = .int .i64 (sm : Int) := congrFun hV 1
  have v2 : V 2 = .string (bs x4) := congrFun hV 2
  have v3 : V 3 = .string (bs p1) := congrFun hV 3
  have v4 : V 4 = .pointer (some ⟨w.heap.size, 2, none⟩) := congrFun hV 4
  have v5 : V 5 = .string (bs ld) := congrFun hV 5
  have v6 : V 6 = .string (bs p2) := congrFun hV 6
  have v7 : V 7 = .string (bs p2) := congrFun hV 7
  have v8 : V 8 = .int .i64 0 := congrFun hV 8
  clear hV
  refine wp_region_ssau (by kernel_rfl) (by kernel_rfl) (by kernel_rfl)
    (fun u => ⟨#[.agg #[.int .u16 (fm : Int), .int .u16 (tp : Int), .string (bs ld)], .int .u32 (fi : Int), .int .u32 (ti : Int), .pointer (some ⟨w.heap.size, 0, none⟩), undef, undef, u 7, u 8, .int .i64 (8 + (ld.length : Int)), .string (bs A1), .int .i64 (sm : Int), u11, u12, u13, u14, u15, u16, u17, u18, u19, u20, u21, u22, u23, u24, u25, u26, u27, u28, u29, u30, u31, u32, u33, u34, u35, u36, u37, u38, u39, u40, u41, u 0, u 1, u 2, u 3, u 4, u 5, u 6], []⟩)
    (fun j v w3 => v = V j)
    (fun L u w3 => Fr noB w1 w3) (fun j => if j = 7 then .string ⟨#[]⟩ else if j = 8 then .int .i64 0 else undef) ((Fr.refl _ _).drew) ?_ ?_
  · rintro L u w3 i o hG hΦ ho hL hd K hK
    match i, ho with
    | 0, ho =>
      simp at ho; subst ho
      clear hΦ hd
      go_simp
      exact hK _ _ v0.symm hG (fun _ _ _ h => h)
    | 1, ho =>
      simp at ho; subst ho
      clear hΦ hd
      go_simp
      exact hK _ _ v1.symm hG (fun _ _ _ h => h)
    | 2, ho =>
      simp at ho; subst ho
      have hu1 : u 1 = V 1 := hΦ 1 (hd ⟨1, .data⟩ (by simp) (by rfl))
      rw [v1] at hu1
      clear hΦ hd
      have hG0 := hG
      have hx : ∃ x, u = (upd x 1 (.int .i64 (sm : Int))) := ⟨u, by rw [← upd_self hu1]⟩
      clear hu1
      obtain ⟨x, rfl⟩ := hx
      simp only [upd, reduceIte, Nat.reduceEqDiff]
      go_simp
      refine (refBig sm 2 w3 (by have := Lsm.out; omega) (by omega)).mono ?_
      rintro e w4 ⟨rfl, hf4⟩
      rw [← Hx4.out]
      exact hK _ _ v2.symm (hG0.none hf4) (fun _ _ _ h => h)
    | 3, ho =>
      simp at ho; subst ho
      have hu0 : u 0 = V 0 := hΦ 0 (hd ⟨0, .data⟩ (by simp) (by rfl))
      rw [v0] at hu0
      have hu2 : u 2 = V 2 := hΦ 2 (hd ⟨2, .data⟩ (by simp) (by rfl))
      rw [v2] at hu2
      clear hΦ hd
      have hx : ∃ x, u = (upd (upd x 0 (.string (bs A1))) 2 (.string (bs x4))) := ⟨u, by rw [← upd_self hu0, ← upd_self hu2]⟩
      clear hu0 hu2
      obtain ⟨x, rfl⟩ := hx
      simp only [upd, reduceIte, Nat.reduceEqDiff]
      have hln : ¬ 9223372036854775807 < A1.length + x4.length := by have l1 := LA1.out; have l2 := Lx4.out; omega
      go_simp
      rw [← Hp1.out]
      exact hK _ _ v3.symm hG (fun _ _ _ h => h)
    | 4, ho =>
      simp at ho; subst ho
      clear hΦ hd
      go_simp
      exact hK _ _ v4.symm hG (fun _ _ _ h => h)
    | 5, ho =>
      simp at ho; subst ho
      have hu4 : u 4 = V 4 := hΦ 4 (hd ⟨4, .data⟩ (by simp) (by rfl))
      rw [v4] at hu4
      clear hΦ hd
      have hG0 := hG
      have hx : ∃ x, u = (upd x 4 (.pointer (some ⟨w.heap.size, 2, none⟩))) := ⟨u, by rw [← upd_self hu4]⟩
      clear hu4
      obtain ⟨x, rfl⟩ := hx
      simp only [upd, reduceIte, Nat.reduceEqDiff]
      have hc0 := ((hpa).keep hG0 (fun x => x)).cells
      go_simp
      exact hK _ _ v5.symm hG0 (fun _ _ _ h => h)
    | 6, ho =>
      simp at ho; subst ho
      have hu3 : u 3 = V 3 := hΦ 3 (hd ⟨3, .data⟩ (by simp) (by rfl))
      rw [v3] at hu3
      have hu5 : u 5 = V 5 := hΦ 5 (hd ⟨5, .data⟩ (by simp) (by rfl))
      rw [v5] at hu5
      clear hΦ hd
      have hx : ∃ x, u = (upd (upd x 3 (.string (bs p1))) 5 (.string (bs ld))) := ⟨u, by rw [← upd_self hu3, ← upd_self hu5]⟩
      clear hu3 hu5
      obtain ⟨x, rfl⟩ := hx
      simp only [upd, reduceIte, Nat.reduceEqDiff]
      have hln : ¬ 9223372036854775807 < p1.length + ld.length := by have l1 := Lp1.out; have l2 := Lld.out; omega
      go_simp
      rw [← Hp2.out]
      exact hK _ _ v6.symm hG (fun _ _ _ h => h)
    | 7, ho =>
      simp at ho; subst ho
      have hu6 : u 6 = V 6 := hΦ 6 (hd ⟨6, .data⟩ (by simp) (by rfl))
      rw [v6] at hu6
      clear hΦ hd
      have hx : ∃ x, u = (upd x 6 (.string (bs p2))) := ⟨u, by rw [← upd_self hu6]⟩
      clear hu6
      obtain ⟨x, rfl⟩ := hx
      simp only [upd, reduceIte, Nat.reduceEqDiff]
      go_simp
      exact hK _ _ v7.symm hG (fun _ _ _ h => h)
    | 8, ho =>
      simp at ho; subst ho
      clear hΦ hd
      go_simp
      exact hK _ _ v8.symm hG (fun _ _ _ h => h)
  · rintro u w3 hu L hall hG
    have hG0 := hG
    have h7 : u 7 = V 7 := hu 7 (by simp)
    rw [v7] at h7
    have h8 : u 8 = V 8 := hu 8 (by simp)
    rw [v8] at h8
    clear hu hall
    rw [h7, h8]
    have hfr := hf0.none hG0
    have hA : p2 = udpWith fm tp ld (udpSum fm tp fi ti ld) := by rw [Hp2.out, Hp1.out, Hx4.out, Hsm.out, HA1.out]; rfl
    rw [hA]
    clear hA
    generalize udpWith fm tp ld (udpSum fm tp fi ti ld) = R at *
    go_wp2_with fail
    go_ret2
    exact ⟨by rw [hs.out]; rfl, hfr⟩
end Go.Proofs.YtcbkaiakdhiloabGreatDoor
set_option maxRecDepth 20000
namespace Go.Proofs.YtcbkaiakdhiloabGreatDoor
open Go.RowKit Go.Proofs
attribute [local go_sem] bs_size bs_append bs_extract bs_toList
theorem modAddress (p T : Nat) (M : MLay) (s : St) (w : World) (h : ModelAt w p T M s) :
    Calls Tryz.prog 154 #[.pointer (some ⟨p, 0, none⟩)] w fun e w' => e = .returned (.int .u32 (s.address : Int)) ∧ w' = w := by
  have c22 := h.g22
  have c24 := h.g24
  unfold St.address
  by_cases h4 : 4 ≤ s.lease
  · have e4 : ¬ (s.lease : Int) < 4 := by omega
    rw [if_pos h4]; clear h4
    go_enter Tryz.func154, Tryz.ntmps154
    go_wp2_with fail
    go_ret
    exact ⟨rfl, rfl⟩
  · have e4 : (s.lease : Int) < 4 := by omega
    rw [if_neg h4]; clear h4
    go_enter Tryz.func154, Tryz.ntmps154
    go_wp2_with fail
    go_ret
    exact ⟨rfl, rfl⟩
theorem modOver (p T : Nat) (M : MLay) (s : St) (w : World) (h : ModelAt w p T M s) :
    Calls Tryz.prog 146 #[.pointer (some ⟨p, 0, none⟩)] w fun e w' => e = .returned (.bool s.over) ∧ w' = w := by
  have c34 := h.g34
  unfold St.over
  by_cases h3 : s.phase = 3
  · have e3 : (s.phase : Int) = 3 := by omega
    have e4 : (s.phase == 3 || s.phase == 4) = true := by simp [h3]
    rw [e4]; clear h3 e4
    go_enter Tryz.func146, Tryz.ntmps146
    go_wp2_with fail
    go_ret
    exact ⟨rfl, rfl⟩
  · have e3 : ((s.phase : Int) == 3) = false := by rw [beq_eq_false_iff_ne]; omega
    have e5 : (s.phase == 3 || s.phase == 4) = ((s.phase : Int) == 4) := by rw [Bool.eq_iff_iff]; simp; omega
    rw [e5]; clear h3 e5
    go_enter Tryz.func146, Tryz.ntmps146
    go_wp2_with fail
    go_ret
    exact ⟨rfl, rfl⟩
def mwF (u : Nat → Value) : Act := ⟨#[u 0, u 1, u 2, u 3, u 4, u 5, u 6, u 7, u 8, u 9, u 10, u 11, u 12, u 13, u 14, u 15, u 16, u 17, u 18, u 19, u 20], []⟩
set_option maxRecDepth 100000 in
theorem mwF_eq (u : Nat → Value) : mwF u = frN 21 u := rfl
theorem mwF_of {a : Act} (h : Sz 21 a) : a = mwF (sl a) := h.eq.trans (mwF_eq _).symm
theorem mwR0  (a : Act) (w : World) (K : Exit → Act → World → Prop) (hs : Sz 21 a)
     
    (hK : ∀ a' w', Sz 21 a' → Kp [0, 1, 5] a a' → w' = w → K .normal a' w') :
    (regionOf Tryz.f150 0).wp Tryz.prog K a w := by
  unfold Kp at hK; rw [mwF_of hs]; clear hs; generalize sl a = u at *; clear a; have HK := Lib.hid hK; clear hK; conv => arg 2; whnf
  simp only [mwF]
  go_wp2_with fail
  exact HK.out _ _  ⟨rfl, rfl⟩ (Kc rfl (Kc rfl (Kc rfl (Kn _ _))))  rfl
theorem mwR1  (a : Act) (w : World) (K : Exit → Act → World → Prop) (hs : Sz 21 a)
     
    (hK : ∀ a' w', Sz 21 a' → Kp [0, 1, 4] a a' → sl a' 5 = .int .i64 2 → w' = w → K .normal a' w') :
    (regionOf Tryz.f150 1).wp Tryz.prog K a w := by
  unfold Kp at hK; rw [mwF_of hs]; clear hs; generalize sl a = u at *; clear a; have HK := Lib.hid hK; clear hK; conv => arg 2; whnf
  simp only [mwF]
  go_wp2_with fail
  exact HK.out _ _  ⟨rfl, rfl⟩ (Kc rfl (Kc rfl (Kc rfl (Kn _ _)))) (rfl) rfl
theorem mwR2 (k : Nat) (a : Act) (w : World) (K : Exit → Act → World → Prop) (hs : Sz 21 a)
    (h1 : sl a 1 = .int .i64 (k : Int)) 
    (hK : ∀ a' w', Sz 21 a' → Kp [0, 1, 4, 5] a a' → sl a' 7 = .bool (decide (0 < k)) → w' = w → K .normal a' w') :
    (regionOf Tryz.f150 2).wp Tryz.prog K a w := by
  unfold Kp at hK; rw [mwF_of hs]; clear hs; generalize sl a = u at *; clear a; have HK := Lib.hid hK; clear hK; conv => arg 2; whnf
  simp only [mwF, h1]
  go_wp2_with fail
  exact HK.out _ _  ⟨rfl, rfl⟩ (Kc rfl (Kc h1.symm (Kc rfl (Kc rfl (Kn _ _))))) (by simp [sl]) rfl
theorem mwR4 (n m : Nat) (a : Act) (w : World) (K : Exit → Act → World → Prop) (hs : Sz 21 a)
    (h5 : sl a 5 = .int .i64 (n : Int)) (q : IntKind.i64.wrap (2 * (n : Int)) = (m : Int))
    (hK : ∀ a' w', Sz 21 a' → Kp [0, 1, 4] a a' → sl a' 5 = .int .i64 (m : Int) → w' = w → K .normal a' w') :
    (regionOf Tryz.f150 4).wp Tryz.prog K a w := by
  unfold Kp at hK; rw [mwF_of hs]; clear hs; generalize sl a = u at *; clear a; have HK := Lib.hid hK; clear hK; conv => arg 2; whnf
  simp only [mwF, h5]
  clear h5
  go_wp2_with fail
  exact HK.out _ _  ⟨rfl, rfl⟩ (Kc rfl (Kc rfl (Kc rfl (Kn _ _)))) (rfl) rfl
theorem mwR3 (k j : Nat) (a : Act) (w : World) (K : Exit → Act → World → Prop) (hs : Sz 21 a)
    (h1 : sl a 1 = .int .i64 (k : Int)) (q : IntKind.i64.wrap ((k : Int) - 1) = (j : Int))
    (hK : ∀ a' w', Sz 21 a' → Kp [0, 4, 5] a a' → sl a' 1 = .int .i64 (j : Int) → w' = w → K .normal a' w') :
    (regionOf Tryz.f150 3).wp Tryz.prog K a w := by
  unfold Kp at hK; rw [mwF_of hs]; clear hs; generalize sl a = u at *; clear a; have HK := Lib.hid hK; clear hK; conv => arg 2; whnf
  simp only [mwF, h1]
  clear h1
  go_wp2_with fail
  exact HK.out _ _  ⟨rfl, rfl⟩ (Kc rfl (Kc rfl (Kc rfl (Kn _ _)))) (rfl) rfl
theorem mwR5 (p T : Nat) (M : MLay) (s : St) (n : Nat) (a : Act) (w : World) (K : Exit → Act → World → Prop) (hs : Sz 21 a)
    (h0 : sl a 0 = .pointer (some ⟨p, 0, none⟩)) (h5 : sl a 5 = .int .i64 (n : Int)) (h : ModelAt w p T M s) (hn : n ≤ 100) (hd : s.draw < 4294967296)
    (hK : ∀ a' w', Sz 21 a' → Kp [0, 1, 5] a a' → sl a' 4 = .int .i64 ((n : Int) + (s.draw : Int) % 3 - 1) → w' = w → K .normal a' w') :
    (regionOf Tryz.f150 5).wp Tryz.prog K a w := by
  unfold Kp at hK; rw [mwF_of hs]; clear hs; generalize sl a = u at *; clear a; have HK := Lib.hid hK; clear hK; conv => arg 2; whnf
  simp only [mwF, h0, h5]
  have c17 := h.g17
  go_wp2_with fail
  exact HK.out _ _  ⟨rfl, rfl⟩ (Kc h0.symm (Kc rfl (Kc h5.symm (Kn _ _)))) (rfl) rfl
theorem modWait (p T : Nat) (M : MLay) (s : St) (k : Nat) (hk : k ≤ 4) (w : World) (h : ModelAt w p T M s) : Calls Tryz.prog 150 #[.pointer (some ⟨p, 0, none⟩), .int .i64 (k : Int)] w fun e w' => e = .returned (.int .i64 (s.wait k)) ∧ w' = w := by
  go_enter Tryz.func150, Tryz.ntmps150
  refine wp_seq ?_
  refine mwR0 _ w _ ⟨rfl, rfl⟩ ?_
  intro a0 w0 hs0 k0 hw; subst hw
  have e0 : sl a0 0 = .pointer (some ⟨p, 0, none⟩) := (k0 0 (by decide)).trans rfl
  have e1 : sl a0 1 = .int .i64 (k : Int) := (k0 1 (by decide)).trans rfl
  clear k0
  refine wp_seq ?_
  refine mwR1 a0 w0 _ hs0 ?_
  intro a1 w1 hs1 k1 o5 hw; subst hw
  refine wp_seq (wp_block ?_)
  refine wp_loop_sz 21 (fun a' w' => ∃ j i : Nat, j + i = k ∧ sl a' 1 = .int .i64 (j : Int) ∧ sl a' 5 = .int .i64 ((2 * 2 ^ i : Nat) : Int) ∧ sl a' 0 = .pointer (some ⟨p, 0, none⟩) ∧ w' = w1) (fun a' _ => (intOf (sl a' 1)).toNat)
    hs1 ⟨k, 0, rfl, (k1 1 (by decide)).trans e1, o5, (k1 0 (by decide)).trans e0, rfl⟩ ?_
  rintro a2 w2 hs2 ⟨j, i, hji, z1, z5, z0, hw⟩; subst hw
  have hpow : 2 * 2 ^ i ≤ 32 := by
    have : i ≤ 4 := by omega
    calc 2 * 2 ^ i ≤ 2 * 2 ^ 4 := Nat.mul_le_mul_left 2 (Nat.pow_le_pow_right (by decide) this)
      _ = 32 := by decide
  refine wp_seq (wp_seq ?_)
  refine mwR2 j a2 w2 _ hs2 z1 ?_
  intro a3 w3 hs3 k3 o7 hw; subst hw
  refine wp_if o7 (fun hb => ?_) (fun hb => ?_)
  · have hj := of_decide_eq_true hb
    refine wp_skip ?_
    refine wp_seq (wp_block ?_)
    refine mwR4 (2 * 2 ^ i) (2 * 2 ^ (i + 1)) a3 w3 _ hs3 ((k3 5 (by decide)).trans z5) ((IntWalk.i64_in _ (by omega)).trans (by rw [Nat.pow_succ]; omega)) ?_
    intro a4 w4 hs4 k4 o5 hw; subst hw
    refine mwR3 j (j - 1) a4 w4 _ hs4 ((k4 1 (by decide)).trans ((k3 1 (by decide)).trans z1)) ((IntWalk.i64_in _ (by omega)).trans (by omega)) ?_
    intro a5 w5 hs5 k5 o1 hw; subst hw
    refine ⟨hs5, ⟨j - 1, i + 1, by omega, o1, (k5 5 (by decide)).trans o5, (k5 0 (by decide)).trans ((k4 0 (by decide)).trans ((k3 0 (by decide)).trans z0)), rfl⟩, ?_⟩
    rw [o1, z1]; simp only [intOf]; omega
  · have hj : j = 0 := by have := of_decide_eq_false hb; omega
    have hik : i = k := by omega
    subst hik
    refine wp_exit (then_exit (then_exit (inBlock_self ?_)))
    refine wp_seq ?_
    refine mwR5 p T M s _ a3 w3 _ hs3 ((k3 0 (by decide)).trans z0) ((k3 5 (by decide)).trans z5) h (by omega) h.ok.draw ?_
    intro a4 w4 hs4 k4 o4 hw; subst hw
    refine wp_ret ?_
    refine bodyPost_ret (results_tmp rfl _ _ _) hs4.defers ⟨?_, rfl⟩
    have hv : a4.tmps.getD 4 undef = .int .i64 (s.wait i) := by
      refine (show _ = _ from o4).trans ?_
      unfold St.wait
      congr 1
    rw [hv]
theorem strInfo : (Tryz.prog.info? 9).map (fun i => (i.zero, i.size, i.bytes)) = some (some (.string ⟨#[]⟩), 1, 16) := by kernel_rfl
theorem own_cut {w : World} {e : TypeId} {size n : Nat} {v : Value} {xs : List Value} (h : w.ownsRow 0 e size v (n + 1) xs) : ∃ g c, v = .slice (some ⟨g, 0, none⟩) (n + 1) c ∧ w.ownsRow 0 e size (.slice (some ⟨g, 0, none⟩) (n + 1) c) (n + 1) xs := by
  rcases h.2 with ⟨_, h0⟩ | ⟨g, c, cur, hv, _⟩
  · omega
  · subst hv; exact ⟨g, c, rfl, h⟩
def mdF (u : Nat → Value) : Act := ⟨#[u 0, u 1, u 2, u 3, u 4, u 5, u 6, u 7, u 8, u 9, u 10, u 11, u 12, u 13, u 14, u 15, u 16, u 17, u 18, u 19, u 20, u 21, u 22, u 23, u 24, u 25, u 26, u 27, u 28, u 29, u 30, u 31, u 32, u 33, u 34, u 35, u 36, u 37, u 38, u 39, u 40, u 41, u 42], []⟩
set_option maxRecDepth 100000 in
theorem mdF_eq (u : Nat → Value) : mdF u = frN 43 u := rfl
theorem mdF_of {a : Act} (h : Sz 43 a) : a = mdF (sl a) := h.eq.trans (mdF_eq _).symm
theorem mdR0 (p T : Nat) (M : MLay) (s : St) (a : Act) (w : World) (K : Exit → Act → World → Prop) (hs : Sz 43 a)
    (h0 : sl a 0 = .pointer (some ⟨p, 0, none⟩)) (h : ModelAt w p T M s)
    (hK : ∀ a' w' g, Sz 43 a' → Kp [0] a a' → sl a' 2 = .pointer (some ⟨g, 0, none⟩) → ModelAt w' p T M s → Bk w' g 174 (modC s.drop T { M with ca := none, cac := 0, im := none, imc := 0 }) → Fr noB w w' → K .normal a' w') :
    (regionOf Tryz.f175 0).wp Tryz.prog K a w := by
  unfold Kp at hK; rw [mdF_of hs]; clear hs; generalize sl a = u at *; clear a; have HK := Lib.hid hK; clear hK; conv => arg 2; whnf
  simp only [mdF, h0]
  refine wp_region_pls (by kernel_rfl) (fun w' => ModelAt w' p T M s ∧ Fr noB w w') [38] (.p 0 (.p 1 (.p 2 (.p 4 (.p 5 (.p 6 (.p 8 (.p 9 (.p 10 (.p 12 (.p 13 (.p 14 (.p 16 (.p 17 (.p 18 (.p 20 (.p 21 (.p 22 (.p 24 (.p 25 (.p 26 (.p 28 (.p 29 (.p 30 (.p 32 (.p 33 (.p 34 (.q 3 (.q 7 (.q 11 (.q 15 (.q 19 (.q 23 (.q 27 (.q 31 (.q 35 (.p 36 (.e 37 (.e 38 (.nil)))))))))))))))))))))))))))))))))))))))) (by kernel_rfl) (⟨h.drew, (Fr.refl _ _).drew⟩) ?_
  intro ops Q' hO hQ' wr1 hR1
  iterate 27 (refine pl_p0 hO rfl rfl ?_ (fun w' => ?_) ?_; rotate_left 1; (focus (go_simp; ((try with_reducible rfl); done))); simp only [Act.put, List.setIfInBounds_toArray, List.set_cons_zero, List.set_cons_succ])
  iterate 9 (refine pl_q0 hO rfl rfl ?_ (fun w' hS => ?_) ?_; rotate_left 1; (focus (obtain ⟨hB, hF⟩ := hS; have c0 := hB.g0; have c1 := hB.g1; have c2 := hB.g2; have c3 := hB.g3; have c4 := hB.g4; have c5 := hB.g5; have c6 := hB.g6; have c7 := hB.g7; have c8 := hB.g8; have c9 := hB.g9; have c10 := hB.g10; have c11 := hB.g11; have c12 := hB.g12; have c13 := hB.g13; have c14 := hB.g14; have c15 := hB.g15; have c16 := hB.g16; have c17 := hB.g17; have c18 := hB.g18; have c19 := hB.g19; have c20 := hB.g20; go_simp; ((try with_reducible rfl); done))); simp only [Act.put, List.setIfInBounds_toArray, List.set_cons_zero, List.set_cons_succ])
  refine pl_p0 hO rfl rfl (.agg (modC s.drop T { M with ca := none, cac := 0, im := none, imc := 0 })) (fun w => by kernel_rfl) ?_; simp only [Act.put, List.setIfInBounds_toArray, List.set_cons_zero, List.set_cons_succ]
  refine pl_e0 hO rfl rfl rfl (fun K hK => ?_)
  go_simp
  refine hK _ _ (⟨hR1.1.none ((Fr.refl _ _).alloc _), hR1.2.alloc _⟩) (fun hR_37 => ?_)
  clear hK K
  refine pl_b0 hO rfl rfl rfl (fun K hK => ?_)
  refine wp_store_bk 174 (.tmp 2) (.tmp 39) rfl wr1.heap.size _ _ (modC s.drop T { M with ca := none, cac := 0, im := none, imc := 0 }) rfl rfl (Bk.new wr1 _ _) rfl (by kernel_rfl) (by simp [modC, Value.oneCell']) (fun w5 hx5 hf5 => ?_)
  refine hK _ _ ?_
  clear hK K
  refine pl_nil (hQ' _ _ ?_)
  exact HK.out _ _ _ ⟨rfl, rfl⟩ (Kc h0.symm (Kn _ _)) (rfl) (hR1.1.none (((Fr.refl noB wr1).alloc _).trans' hf5 (fun b hb e => by have e' : b = wr1.heap.size := e; omega))) hx5 (hR1.2.none (((Fr.refl noB wr1).alloc _).trans' hf5 (fun b hb e => by have e' : b = wr1.heap.size := e; omega)))
theorem modC_size (s : St) (T : Nat) (M : MLay) : (modC s T M).size = 46 := rfl
theorem modC_one (s : St) (T : Nat) (M : MLay) : (modC s T M).all (·.oneCell') = true := by simp [modC, Value.oneCell']
theorem mod_info : (Tryz.prog.info? 174).map (·.size) = some 46 := by kernel_rfl
theorem mdR1 (p g : Nat) (c0 cs : Array Value) (a : Act) (w : World) (K : Exit → Act → World → Prop) (hs : Sz 43 a)
    (h0 : sl a 0 = .pointer (some ⟨p, 0, none⟩)) (h2 : sl a 2 = .pointer (some ⟨g, 0, none⟩)) (hB : Bk w p 174 c0) (hG : Bk w g 174 cs) (h0s : c0.size = 46) (hss : cs.size = 46) (hone : cs.all (·.oneCell') = true)
    (hK : ∀ a' w', Sz 43 a' → Kp [0, 2] a a' → Bk w' p 174 cs → Fr (oneB p) w w' → K .normal a' w') :
    (regionOf Tryz.f175 1).wp Tryz.prog K a w := by
  unfold Kp at hK; rw [mdF_of hs]; clear hs; generalize sl a = u at *; clear a; have HK := Lib.hid hK; clear hK; conv => arg 2; whnf
  simp only [mdF, h0, h2]
  have hu := Tryz.underlying174
  have hi : (Tryz.prog.info? 174).map (·.size) = some cs.size := by rw [hss]; exact mod_info
  have H := Lib.hid (And.intro h0s (And.intro hss hone))
  clear h0s hss hone
  go_wp2_with (first | (refine wpList_load_row rfl 174 (.tmp 2) rfl g rfl 174 cs (0, 0) _ hG hu rfl hi ?_) | ((refine wpList_store_bk rfl 174 (.tmp 42) (.tmp 41) rfl p _ c0 cs rfl rfl hB (H.out.2.1.trans H.out.1.symm) hi H.out.2.2 ?_); intro w9 hx9 hf9))
  exact HK.out _ _  ⟨rfl, rfl⟩ (Kc h0.symm (Kc h2.symm (Kn _ _)))  hx9 hf9
theorem modDrop (p T : Nat) (M : MLay) (s : St) (w : World) (h : ModelAt w p T M s) : Calls Tryz.prog 175 #[.pointer (some ⟨p, 0, none⟩)] w fun e w' => e = .returned (.tuple #[]) ∧ MNow p T M w s.drop w' := by
  go_enter Tryz.func175, Tryz.ntmps175
  refine wp_seq ?_
  refine mdR0 p T M s _ w _ ⟨rfl, rfl⟩ rfl h ?_
  intro a1 w1 g hs1 k1 o2 h1 hG1 hf1
  refine mdR1 p g (modC s T M) _ a1 w1 _ hs1 ((k1 0 (by decide)).trans rfl) o2 h1.bk hG1 (modC_size _ _ _) (modC_size _ _ _) (modC_one _ _ _) ?_
  intro a2 w2 hs2 k2 hB2 hf2
  refine bodyPost_end (results_none rfl _ _ _) hs2.defers ⟨rfl, ?_⟩
  have hn := h1.nd
  have hne : ∀ (X : List Nat), p ∉ X → ∀ b ∈ X, ¬ oneB p b := fun X hX b hb e => hX (by have e' : b = p := e; exact e' ▸ hb)
  refine ⟨{ M with ca := none, cac := 0, im := none, imc := 0 }, fun b hb => .inl ?_, ⟨hB2, orow_keep h1.rx hf2 (hne _ hn.pr), orow_keep h1.tx hf2 (hne _ hn.pt), ⟨rfl, .inl ⟨rfl, rfl⟩⟩, ⟨rfl, .inl ⟨rfl, rfl⟩⟩, ⟨hn.pr, hn.pt, by simp [blkA], by simp [blkA], hn.rt, by simp [blkA], by simp [blkA], by simp [blkA], by simp [blkA], by simp [blkA]⟩, drop_ok h1.ok, h1.rxl, h1.txl, h1.all.keep hf2 (fun e => h1.ga p (mown_p p M) (by have e' : 4 = p := e; exact e'.symm)), fun b hb => h1.ga b ?_, by simp [St.drop], by simp [St.drop]⟩, (hf1.of_no _).trans (hf2.mono fun b _ hb => by obtain rfl : b = p := hb; exact mown_p _ _)⟩
  all_goals
    simp only [mown, mblocks, blkA, List.mem_cons, List.mem_append, List.not_mem_nil, or_false] at hb ⊢
    rcases hb with y | y | y
    · simp [y]
    · simp [y]
    · simp [y]
theorem modFail (p T : Nat) (M : MLay) (s : St) (w : World) (h : ModelAt w p T M s) : Calls Tryz.prog 149 #[.pointer (some ⟨p, 0, none⟩)] w fun e w' => e = .returned (.tuple #[]) ∧ MNow p T M w s.fail w' := by
  have hcall := modDrop p T M s w h
  have Hcall := Lib.hid hcall
  clear hcall
  go_enter Tryz.func149, Tryz.ntmps149
  go_wp2_with fail
  refine Hcall.out.mono ?_
  rintro e w1 ⟨rfl, M1, ho, hB, hF⟩
  have c18 := hB.g18
  have c34 := hB.g34
  have hfz := hB.fr
  rw [show s.drop.boots = s.boots from rfl] at c18
  rw [show s.drop.phase = 0 from rfl] at c34
  have hw := i64w (s.boots + 1)
  by_cases h3 : wrap64 (s.boots + 1) = 3
  · have hu : s.fail = { s.drop with boots := wrap64 (s.boots + 1), phase := 4 } := by unfold St.fail; rw [if_pos h3]
    rw [h3] at hw hu
    have Hu := Lib.hid hu
    clear hu h3
    go_wp2_with fail
    refine bodyPost_end (results_none rfl _ _ _) rfl ⟨rfl, ?_⟩
    rw [Hu.out]
    exact MNow.comp ho hF (MNow.of ((hB.set1 18 (.int .i64 3) { s.drop with boots := 3 } rfl rfl rfl rfl rfl rfl { hB.ok with }).set1 34 (.int .i64 4) { s.drop with boots := 3, phase := 4 } rfl rfl rfl rfl rfl rfl { hB.ok with }) ((fr_mset p M1 w1 18 _).trans (fr_mset p M1 _ 34 _)))
  · have hu : s.fail = { s.drop with boots := wrap64 (s.boots + 1) } := by unfold St.fail; rw [if_neg h3]
    have h3b : (wrap64 (s.boots + 1) == 3) = false := by rw [beq_eq_false_iff_ne]; exact h3
    have Hu := Lib.hid hu
    clear hu h3
    go_wp2_with fail
    refine bodyPost_end (results_none rfl _ _ _) rfl ⟨rfl, ?_⟩
    rw [Hu.out]
    exact MNow.comp ho hF (MNow.of (hB.set1 18 _ { s.drop with boots := wrap64 (s.boots + 1) } rfl rfl rfl rfl rfl rfl { hB.ok with }) (fr_mset p M1 w1 18 _))
end Go.Proofs.YtcbkaiakdhiloabGreatDoor
