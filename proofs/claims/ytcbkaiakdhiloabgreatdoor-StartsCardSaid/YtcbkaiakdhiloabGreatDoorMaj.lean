/- Parts of the walk; written by programs, merged. -/
import Derived.Test.YtcbkaiakdhiloabGreatDoorMac
import Derived.Test.YtcbkaiakdhiloabGreatDoorProg
import Derived.WalkKit
import Derived.WalkLawsBesides
import Derived.WalkSpells
import Derived.Deep.AppendLies
import Derived.Deep.DrawnRows
import Derived.Maps.AppendAt
import Derived.StillTailTactics
import Derived.Lib.Hide
import Derived.Lib.AppendStr
import Derived.Lib.Strings
import Derived.Laws.MakeOwn
import Derived.Laws.OwnMore
import Derived.Laws.BitsAllLaws
import Derived.Orders
import Derived.Deep.MidRow
import Derived.Deep.DeepMust
import Derived.Deep.RegionHeld3
import Derived.Deep.RegionLaw
import Derived.Deep.LoopGhost
import Derived.Deep.Cut
import Derived.Deep.CutRange
import Derived.Deep.QuietTactic
import Derived.BigQuiet
set_option linter.unusedSimpArgs false
set_option linter.unusedVariables false
set_option maxRecDepth 20000
set_option maxHeartbeats 8000000
namespace Go.Proofs.YtcbkaiakdhiloabGreatDoor
open Go.RowKit Go.Proofs
attribute [local go_sem] bs_size bs_append bs_sub bs_toList
theorem hb20 (n : Nat) (w : World) (hn : n ≤ 4611686018427387000) : Calls Tryz.prog 259 #[.int .i64 (20 + (n : Int)), .int .i64 2] w fun e w' => e = .returned (.string (bs (big 2 (20 + n)))) ∧ Fr noB w w' := by
  have h := refBig (20 + n) 2 w (by omega) (by omega)
  rw [show ((20 + n : Nat) : Int) = 20 + (n : Int) by omega] at h
  exact h
theorem ipBytes_eq (id : Nat) (ttl pr : UInt8) (fi ti : Nat) (ld : List UInt8) :
    ipHd1 id ttl pr ld.length ++ big 2 (check (ipHd1 id ttl pr ld.length ++ [0, 0] ++ ipHd2 fi ti)) ++ ipHd2 fi ti ++ ld = ipBytes id ttl pr fi ti ld := rfl
theorem refWriteIP (id fi ti : Nat) (ttl pr : UInt8) (ld : List UInt8) (w : World) (hid : id < 65536) (hfi : fi < 4294967296) (hti : ti < 4294967296) (hld : ld.length ≤ 9223372036854775807) :
    Calls Tryz.prog 265 #[.agg #[.int .u16 (id : Int), .int .u8 (ttl.toNat : Int), .int .u8 (pr.toNat : Int), .int .u32 (fi : Int), .int .u32 (ti : Int), .string (bs ld)]] w (strPost (wrIP id ttl pr fi ti ld) w) := by
  have hpa := Bk.new w 36 #[.int .u16 (id : Int), .int .u8 (ttl.toNat : Int), .int .u8 (pr.toNat : Int), .int .u32 (fi : Int), .int .u32 (ti : Int), .string (bs ld)]
  have hpa0 := hpa.cells
  go_enter Tryz.func265, Tryz.ntmps265
  by_cases h1 : ttl.toNat = 0
  · have hs : Hid (wrIP id ttl pr fi ti ld = ([], 2)) := by unfold Hid wrIP; rw [if_pos h1]
    have b1 : ((ttl.toNat : Int) == 0) = true := by simp; omega
    clear h1
    go_wp2_with fail
    go_ret2
    exact ⟨by rw [hs.out]; rfl, (Fr.refl _ _).alloc _⟩
  have b1 : ((ttl.toNat : Int) == 0) = false := by simp; omega
  by_cases h2 : 1480 < ld.length
  · have hs : Hid (wrIP id ttl pr fi ti ld = ([], 7)) := by unfold Hid wrIP; rw [if_neg h1, if_pos h2]
    have b2 : 1480 < (ld.length : Int) := by omega
    clear h1 h2
    go_wp2_with fail
    go_ret2
    exact ⟨by rw [hs.out]; rfl, (Fr.refl _ _).alloc _⟩
  have b2 : ¬ 1480 < (ld.length : Int) := by omega
  have hs : Hid (wrIP id ttl pr fi ti ld = (ipBytes id ttl pr fi ti ld, 0)) := by unfold Hid wrIP; rw [if_neg h1, if_neg h2]
  have hl2 : ld.length ≤ 1480 := by omega
  clear h1 h2
  go_upto_if 12 with fail
  go_cut [2, 3] from 6 to 12 (fun a b wx => a = .string ⟨#[]⟩ ∧ b = .int .i64 0 ∧ wx = w.alloc (.cells #[.int .u16 (id : Int), .int .u8 (ttl.toNat : Int), .int .u8 (pr.toNat : Int), .int .u32 (fi : Int), .int .u32 (ti : Int), .string (bs ld)] 36))
  case first =>
    go_wp2_with fail
    go_meet
    case rel => exact ⟨rfl, rfl, rfl⟩
  case rest =>
  obtain ⟨rfl, rfl, rfl⟩ := hcut
  clear hpa0
  go_upto_region 5 with fail
  have hf0 : Fr noB w (w.alloc (.cells #[.int .u16 (id : Int), .int .u8 (ttl.toNat : Int), .int .u8 (pr.toNat : Int), .int .u32 (fi : Int), .int .u32 (ti : Int), .string (bs ld)] 36)) := (Fr.refl _ _).alloc _
  generalize w.alloc (.cells #[.int .u16 (id : Int), .int .u8 (ttl.toNat : Int), .int .u8 (pr.toNat : Int), .int .u32 (fi : Int), .int .u32 (ti : Int), .string (bs ld)] 36) = w1 at *
  have Lld := Lib.hid hl2
  go_cut [4] from 6 to 31 (fun a wx => a = .string (bs (ipHd1 id ttl pr ld.length)) ∧ Fr noB w wx ∧ Bk wx w.heap.size 36 #[.int .u16 (id : Int), .int .u8 (ttl.toNat : Int), .int .u8 (pr.toNat : Int), .int .u32 (fi : Int), .int .u32 (ti : Int), .string (bs ld)])
  case first =>
    obtain ⟨x1, Hx1⟩ : ∃ s : List UInt8, Hid (s = big 2 (20 + ld.length)) := ⟨big 2 (20 + ld.length), Lib.hid rfl⟩
    obtain ⟨c1, Hc1⟩ : ∃ s : List UInt8, Hid (s = [69, 0]) := ⟨[69, 0], Lib.hid rfl⟩
    obtain ⟨s1, Hs1⟩ : ∃ s : List UInt8, Hid (s = c1 ++ x1) := ⟨c1 ++ x1, Lib.hid rfl⟩
    obtain ⟨x2, Hx2⟩ : ∃ s : List UInt8, Hid (s = big 2 id) := ⟨big 2 id, Lib.hid rfl⟩
    obtain ⟨s2, Hs2⟩ : ∃ s : List UInt8, Hid (s = s1 ++ x2) := ⟨s1 ++ x2, Lib.hid rfl⟩
    obtain ⟨c2, Hc2⟩ : ∃ s : List UInt8, Hid (s = [64, 0]) := ⟨[64, 0], Lib.hid rfl⟩
    obtain ⟨s3, Hs3⟩ : ∃ s : List UInt8, Hid (s = s2 ++ c2) := ⟨s2 ++ c2, Lib.hid rfl⟩
    obtain ⟨x3, Hx3⟩ : ∃ s : List UInt8, Hid (s = [ttl, pr]) := ⟨[ttl, pr], Lib.hid rfl⟩
    obtain ⟨s4, Hs4⟩ : ∃ s : List UInt8, Hid (s = s3 ++ x3) := ⟨s3 ++ x3, Lib.hid rfl⟩
    have Lx1 : Hid (x1.length ≤ 2) := by  unfold Hid; rw [Hx1.out]; (simp [big_length, macB, bigs_length] <;> omega)
    have Lc1 : Hid (c1.length ≤ 2) := by  have l_x1 := Lx1.out; unfold Hid; rw [Hc1.out]; (simp [big_length, macB, bigs_length] <;> omega)
    have Ls1 : Hid (s1.length ≤ 4) := by  have l_x1 := Lx1.out; have l_c1 := Lc1.out; unfold Hid; rw [Hs1.out]; (simp [big_length, macB, bigs_length] <;> omega)
    have Lx2 : Hid (x2.length ≤ 2) := by  have l_x1 := Lx1.out; have l_c1 := Lc1.out; have l_s1 := Ls1.out; unfold Hid; rw [Hx2.out]; (simp [big_length, macB, bigs_length] <;> omega)
    have Ls2 : Hid (s2.length ≤ 6) := by  have l_x1 := Lx1.out; have l_c1 := Lc1.out; have l_s1 := Ls1.out; have l_x2 := Lx2.out; unfold Hid; rw [Hs2.out]; (simp [big_length, macB, bigs_length] <;> omega)
    have Lc2 : Hid (c2.length ≤ 2) := by  have l_x1 := Lx1.out; have l_c1 := Lc1.out; have l_s1 := Ls1.out; have l_x2 := Lx2.out; have l_s2 := Ls2.out; unfold Hid; rw [Hc2.out]; (simp [big_length, macB, bigs_length] <;> omega)
    have Ls3 : Hid (s3.length ≤ 8) := by  have l_x1 := Lx1.out; have l_c1 := Lc1.out; have l_s1 := Ls1.out; have l_x2 := Lx2.out; have l_s2 := Ls2.out; have l_c2 := Lc2.out; unfold Hid; rw [Hs3.out]; (simp [big_length, macB, bigs_length] <;> omega)
    have Lx3 : Hid (x3.length ≤ 2) := by  have l_x1 := Lx1.out; have l_c1 := Lc1.out; have l_s1 := Ls1.out; have l_x2 := Lx2.out; have l_s2 := Ls2.out; have l_c2 := Lc2.out; have l_s3 := Ls3.out; unfold Hid; rw [Hx3.out]; (simp [big_length, macB, bigs_length] <;> omega)
    have Ls4 : Hid (s4.length ≤ 10) := by  have l_x1 := Lx1.out; have l_c1 := Lc1.out; have l_s1 := Ls1.out; have l_x2 := Lx2.out; have l_s2 := Ls2.out; have l_c2 := Lc2.out; have l_s3 := Ls3.out; have l_x3 := Lx3.out; unfold Hid; rw [Hs4.out]; (simp [big_length, macB, bigs_length] <;> omega)
    obtain ⟨V, hV⟩ : ∃ V : Nat → Value, V = (fun j => match j with | 0 => .pointer (some ⟨w.heap.size, 5, none⟩) | 1 => .string (bs ld) | 2 => .int .i64 (ld.length : Int) | 3 => .int .i64 (20 + (ld.length : Int)) | 4 => .string (bs x1) | 5 => .string (bs s1) | 6 => .pointer (some ⟨w.heap.size, 0, none⟩) | 7 => .int .u16 (id : Int) | 8 => .int .i64 (id : Int) | 9 => .string (bs x2) | 10 => .string (bs s2) | 11 => .string (bs s3) | 12 => .pointer (some ⟨w.heap.size, 1, none⟩) | 13 => .int .u8 (ttl.toNat : Int) | 14 => .pointer (some ⟨w.heap.size, 2, none⟩) | 15 => .int .u8 (pr.toNat : Int) | 17 => .string (bs x3) | 18 => .string (bs s4) | 19 => .string (bs s4) | _ => undef) := ⟨_, rfl⟩
    have v0 : V 0 = .pointer (some ⟨w.heap.size, 5, none⟩) := congrFun hV 0
    have v1 : V 1 = .string (bs ld) := congrFun hV 1
    have v2 : V 2 = .int .i64 (ld.length : Int) := congrFun hV 2
    have v3 : V 3 = .int .i64 (20 + (ld.length : Int)) := congrFun hV 3
    have v4 : V 4 = .string (bs x1) := congrFun hV 4
    have v5 : V 5 = .string (bs s1) := congrFun hV 5
    have v6 : V 6 = .pointer (some ⟨w.heap.size, 0, none⟩) := congrFun hV 6
    have v7 : V 7 = .int .u16 (id : Int) := congrFun hV 7
    have v8 : V 8 = .int .i64 (id : Int) := congrFun hV 8
    have v9 : V 9 = .string (bs x2) := congrFun hV 9
    have v10 : V 10 = .string (bs s2) := congrFun hV 10
    have v11 : V 11 = .string (bs s3) := congrFun hV 11
    have v12 : V 12 = .pointer (some ⟨w.heap.size, 1, none⟩) := congrFun hV 12
    have v13 : V 13 = .int .u8 (ttl.toNat : Int) := congrFun hV 13
    have v14 : V 14 = .pointer (some ⟨w.heap.size, 2, none⟩) := congrFun hV 14
    have v15 : V 15 = .int .u8 (pr.toNat : Int) := congrFun hV 15
    have v17 : V 17 = .string (bs x3) := congrFun hV 17
    have v18 : V 18 = .string (bs s4) := congrFun hV 18
    have v19 : V 19 = .string (bs s4) := congrFun hV 19
    clear hV
    refine wp_region_ssau (by kernel_rfl) (by kernel_rfl) (by kernel_rfl)
      (fun u => ⟨#[.agg #[.int .u16 (id : Int), .int .u8 (ttl.toNat : Int), .int .u8 (pr.toNat : Int), .int .u32 (fi : Int), .int .u32 (ti : Int), .string (bs ld)], .pointer (some ⟨w.heap.size, 0, none⟩), .string ⟨#[]⟩, .int .i64 0, u 19, undef, u6, u7, u8, u9, u10, u11, u12, u 0, u 1, u 2, u 3, u 4, u 5, u 6, u 7, u 8, u 9, u 10, u 11, u 12, u 13, u 14, u 15, u 16, u 17, u 18, undef, undef, undef, undef, undef, undef, undef, undef, undef, undef, undef, undef, undef, undef, undef, undef, undef, undef, undef, undef], []⟩)
      (fun j v w3 => if j = 16 then True else v = V j)
      (fun L u w3 => Fr noB w1 w3 ∧ AlS (L 16) (u 16) 2 5 #[.int .u8 (ttl.toNat : Int), .int .u8 (pr.toNat : Int)] 0 none w3) (fun j => undef) ⟨(Fr.refl _ _).drew, AlS.false⟩ ?_ ?_
    · rintro L u w3 i o hG hΦ ho hL hd K hK
      match i, ho with
      | 0, ho =>
        simp at ho; subst ho
        clear hΦ hd
        go_simp
        exact hK _ _ v0.symm hG (fun _ _ _ h => h)
      | 1, ho =>
        simp at ho; subst ho
        have hu0 : u 0 = V 0 := hΦ 0 (hd ⟨0, .data⟩ (by simp) (by rfl))
        rw [v0] at hu0
        clear hΦ hd
        obtain ⟨hG0, s16⟩ := hG
        have hx : ∃ x, u = (upd x 0 (.pointer (some ⟨w.heap.size, 5, none⟩))) := ⟨u, by rw [← upd_self hu0]⟩
        clear hu0
        obtain ⟨x, rfl⟩ := hx
        simp only [upd, reduceIte, Nat.reduceEqDiff]
        have hc0 := ((hpa).keep hG0 (fun x => x)).cells
        go_simp
        exact hK _ _ v1.symm ⟨hG0, s16⟩ (fun _ _ _ h => h)
      | 2, ho =>
        simp at ho; subst ho
        have hu1 : u 1 = V 1 := hΦ 1 (hd ⟨1, .data⟩ (by simp) (by rfl))
        rw [v1] at hu1
        clear hΦ hd
        have hx : ∃ x, u = (upd x 1 (.string (bs ld))) := ⟨u, by rw [← upd_self hu1]⟩
        clear hu1
        obtain ⟨x, rfl⟩ := hx
        simp only [upd, reduceIte, Nat.reduceEqDiff]
        go_simp
        exact hK _ _ v2.symm hG (fun _ _ _ h => h)
      | 3, ho =>
        simp at ho; subst ho
        have hu2 : u 2 = V 2 := hΦ 2 (hd ⟨2, .data⟩ (by simp) (by rfl))
        rw [v2] at hu2
        clear hΦ hd
        have hx : ∃ x, u = (upd x 2 (.int .i64 (ld.length : Int))) := ⟨u, by rw [← upd_self hu2]⟩
        clear hu2
        obtain ⟨x, rfl⟩ := hx
        simp only [upd, reduceIte, Nat.reduceEqDiff]
        have e6 : IntKind.i64.wrap (20 + (ld.length : Int)) = 20 + ld.length := IntWalk.i64_in _ (by omega)
        go_simp
        exact hK _ _ v3.symm hG (fun _ _ _ h => h)
      | 4, ho =>
        simp at ho; subst ho
        have hu3 : u 3 = V 3 := hΦ 3 (hd ⟨3, .data⟩ (by simp) (by rfl))
        rw [v3] at hu3
        clear hΦ hd
        obtain ⟨hG0, s16⟩ := hG
        have hx : ∃ x, u = (upd x 3 (.int .i64 (20 + (ld.length : Int)))) := ⟨u, by rw [← upd_self hu3]⟩
        clear hu3
        obtain ⟨x, rfl⟩ := hx
        simp only [upd, reduceIte, Nat.reduceEqDiff]
        go_simp
        refine (hb20 ld.length w3 (by omega)).mono ?_
        rintro e w4 ⟨rfl, hf4⟩
        rw [← Hx1.out]
        exact hK _ _ v4.symm ⟨(hG0.none hf4), AlS.quiet s16 hf4⟩ (fun _ _ _ h => h)
      | 5, ho =>
        simp at ho; subst ho
        have hu4 : u 4 = V 4 := hΦ 4 (hd ⟨4, .data⟩ (by simp) (by rfl))
        rw [v4] at hu4
        clear hΦ hd
        have hx : ∃ x, u = (upd x 4 (.string (bs x1))) := ⟨u, by rw [← upd_self hu4]⟩
        clear hu4
        obtain ⟨x, rfl⟩ := hx
        simp only [upd, reduceIte, Nat.reduceEqDiff]
        have hln : ¬ 9223372036854775807 < c1.length + x1.length := by have l1 := Lc1.out; have l2 := Lx1.out; omega
        have hcs : (⟨#[69, 0]⟩ : ByteArray) = bs c1 := by rw [Hc1.out]; rfl
        go_simp
        rw [← Hs1.out]
        exact hK _ _ v5.symm hG (fun _ _ _ h => h)
      | 6, ho =>
        simp at ho; subst ho
        clear hΦ hd
        go_simp
        exact hK _ _ v6.symm hG (fun _ _ _ h => h)
      | 7, ho =>
        simp at ho; subst ho
        have hu6 : u 6 = V 6 := hΦ 6 (hd ⟨6, .data⟩ (by simp) (by rfl))
        rw [v6] at hu6
        clear hΦ hd
        obtain ⟨hG0, s16⟩ := hG
        have hx : ∃ x, u = (upd x 6 (.pointer (some ⟨w.heap.size, 0, none⟩))) := ⟨u, by rw [← upd_self hu6]⟩
        clear hu6
        obtain ⟨x, rfl⟩ := hx
        simp only [upd, reduceIte, Nat.reduceEqDiff]
        have hc0 := ((hpa).keep hG0 (fun x => x)).cells
        go_simp
        exact hK _ _ v7.symm ⟨hG0, s16⟩ (fun _ _ _ h => h)
      | 8, ho =>
        simp at ho; subst ho
        have hu7 : u 7 = V 7 := hΦ 7 (hd ⟨7, .data⟩ (by simp) (by rfl))
        rw [v7] at hu7
        clear hΦ hd
        have hx : ∃ x, u = (upd x 7 (.int .u16 (id : Int))) := ⟨u, by rw [← upd_self hu7]⟩
        clear hu7
        obtain ⟨x, rfl⟩ := hx
        simp only [upd, reduceIte, Nat.reduceEqDiff]
        have e2 : IntKind.i64.wrap (id : Int) = id := IntWalk.i64_in _ (by omega)
        have e2' : wrap64 (id : Int) = id := wr64 (by omega) (by omega)
        go_simp
        exact hK _ _ v8.symm hG (fun _ _ _ h => h)
      | 9, ho =>
        simp at ho; subst ho
        have hu8 : u 8 = V 8 := hΦ 8 (hd ⟨8, .data⟩ (by simp) (by rfl))
        rw [v8] at hu8
        clear hΦ hd
        obtain ⟨hG0, s16⟩ := hG
        have hx : ∃ x, u = (upd x 8 (.int .i64 (id : Int))) := ⟨u, by rw [← upd_self hu8]⟩
        clear hu8
        obtain ⟨x, rfl⟩ := hx
        simp only [upd, reduceIte, Nat.reduceEqDiff]
        go_simp
        refine (refBig id 2 _ (by omega) (by omega)).mono ?_
        rintro e w4 ⟨rfl, hf4⟩
        rw [← Hx2.out]
        exact hK _ _ v9.symm ⟨(hG0.none hf4), AlS.quiet s16 hf4⟩ (fun _ _ _ h => h)
      | 10, ho =>
        simp at ho; subst ho
        have hu5 : u 5 = V 5 := hΦ 5 (hd ⟨5, .data⟩ (by simp) (by rfl))
        rw [v5] at hu5
        have hu9 : u 9 = V 9 := hΦ 9 (hd ⟨9, .data⟩ (by simp) (by rfl))
        rw [v9] at hu9
        clear hΦ hd
        have hx : ∃ x, u = (upd (upd x 5 (.string (bs s1))) 9 (.string (bs x2))) := ⟨u, by rw [← upd_self hu5, ← upd_self hu9]⟩
        clear hu5 hu9
        obtain ⟨x, rfl⟩ := hx
        simp only [upd, reduceIte, Nat.reduceEqDiff]
        have hln : ¬ 9223372036854775807 < s1.length + x2.length := by have l1 := Ls1.out; have l2 := Lx2.out; omega
        go_simp
        rw [← Hs2.out]
        exact hK _ _ v10.symm hG (fun _ _ _ h => h)
      | 11, ho =>
        simp at ho; subst ho
        have hu10 : u 10 = V 10 := hΦ 10 (hd ⟨10, .data⟩ (by simp) (by rfl))
        rw [v10] at hu10
        clear hΦ hd
        have hx : ∃ x, u = (upd x 10 (.string (bs s2))) := ⟨u, by rw [← upd_self hu10]⟩
        clear hu10
        obtain ⟨x, rfl⟩ := hx
        simp only [upd, reduceIte, Nat.reduceEqDiff]
        have hln : ¬ 9223372036854775807 < s2.length + c2.length := by have l1 := Ls2.out; have l2 := Lc2.out; omega
        have hcs : (⟨#[64, 0]⟩ : ByteArray) = bs c2 := by rw [Hc2.out]; rfl
        go_simp
        rw [← Hs3.out]
        exact hK _ _ v11.symm hG (fun _ _ _ h => h)
      | 12, ho =>
        simp at ho; subst ho
        clear hΦ hd
        go_simp
        exact hK _ _ v12.symm hG (fun _ _ _ h => h)
      | 13, ho =>
        simp at ho; subst ho
        have hu12 : u 12 = V 12 := hΦ 12 (hd ⟨12, .data⟩ (by simp) (by rfl))
        rw [v12] at hu12
        clear hΦ hd
        obtain ⟨hG0, s16⟩ := hG
        have hx : ∃ x, u = (upd x 12 (.pointer (some ⟨w.heap.size, 1, none⟩))) := ⟨u, by rw [← upd_self hu12]⟩
        clear hu12
        obtain ⟨x, rfl⟩ := hx
        simp only [upd, reduceIte, Nat.reduceEqDiff]
        have hc0 := ((hpa).keep hG0 (fun x => x)).cells
        go_simp
        exact hK _ _ v13.symm ⟨hG0, s16⟩ (fun _ _ _ h => h)
      | 14, ho =>
        simp at ho; subst ho
        clear hΦ hd
        go_simp
        exact hK _ _ v14.symm hG (fun _ _ _ h => h)
      | 15, ho =>
        simp at ho; subst ho
        have hu14 : u 14 = V 14 := hΦ 14 (hd ⟨14, .data⟩ (by simp) (by rfl))
        rw [v14] at hu14
        clear hΦ hd
        obtain ⟨hG0, s16⟩ := hG
        have hx : ∃ x, u = (upd x 14 (.pointer (some ⟨w.heap.size, 2, none⟩))) := ⟨u, by rw [← upd_self hu14]⟩
        clear hu14
        obtain ⟨x, rfl⟩ := hx
        simp only [upd, reduceIte, Nat.reduceEqDiff]
        have hc0 := ((hpa).keep hG0 (fun x => x)).cells
        go_simp
        exact hK _ _ v15.symm ⟨hG0, s16⟩ (fun _ _ _ h => h)
      | 16, ho =>
        simp at ho; subst ho
        have hu13 : u 13 = V 13 := hΦ 13 (hd ⟨13, .data⟩ (by simp) (by rfl))
        rw [v13] at hu13
        have hu15 : u 15 = V 15 := hΦ 15 (hd ⟨15, .data⟩ (by simp) (by rfl))
        rw [v15] at hu15
        clear hΦ hd
        obtain ⟨hG0, s16⟩ := hG
        have hx : ∃ x, u = (upd (upd x 13 (.int .u8 (ttl.toNat : Int))) 15 (.int .u8 (pr.toNat : Int))) := ⟨u, by rw [← upd_self hu13, ← upd_self hu15]⟩
        clear hu13 hu15
        obtain ⟨x, rfl⟩ := hx
        simp only [upd, reduceIte, Nat.reduceEqDiff]
        go_simp
        exact hK _ _ trivial ⟨(hG0.alloc _), AlS.new0 w3 2 5 #[.int .u8 (ttl.toNat : Int), .int .u8 (pr.toNat : Int)]⟩ (fun _ _ _ h => h)
      | 17, ho =>
        simp at ho; subst ho
        have hl16 : L 16 = true := hd ⟨16, .data⟩ (by simp) (by rfl)
        clear hΦ hd
        obtain ⟨hG0, s16⟩ := hG
        obtain ⟨g16, hg16, hb16, -, -⟩ := s16 hl16
        have hx : ∃ x, u = (upd x 16 (.slice (some ⟨g16, 0, none⟩) 2 2)) := ⟨u, by rw [← upd_self hg16]⟩
        clear hg16
        obtain ⟨x, rfl⟩ := hx
        simp only [upd, reduceIte, Nat.reduceEqDiff]
        have hcv := run_str_of (P := Tryz.prog) w3 98 9 5 Tryz.underlying98 Tryz.underlying5 Tryz.underlying9 noB (some ⟨g16, 0, none⟩) 2 2 [ttl, pr] (SlR.of_bk (n := 2) (size := 1) hb16 (fun x => x) rfl) (.inr ⟨_, _, rfl⟩)
        go_simp
        rw [← Hx3.out]
        exact hK _ _ v17.symm ⟨hG0, s16⟩ (fun _ _ _ h => h)
      | 18, ho =>
        simp at ho; subst ho
        have hu11 : u 11 = V 11 := hΦ 11 (hd ⟨11, .data⟩ (by simp) (by rfl))
        rw [v11] at hu11
        have hu17 : u 17 = V 17 := hΦ 17 (hd ⟨17, .data⟩ (by simp) (by rfl))
        rw [v17] at hu17
        clear hΦ hd
        have hx : ∃ x, u = (upd (upd x 11 (.string (bs s3))) 17 (.string (bs x3))) := ⟨u, by rw [← upd_self hu11, ← upd_self hu17]⟩
        clear hu11 hu17
        obtain ⟨x, rfl⟩ := hx
        simp only [upd, reduceIte, Nat.reduceEqDiff]
        have hln : ¬ 9223372036854775807 < s3.length + x3.length := by have l1 := Ls3.out; have l2 := Lx3.out; omega
        go_simp
        rw [← Hs4.out]
        exact hK _ _ v18.symm hG (fun _ _ _ h => h)
      | 19, ho =>
        simp at ho; subst ho
        have hu18 : u 18 = V 18 := hΦ 18 (hd ⟨18, .data⟩ (by simp) (by rfl))
        rw [v18] at hu18
        clear hΦ hd
        have hx : ∃ x, u = (upd x 18 (.string (bs s4))) := ⟨u, by rw [← upd_self hu18]⟩
        clear hu18
        obtain ⟨x, rfl⟩ := hx
        simp only [upd, reduceIte, Nat.reduceEqDiff]
        go_simp
        exact hK _ _ v19.symm hG (fun _ _ _ h => h)
    · rintro u w3 hu L hall hG
      obtain ⟨hG0, s16⟩ := hG
      have h19 : u 19 = V 19 := hu 19 (by simp)
      rw [v19] at h19
      clear hu hall
      rw [h19]
      have hA : s4 = ipHd1 id ttl pr ld.length := by rw [Hs4.out, Hs3.out, Hs2.out, Hs1.out, Hc1.out, Hc2.out, Hx1.out, Hx2.out, Hx3.out]; rfl
      rw [hA]
      go_wp2_with fail
      go_meet
      case rel => exact ⟨rfl, hf0.none hG0, hpa.keep hG0 (fun x => x)⟩
  case rest =>
  obtain ⟨rfl, hf5, hpa5⟩ := hcut
  clear hf0 hpa w1
  obtain ⟨A1, HA1⟩ : ∃ A1, Hid (A1 = ipHd1 id ttl pr ld.length) := ⟨_, Lib.hid rfl⟩
  rw [← HA1.out]
  have LA1 : Hid (A1.length ≤ 10) := by unfold Hid; rw [HA1.out]; simp [ipHd1, big_length]
  go_upto_region 6 with fail
  obtain ⟨w1, rfl⟩ : ∃ w1, w1 = wc := ⟨_, rfl⟩
  have hf0 := hf5
  have hpa := hpa5
  clear hf5 hpa5
  go_cut [5] from 6 to 38 (fun a wx => a = .string (bs (ipHd2 fi ti)) ∧ Fr noB w wx ∧ Bk wx w.heap.size 36 #[.int .u16 (id : Int), .int .u8 (ttl.toNat : Int), .int .u8 (pr.toNat : Int), .int .u32 (fi : Int), .int .u32 (ti : Int), .string (bs ld)])
  case first =>
    obtain ⟨y1, Hy1⟩ : ∃ s : List UInt8, Hid (s = big 4 fi) := ⟨big 4 fi, Lib.hid rfl⟩
    obtain ⟨y2, Hy2⟩ : ∃ s : List UInt8, Hid (s = big 4 ti) := ⟨big 4 ti, Lib.hid rfl⟩
    obtain ⟨t1, Ht1⟩ : ∃ s : List UInt8, Hid (s = y1 ++ y2) := ⟨y1 ++ y2, Lib.hid rfl⟩
    have Ly1 : Hid (y1.length ≤ 4) := by unfold Hid; rw [Hy1.out]; (simp [big_length, macB, bigs_length] <;> omega)
    have Ly2 : Hid (y2.length ≤ 4) := by have l_y1 := Ly1.out; unfold Hid; rw [Hy2.out]; (simp [big_length, macB, bigs_length] <;> omega)
    have Lt1 : Hid (t1.length ≤ 8) := by have l_y1 := Ly1.out; have l_y2 := Ly2.out; unfold Hid; rw [Ht1.out]; (simp [big_length, macB, bigs_length] <;> omega)
    obtain ⟨V, hV⟩ : ∃ V : Nat → Value, V = (fun j => match j with | 0 => .pointer (some ⟨w.heap.size, 3, none⟩) | 1 => .int .u32 (fi : Int) | 2 => .string (bs y1) | 3 => .pointer (some ⟨w.heap.size, 4, none⟩) | 4 => .int .u32 (ti : Int) | 5 => .string (bs y2) | 6 => .string (bs t1) | 7 => .string (bs t1) | _ => undef) := ⟨_, rfl⟩
    have v0 : V 0 = .pointer (some ⟨w.heap.size, 3, none⟩) := congrFun hV 0
    have v1 : V 1 = .int .u32 (fi : Int) := congrFun hV 1
    have v2 : V 2 = .string (bs y1) := congrFun hV 2
    have v3 : V 3 = .pointer (some ⟨w.heap.size, 4, none⟩) := congrFun hV 3
    have v4 : V 4 = .int .u32 (ti : Int) := congrFun hV 4
    have v5 : V 5 = .string (bs y2) := congrFun hV 5
    have v6 : V 6 = .string (bs t1) := congrFun hV 6
    have v7 : V 7 = .string (bs t1) := congrFun hV 7
    clear hV
    refine wp_region_ssau (by kernel_rfl) (by kernel_rfl) (by kernel_rfl)
      (fun u => ⟨#[.agg #[.int .u16 (id : Int), .int .u8 (ttl.toNat : Int), .int .u8 (pr.toNat : Int), .int .u32 (fi : Int), .int .u32 (ti : Int), .string (bs ld)], .pointer (some ⟨w.heap.size, 0, none⟩), .string ⟨#[]⟩, .int .i64 0, .string (bs A1), u 7, u6, u7, u8, u9, u10, u11, u12, u13, u14, u15, u16, u17, u18, u19, u20, u21, u22, u23, u24, u25, u26, u27, u28, u29, u30, u31, u 0, u 1, u 2, u 3, u 4, u 5, u 6, undef, undef, undef, undef, undef, undef, undef, undef, undef, undef, undef, undef, undef], []⟩)
      (fun j v w3 => v = V j)
      (fun L u w3 => Fr noB w1 w3) (fun j => undef) ((Fr.refl _ _).drew) ?_ ?_
    · rintro L u w3 i o hG hΦ ho hL hd K hK
      match i, ho with
      | 0, ho =>
        simp at ho; subst ho
        clear hΦ hd
        go_simp
        exact hK _ _ v0.symm hG (fun _ _ _ h => h)
      | 1, ho =>
        simp at ho; subst ho
        have hu0 : u 0 = V 0 := hΦ 0 (hd ⟨0, .data⟩ (by simp) (by rfl))
        rw [v0] at hu0
        clear hΦ hd
        have hG0 := hG
        have hx : ∃ x, u = (upd x 0 (.pointer (some ⟨w.heap.size, 3, none⟩))) := ⟨u, by rw [← upd_self hu0]⟩
        clear hu0
        obtain ⟨x, rfl⟩ := hx
        simp only [upd, reduceIte, Nat.reduceEqDiff]
        have hc0 := ((hpa).keep hG0 (fun x => x)).cells
        go_simp
        exact hK _ _ v1.symm hG0 (fun _ _ _ h => h)
      | 2, ho =>
        simp at ho; subst ho
        have hu1 : u 1 = V 1 := hΦ 1 (hd ⟨1, .data⟩ (by simp) (by rfl))
        rw [v1] at hu1
        clear hΦ hd
        have hG0 := hG
        have hx : ∃ x, u = (upd x 1 (.int .u32 (fi : Int))) := ⟨u, by rw [← upd_self hu1]⟩
        clear hu1
        obtain ⟨x, rfl⟩ := hx
        simp only [upd, reduceIte, Nat.reduceEqDiff]
        go_simp
        refine (refIp fi w3 (by omega)).mono ?_
        rintro e w4 ⟨rfl, hf4⟩
        rw [← Hy1.out]
        exact hK _ _ v2.symm (hG0.none hf4) (fun _ _ _ h => h)
      | 3, ho =>
        simp at ho; subst ho
        clear hΦ hd
        go_simp
        exact hK _ _ v3.symm hG (fun _ _ _ h => h)
      | 4, ho =>
        simp at ho; subst ho
        have hu3 : u 3 = V 3 := hΦ 3 (hd ⟨3, .data⟩ (by simp) (by rfl))
        rw [v3] at hu3
        clear hΦ hd
        have hG0 := hG
        have hx : ∃ x, u = (upd x 3 (.pointer (some ⟨w.heap.size, 4, none⟩))) := ⟨u, by rw [← upd_self hu3]⟩
        clear hu3
        obtain ⟨x, rfl⟩ := hx
        simp only [upd, reduceIte, Nat.reduceEqDiff]
        have hc0 := ((hpa).keep hG0 (fun x => x)).cells
        go_simp
        exact hK _ _ v4.symm hG0 (fun _ _ _ h => h)
      | 5, ho =>
        simp at ho; subst ho
        have hu4 : u 4 = V 4 := hΦ 4 (hd ⟨4, .data⟩ (by simp) (by rfl))
        rw [v4] at hu4
        clear hΦ hd
        have hG0 := hG
        have hx : ∃ x, u = (upd x 4 (.int .u32 (ti : Int))) := ⟨u, by rw [← upd_self hu4]⟩
        clear hu4
        obtain ⟨x, rfl⟩ := hx
        simp only [upd, reduceIte, Nat.reduceEqDiff]
        go_simp
        refine (refIp ti w3 (by omega)).mono ?_
        rintro e w4 ⟨rfl, hf4⟩
        rw [← Hy2.out]
        exact hK _ _ v5.symm (hG0.none hf4) (fun _ _ _ h => h)
      | 6, ho =>
        simp at ho; subst ho
        have hu2 : u 2 = V 2 := hΦ 2 (hd ⟨2, .data⟩ (by simp) (by rfl))
        rw [v2] at hu2
        have hu5 : u 5 = V 5 := hΦ 5 (hd ⟨5, .data⟩ (by simp) (by rfl))
        rw [v5] at hu5
        clear hΦ hd
        have hx : ∃ x, u = (upd (upd x 2 (.string (bs y1))) 5 (.string (bs y2))) := ⟨u, by rw [← upd_self hu2, ← upd_self hu5]⟩
        clear hu2 hu5
        obtain ⟨x, rfl⟩ := hx
        simp only [upd, reduceIte, Nat.reduceEqDiff]
        have hln : ¬ 9223372036854775807 < y1.length + y2.length := by have l1 := Ly1.out; have l2 := Ly2.out; omega
        go_simp
        rw [← Ht1.out]
        exact hK _ _ v6.symm hG (fun _ _ _ h => h)
      | 7, ho =>
        simp at ho; subst ho
        have hu6 : u 6 = V 6 := hΦ 6 (hd ⟨6, .data⟩ (by simp) (by rfl))
        rw [v6] at hu6
        clear hΦ hd
        have hx : ∃ x, u = (upd x 6 (.string (bs t1))) := ⟨u, by rw [← upd_self hu6]⟩
        clear hu6
        obtain ⟨x, rfl⟩ := hx
        simp only [upd, reduceIte, Nat.reduceEqDiff]
        go_simp
        exact hK _ _ v7.symm hG (fun _ _ _ h => h)
    · rintro u w3 hu L hall hG
      have hG0 := hG
      have h7 : u 7 = V 7 := hu 7 (by simp)
      rw [v7] at h7
      clear hu hall
      rw [h7]
      have hA : t1 = ipHd2 fi ti := by rw [Ht1.out, Hy1.out, Hy2.out]; rfl
      rw [hA]
      go_wp2_with fail
      go_meet
      case rel => exact ⟨rfl, hf0.none hG0, hpa.keep hG0 (fun x => x)⟩
  case rest =>
  obtain ⟨rfl, hf5, hpa5⟩ := hcut
  clear hf0 hpa
  obtain ⟨A2, HA2⟩ : ∃ A2, Hid (A2 = ipHd2 fi ti) := ⟨_, Lib.hid rfl⟩
  rw [← HA2.out]
  have LA2 : Hid (A2.length ≤ 8) := by unfold Hid; rw [HA2.out]; simp [ipHd2, big_length]
  go_upto_region 7 with fail
  clear w1
  obtain ⟨w1, rfl⟩ : ∃ w1, w1 = wc := ⟨_, rfl⟩
  have hf0 := hf5
  have hpa := hpa5
  clear hf5 hpa5
  obtain ⟨c3, Hc3⟩ : ∃ s : List UInt8, Hid (s = [0, 0]) := ⟨[0, 0], Lib.hid rfl⟩
  obtain ⟨p1, Hp1⟩ : ∃ s : List UInt8, Hid (s = A1 ++ c3) := ⟨A1 ++ c3, Lib.hid rfl⟩
  obtain ⟨p2, Hp2⟩ : ∃ s : List UInt8, Hid (s = p1 ++ A2) := ⟨p1 ++ A2, Lib.hid rfl⟩
  obtain ⟨x4, Hx4⟩ : ∃ s : List UInt8, Hid (s = big 2 (check p2)) := ⟨big 2 (check p2), Lib.hid rfl⟩
  obtain ⟨p3, Hp3⟩ : ∃ s : List UInt8, Hid (s = A1 ++ x4) := ⟨A1 ++ x4, Lib.hid rfl⟩
  obtain ⟨p4, Hp4⟩ : ∃ s : List UInt8, Hid (s = p3 ++ A2) := ⟨p3 ++ A2, Lib.hid rfl⟩
  obtain ⟨p5, Hp5⟩ : ∃ s : List UInt8, Hid (s = p4 ++ ld) := ⟨p4 ++ ld, Lib.hid rfl⟩
  have Lc3 : Hid (c3.length ≤ 2) := by have lA1 := LA1.out; have lA2 := LA2.out; have lld := Lld.out; unfold Hid; rw [Hc3.out]; (simp [big_length, macB, bigs_length] <;> omega)
  have Lp1 : Hid (p1.length ≤ 12) := by have lA1 := LA1.out; have lA2 := LA2.out; have lld := Lld.out; have l_c3 := Lc3.out; unfold Hid; rw [Hp1.out]; (simp [big_length, macB, bigs_length] <;> omega)
  have Lp2 : Hid (p2.length ≤ 20) := by have lA1 := LA1.out; have lA2 := LA2.out; have lld := Lld.out; have l_c3 := Lc3.out; have l_p1 := Lp1.out; unfold Hid; rw [Hp2.out]; (simp [big_length, macB, bigs_length] <;> omega)
  have Lx4 : Hid (x4.length ≤ 2) := by have lA1 := LA1.out; have lA2 := LA2.out; have lld := Lld.out; have l_c3 := Lc3.out; have l_p1 := Lp1.out; have l_p2 := Lp2.out; unfold Hid; rw [Hx4.out]; (simp [big_length, macB, bigs_length] <;> omega)
  have Lp3 : Hid (p3.length ≤ 12) := by have lA1 := LA1.out; have lA2 := LA2.out; have lld := Lld.out; have l_c3 := Lc3.out; have l_p1 := Lp1.out; have l_p2 := Lp2.out; have l_x4 := Lx4.out; unfold Hid; rw [Hp3.out]; (simp [big_length, macB, bigs_length] <;> omega)
  have Lp4 : Hid (p4.length ≤ 20) := by have lA1 := LA1.out; have lA2 := LA2.out; have lld := Lld.out; have l_c3 := Lc3.out; have l_p1 := Lp1.out; have l_p2 := Lp2.out; have l_x4 := Lx4.out; have l_p3 := Lp3.out; unfold Hid; rw [Hp4.out]; (simp [big_length, macB, bigs_length] <;> omega)
  have Lp5 : Hid (p5.length ≤ 1500) := by have lA1 := LA1.out; have lA2 := LA2.out; have lld := Lld.out; have l_c3 := Lc3.out; have l_p1 := Lp1.out; have l_p2 := Lp2.out; have l_x4 := Lx4.out; have l_p3 := Lp3.out; have l_p4 := Lp4.out; unfold Hid; rw [Hp5.out]; (simp [big_length, macB, bigs_length] <;> omega)
  obtain ⟨V, hV⟩ : ∃ V : Nat → Value, V = (fun j => match j with | 0 => .string (bs A1) | 1 => .string (bs A1) | 2 => .string (bs p1) | 3 => .string (bs A2) | 4 => .string (bs p2) | 5 => .int .i64 (check p2 : Int) | 6 => .string (bs x4) | 7 => .string (bs p3) | 8 => .string (bs A2) | 9 => .string (bs p4) | 10 => .pointer (some ⟨w.heap.size, 5, none⟩) | 11 => .string (bs ld) | 12 => .string (bs p5) | 13 => .string (bs p5) | 14 => .int .i64 0 | _ => undef) := ⟨_, rfl⟩
  have v0 : V 0 = .string (bs A1) := congrFun hV 0
  have v1 : V 1 = .string (bs A1) := congrFun hV 1
  have v2 : V 2 = .string (bs p1) := congrFun hV 2
  have v3 : V 3 = .string (bs A2) := congrFun hV 3
  have v4 : V 4 = .string (bs p2) := congrFun hV 4
  have v5 : V 5 = .int .i64 (check p2 : Int) := congrFun hV 5
  have v6 : V 6 = .string (bs x4) := congrFun hV 6
  have v7 : V 7 = .string (bs p3) := congrFun hV 7
  have v8 : V 8 = .string (bs A2) := congrFun hV 8
  have v9 : V 9 = .string (bs p4) := congrFun hV 9
  have v10 : V 10 = .pointer (some ⟨w.heap.size, 5, none⟩) := congrFun hV 10
  have v11 : V 11 = .string (bs ld) := congrFun hV 11
  have v12 : V 12 = .string (bs p5) := congrFun hV 12
  have v13 : V 13 = .string (bs p5) := congrFun hV 13
  have v14 : V 14 = .int .i64 0 := congrFun hV 14
  clear hV
  refine wp_region_ssau (by kernel_rfl) (by kernel_rfl) (by kernel_rfl)
    (fun u => ⟨#[.agg #[.int .u16 (id : Int), .int .u8 (ttl.toNat : Int), .int .u8 (pr.toNat : Int), .int .u32 (fi : Int), .int .u32 (ti : Int), .string (bs ld)], .pointer (some ⟨w.heap.size, 0, none⟩), u 13, u 14, .string (bs A1), .string (bs A2), u6, u7, u8, u9, u10, u11, u12, u13, u14, u15, u16, u17, u18, u19, u20, u21, u22, u23, u24, u25, u26, u27, u28, u29, u30, u31, u32, u33, u34, u35, u36, u37, u38, u 0, u 1, u 2, u 3, u 4, u 5, u 6, u 7, u 8, u 9, u 10, u 11, u 12], []⟩)
    (fun j v w3 => v = V j)
    (fun L u w3 => Fr noB w1 w3) (fun j => if j = 13 then .string ⟨#[]⟩ else if j = 14 then .int .i64 0 else undef) ((Fr.refl _ _).drew) ?_ ?_
  · rintro L u w3 i o hG hΦ ho hL hd K hK
    match i, ho with
    | 0, ho =>
      simp at ho; subst ho
      clear hΦ hd
      go_simp
      exact hK _ _ v0.symm hG (fun _ _ _ h => h)
    | 1, ho =>
      simp at ho; subst ho
      clear hΦ hd
      go_simp
      exact hK _ _ v1.symm hG (fun _ _ _ h => h)
    | 2, ho =>
      simp at ho; subst ho
      have hu1 : u 1 = V 1 := hΦ 1 (hd ⟨1, .data⟩ (by simp) (by rfl))
      rw [v1] at hu1
      clear hΦ hd
      have hx : ∃ x, u = (upd x 1 (.string (bs A1))) := ⟨u, by rw [← upd_self hu1]⟩
      clear hu1
      obtain ⟨x, rfl⟩ := hx
      simp only [upd, reduceIte, Nat.reduceEqDiff]
      have hln : ¬ 9223372036854775807 < A1.length + c3.length := by have l1 := LA1.out; have l2 := Lc3.out; omega
      have hcs : (⟨#[0, 0]⟩ : ByteArray) = bs c3 := by rw [Hc3.out]; rfl
      go_simp
      rw [← Hp1.out]
      exact hK _ _ v2.symm hG (fun _ _ _ h => h)
    | 3, ho =>
      simp at ho; subst ho
      clear hΦ hd
      go_simp
      exact hK _ _ v3.symm hG (fun _ _ _ h => h)
    | 4, ho =>
      simp at ho; subst ho
      have hu2 : u 2 = V 2 := hΦ 2 (hd ⟨2, .data⟩ (by simp) (by rfl))
      rw [v2] at hu2
      have hu3 : u 3 = V 3 := hΦ 3 (hd ⟨3, .data⟩ (by simp) (by rfl))
      rw [v3] at hu3
      clear hΦ hd
      have hx : ∃ x, u = (upd (upd x 2 (.string (bs p1))) 3 (.string (bs A2))) := ⟨u, by rw [← upd_self hu2, ← upd_self hu3]⟩
      clear hu2 hu3
      obtain ⟨x, rfl⟩ := hx
      simp only [upd, reduceIte, Nat.reduceEqDiff]
      have hln : ¬ 9223372036854775807 < p1.length + A2.length := by have l1 := Lp1.out; have l2 := LA2.out; omega
      go_simp
      rw [← Hp2.out]
      exact hK _ _ v4.symm hG (fun _ _ _ h => h)
    | 5, ho =>
      simp at ho; subst ho
      have hu4 : u 4 = V 4 := hΦ 4 (hd ⟨4, .data⟩ (by simp) (by rfl))
      rw [v4] at hu4
      clear hΦ hd
      have hG0 := hG
      have hx : ∃ x, u = (upd x 4 (.string (bs p2))) := ⟨u, by rw [← upd_self hu4]⟩
      clear hu4
      obtain ⟨x, rfl⟩ := hx
      simp only [upd, reduceIte, Nat.reduceEqDiff]
      go_simp
      refine (refCheck_any p2 w3 (by have := Lp2.out; omega)).mono ?_
      rintro e w4 ⟨rfl, hf4⟩
      exact hK _ _ v5.symm (hG0.none hf4) (fun _ _ _ h => h)
    | 6, ho =>
      simp at ho; subst ho
      have hu5 : u 5 = V 5 := hΦ 5 (hd ⟨5, .data⟩ (by simp) (by rfl))
      rw [v5] at hu5
      clear hΦ hd
      have hG0 := hG
      have hx : ∃ x, u = (upd x 5 (.int .i64 (check p2 : Int))) := ⟨u, by rw [← upd_self hu5]⟩
      clear hu5
      obtain ⟨x, rfl⟩ := hx
      simp only [upd, reduceIte, Nat.reduceEqDiff]
      go_simp
      refine (refBig (check p2) 2 w3 (by have := check_le p2; omega) (by omega)).mono ?_
      rintro e w4 ⟨rfl, hf4⟩
      rw [← Hx4.out]
      exact hK _ _ v6.symm (hG0.none hf4) (fun _ _ _ h => h)
    | 7, ho =>
      simp at ho; subst ho
      have hu0 : u 0 = V 0 := hΦ 0 (hd ⟨0, .data⟩ (by simp) (by rfl))
      rw [v0] at hu0
      have hu6 : u 6 = V 6 := hΦ 6 (hd ⟨6, .data⟩ (by simp) (by rfl))
      rw [v6] at hu6
      clear hΦ hd
      have hx : ∃ x, u = (upd (upd x 0 (.string (bs A1))) 6 (.string (bs x4))) := ⟨u, by rw [← upd_self hu0, ← upd_self hu6]⟩
      clear hu0 hu6
      obtain ⟨x, rfl⟩ := hx
      simp only [upd, reduceIte, Nat.reduceEqDiff]
      have hln : ¬ 9223372036854775807 < A1.length + x4.length := by have l1 := LA1.out; have l2 := Lx4.out; omega
      go_simp
      rw [← Hp3.out]
      exact hK _ _ v7.symm hG (fun _ _ _ h => h)
    | 8, ho =>
      simp at ho; subst ho
      clear hΦ hd
      go_simp
      exact hK _ _ v8.symm hG (fun _ _ _ h => h)
    | 9, ho =>
      simp at ho; subst ho
      have hu7 : u 7 = V 7 := hΦ 7 (hd ⟨7, .data⟩ (by simp) (by rfl))
      rw [v7] at hu7
      have hu8 : u 8 = V 8 := hΦ 8 (hd ⟨8, .data⟩ (by simp) (by rfl))
      rw [v8] at hu8
      clear hΦ hd
      have hx : ∃ x, u = (upd (upd x 7 (.string (bs p3))) 8 (.string (bs A2))) := ⟨u, by rw [← upd_self hu7, ← upd_self hu8]⟩
      clear hu7 hu8
      obtain ⟨x, rfl⟩ := hx
      simp only [upd, reduceIte, Nat.reduceEqDiff]
      have hln : ¬ 9223372036854775807 < p3.length + A2.length := by have l1 := Lp3.out; have l2 := LA2.out; omega
      go_simp
      rw [← Hp4.out]
      exact hK _ _ v9.symm hG (fun _ _ _ h => h)
    | 10, ho =>
      simp at ho; subst ho
      clear hΦ hd
      go_simp
      exact hK _ _ v10.symm hG (fun _ _ _ h => h)
    | 11, ho =>
      simp at ho; subst ho
      have hu10 : u 10 = V 10 := hΦ 10 (hd ⟨10, .data⟩ (by simp) (by rfl))
      rw [v10] at hu10
      clear hΦ hd
      have hG0 := hG
      have hx : ∃ x, u = (upd x 10 (.pointer (some ⟨w.heap.size, 5, none⟩))) := ⟨u, by rw [← upd_self hu10]⟩
      clear hu10
      obtain ⟨x, rfl⟩ := hx
      simp only [upd, reduceIte, Nat.reduceEqDiff]
      have hc0 := ((hpa).keep hG0 (fun x => x)).cells
      go_simp
      exact hK _ _ v11.symm hG0 (fun _ _ _ h => h)
    | 12, ho =>
      simp at ho; subst ho
      have hu9 : u 9 = V 9 := hΦ 9 (hd ⟨9, .data⟩ (by simp) (by rfl))
      rw [v9] at hu9
      have hu11 : u 11 = V 11 := hΦ 11 (hd ⟨11, .data⟩ (by simp) (by rfl))
      rw [v11] at hu11
      clear hΦ hd
      have hx : ∃ x, u = (upd (upd x 9 (.string (bs p4))) 11 (.string (bs ld))) := ⟨u, by rw [← upd_self hu9, ← upd_self hu11]⟩
      clear hu9 hu11
      obtain ⟨x, rfl⟩ := hx
      simp only [upd, reduceIte, Nat.reduceEqDiff]
      have hln : ¬ 9223372036854775807 < p4.length + ld.length := by have l1 := Lp4.out; have l2 := Lld.out; omega
      go_simp
      rw [← Hp5.out]
      exact hK _ _ v12.symm hG (fun _ _ _ h => h)
    | 13, ho =>
      simp at ho; subst ho
      have hu12 : u 12 = V 12 := hΦ 12 (hd ⟨12, .data⟩ (by simp) (by rfl))
      rw [v12] at hu12
      clear hΦ hd
      have hx : ∃ x, u = (upd x 12 (.string (bs p5))) := ⟨u, by rw [← upd_self hu12]⟩
      clear hu12
      obtain ⟨x, rfl⟩ := hx
      simp only [upd, reduceIte, Nat.reduceEqDiff]
      go_simp
      exact hK _ _ v13.symm hG (fun _ _ _ h => h)
    | 14, ho =>
      simp at ho; subst ho
      clear hΦ hd
      go_simp
      exact hK _ _ v14.symm hG (fun _ _ _ h => h)
  · rintro u w3 hu L hall hG
    have hG0 := hG
    have h13 : u 13 = V 13 := hu 13 (by simp)
    rw [v13] at h13
    have h14 : u 14 = V 14 := hu 14 (by simp)
    rw [v14] at h14
    clear hu hall
    rw [h13, h14]
    have hfr := hf0.none hG0
    have hA : p5 = ipBytes id ttl pr fi ti ld := by rw [Hp5.out, Hp4.out, Hp3.out, Hx4.out, Hp2.out, Hp1.out, Hc3.out, HA1.out, HA2.out]; exact ipBytes_eq id ttl pr fi ti ld
    rw [hA]
    clear hA
    generalize ipBytes id ttl pr fi ti ld = R at *
    go_wp2_with fail
    go_ret2
    exact ⟨by rw [hs.out]; rfl, hfr⟩
end Go.Proofs.YtcbkaiakdhiloabGreatDoor
