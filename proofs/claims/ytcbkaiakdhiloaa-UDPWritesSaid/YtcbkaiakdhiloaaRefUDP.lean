/- WriteUDP, the reference's, and the walk of the law netbootlaw.UDPWrites. -/
import Derived.Test.YtcbkaiakdhiloaaWrUDP
set_option linter.unusedSimpArgs false
set_option linter.unusedVariables false
namespace Go.Proofs.Ytcbkaiakdhiloaa
open Go.RowKit Go.Proofs
attribute [local go_sem] bs_size bs_append bs_sub bs_toList
theorem refBigI (x : Int) (n : Nat) (w : World) (h0 : 0 ≤ x) (hx : x ≤ 4611686018427387904) (hn : n ≤ 1000) :
    Calls Try.prog 31 #[.int .i64 x, .int .i64 n] w fun e w' => e = .returned (.string (bs (big n x.toNat))) ∧ Fr noB w w' := by
  have h := refBig x.toNat n w (by omega) hn
  rw [Int.toNat_of_nonneg h0] at h
  exact h

set_option maxRecDepth 20000 in
set_option maxHeartbeats 1000000 in
theorem refBeside (fi ti : Nat) (n : Int) (w : World) (hfi : fi < 4294967296) (hti : ti < 4294967296) (hn0 : 0 ≤ n) (hn1 : n ≤ 65535) :
    Calls Try.prog 43 #[.int .u32 (fi : Int), .int .u32 (ti : Int), .int .i64 n] w (fun e w' => e = .returned (.string (bs (besideB fi ti n.toNat))) ∧ Fr noB w w') := by
  go_enter Try.func43, Try.ntmps43
  go_upto_region 1 with fail
  obtain ⟨y1, Hy1⟩ : ∃ s : List UInt8, Hid (s = big 4 fi) := ⟨big 4 fi, Lib.hid rfl⟩
  obtain ⟨y2, Hy2⟩ : ∃ s : List UInt8, Hid (s = big 4 ti) := ⟨big 4 ti, Lib.hid rfl⟩
  obtain ⟨t1, Ht1⟩ : ∃ s : List UInt8, Hid (s = y1 ++ y2) := ⟨y1 ++ y2, Lib.hid rfl⟩
  obtain ⟨c1, Hc1⟩ : ∃ s : List UInt8, Hid (s = [0, 17]) := ⟨[0, 17], Lib.hid rfl⟩
  obtain ⟨t2, Ht2⟩ : ∃ s : List UInt8, Hid (s = t1 ++ c1) := ⟨t1 ++ c1, Lib.hid rfl⟩
  obtain ⟨y3, Hy3⟩ : ∃ s : List UInt8, Hid (s = big 2 n.toNat) := ⟨big 2 n.toNat, Lib.hid rfl⟩
  obtain ⟨t3, Ht3⟩ : ∃ s : List UInt8, Hid (s = t2 ++ y3) := ⟨t2 ++ y3, Lib.hid rfl⟩
  have Ly1 : Hid (y1.length ≤ 4) := by unfold Hid; rw [Hy1.out]; (simp [big_length, macB, bigs_length] <;> omega)
  have Ly2 : Hid (y2.length ≤ 4) := by have l_y1 := Ly1.out; unfold Hid; rw [Hy2.out]; (simp [big_length, macB, bigs_length] <;> omega)
  have Lt1 : Hid (t1.length ≤ 8) := by have l_y1 := Ly1.out; have l_y2 := Ly2.out; unfold Hid; rw [Ht1.out]; (simp [big_length, macB, bigs_length] <;> omega)
  have Lc1 : Hid (c1.length ≤ 2) := by have l_y1 := Ly1.out; have l_y2 := Ly2.out; have l_t1 := Lt1.out; unfold Hid; rw [Hc1.out]; (simp [big_length, macB, bigs_length] <;> omega)
  have Lt2 : Hid (t2.length ≤ 10) := by have l_y1 := Ly1.out; have l_y2 := Ly2.out; have l_t1 := Lt1.out; have l_c1 := Lc1.out; unfold Hid; rw [Ht2.out]; (simp [big_length, macB, bigs_length] <;> omega)
  have Ly3 : Hid (y3.length ≤ 2) := by have l_y1 := Ly1.out; have l_y2 := Ly2.out; have l_t1 := Lt1.out; have l_c1 := Lc1.out; have l_t2 := Lt2.out; unfold Hid; rw [Hy3.out]; (simp [big_length, macB, bigs_length] <;> omega)
  have Lt3 : Hid (t3.length ≤ 12) := by have l_y1 := Ly1.out; have l_y2 := Ly2.out; have l_t1 := Lt1.out; have l_c1 := Lc1.out; have l_t2 := Lt2.out; have l_y3 := Ly3.out; unfold Hid; rw [Ht3.out]; (simp [big_length, macB, bigs_length] <;> omega)
  obtain ⟨V, hV⟩ : ∃ V : Nat → Value, V = (fun j => match j with | 0 => .int .u32 (fi : Int) | 1 => .string (bs y1) | 2 => .int .u32 (ti : Int) | 3 => .string (bs y2) | 4 => .string (bs t1) | 5 => .string (bs t2) | 6 => .int .i64 n | 7 => .string (bs y3) | 8 => .string (bs t3) | 9 => .string (bs t3) | _ => undef) := ⟨_, rfl⟩
  have v0 : V 0 = .int .u32 (fi : Int) := congrFun hV 0
  have v1 : V 1 = .string (bs y1) := congrFun hV 1
  have v2 : V 2 = .int .u32 (ti : Int) := congrFun hV 2
  have v3 : V 3 = .string (bs y2) := congrFun hV 3
  have v4 : V 4 = .string (bs t1) := congrFun hV 4
  have v5 : V 5 = .string (bs t2) := congrFun hV 5
  have v6 : V 6 = .int .i64 n := congrFun hV 6
  have v7 : V 7 = .string (bs y3) := congrFun hV 7
  have v8 : V 8 = .string (bs t3) := congrFun hV 8
  have v9 : V 9 = .string (bs t3) := congrFun hV 9
  clear hV
  refine wp_region_ssau_plain (by kernel_rfl) (by kernel_rfl) (by kernel_rfl)
    (fun u => ⟨#[.int .u32 (fi : Int), .int .u32 (ti : Int), .int .i64 n, undef, undef, undef, u 9, u 0, u 1, u 2, u 3, u 4, u 5, u 6, u 7, u 8], []⟩)
    (fun j v w3 => v = V j)
    (fun L u w3 => Fr noB w w3) (fun j => if j = 9 then .string ⟨#[]⟩ else undef) ((Fr.refl _ _)) ?_ ?_
  · rintro L u w3 i o hG hΦ ho hL hd K hK
    match i, ho with
    | 0, ho =>
      simp at ho; subst ho
      clear hΦ hd
      go_simp
      exact hK _ _ v0.symm hG (fun _ _ _ h => h)
    | 1, ho =>
      simp at ho; subst ho
      have hu0 : u 0 = V 0 := hΦ 0 (hd ⟨0, .data⟩ (by simp) (by rfl))
      rw [v0] at hu0
      clear hΦ hd
      have hG0 := hG
      have hx : ∃ x, u = (upd x 0 (.int .u32 (fi : Int))) := ⟨u, by rw [← upd_self hu0]⟩
      clear hu0
      obtain ⟨x, rfl⟩ := hx
      simp only [upd, reduceIte, Nat.reduceEqDiff]
      go_simp
      refine (refIp fi w3 (by omega)).mono ?_
      rintro e w4 ⟨rfl, hf4⟩
      rw [← Hy1.out]
      exact hK _ _ v1.symm (hG0.none hf4) (fun _ _ _ h => h)
    | 2, ho =>
      simp at ho; subst ho
      clear hΦ hd
      go_simp
      exact hK _ _ v2.symm hG (fun _ _ _ h => h)
    | 3, ho =>
      simp at ho; subst ho
      have hu2 : u 2 = V 2 := hΦ 2 (hd ⟨2, .data⟩ (by simp) (by rfl))
      rw [v2] at hu2
      clear hΦ hd
      have hG0 := hG
      have hx : ∃ x, u = (upd x 2 (.int .u32 (ti : Int))) := ⟨u, by rw [← upd_self hu2]⟩
      clear hu2
      obtain ⟨x, rfl⟩ := hx
      simp only [upd, reduceIte, Nat.reduceEqDiff]
      go_simp
      refine (refIp ti w3 (by omega)).mono ?_
      rintro e w4 ⟨rfl, hf4⟩
      rw [← Hy2.out]
      exact hK _ _ v3.symm (hG0.none hf4) (fun _ _ _ h => h)
    | 4, ho =>
      simp at ho; subst ho
      have hu1 : u 1 = V 1 := hΦ 1 (hd ⟨1, .data⟩ (by simp) (by rfl))
      rw [v1] at hu1
      have hu3 : u 3 = V 3 := hΦ 3 (hd ⟨3, .data⟩ (by simp) (by rfl))
      rw [v3] at hu3
      clear hΦ hd
      have hx : ∃ x, u = (upd (upd x 1 (.string (bs y1))) 3 (.string (bs y2))) := ⟨u, by rw [← upd_self hu1, ← upd_self hu3]⟩
      clear hu1 hu3
      obtain ⟨x, rfl⟩ := hx
      simp only [upd, reduceIte, Nat.reduceEqDiff]
      have hln : ¬ 9223372036854775807 < y1.length + y2.length := by have l1 := Ly1.out; have l2 := Ly2.out; omega
      go_simp
      rw [← Ht1.out]
      exact hK _ _ v4.symm hG (fun _ _ _ h => h)
    | 5, ho =>
      simp at ho; subst ho
      have hu4 : u 4 = V 4 := hΦ 4 (hd ⟨4, .data⟩ (by simp) (by rfl))
      rw [v4] at hu4
      clear hΦ hd
      have hx : ∃ x, u = (upd x 4 (.string (bs t1))) := ⟨u, by rw [← upd_self hu4]⟩
      clear hu4
      obtain ⟨x, rfl⟩ := hx
      simp only [upd, reduceIte, Nat.reduceEqDiff]
      have hln : ¬ 9223372036854775807 < t1.length + c1.length := by have l1 := Lt1.out; have l2 := Lc1.out; omega
      have hcs : (⟨#[0, 17]⟩ : ByteArray) = bs c1 := by rw [Hc1.out]; rfl
      go_simp
      rw [← Ht2.out]
      exact hK _ _ v5.symm hG (fun _ _ _ h => h)
    | 6, ho =>
      simp at ho; subst ho
      clear hΦ hd
      go_simp
      exact hK _ _ v6.symm hG (fun _ _ _ h => h)
    | 7, ho =>
      simp at ho; subst ho
      have hu6 : u 6 = V 6 := hΦ 6 (hd ⟨6, .data⟩ (by simp) (by rfl))
      rw [v6] at hu6
      clear hΦ hd
      have hG0 := hG
      have hx : ∃ x, u = (upd x 6 (.int .i64 n)) := ⟨u, by rw [← upd_self hu6]⟩
      clear hu6
      obtain ⟨x, rfl⟩ := hx
      simp only [upd, reduceIte, Nat.reduceEqDiff]
      go_simp
      refine (refBigI n 2 w3 hn0 (by omega) (by omega)).mono ?_
      rintro e w4 ⟨rfl, hf4⟩
      rw [← Hy3.out]
      exact hK _ _ v7.symm (hG0.none hf4) (fun _ _ _ h => h)
    | 8, ho =>
      simp at ho; subst ho
      have hu5 : u 5 = V 5 := hΦ 5 (hd ⟨5, .data⟩ (by simp) (by rfl))
      rw [v5] at hu5
      have hu7 : u 7 = V 7 := hΦ 7 (hd ⟨7, .data⟩ (by simp) (by rfl))
      rw [v7] at hu7
      clear hΦ hd
      have hx : ∃ x, u = (upd (upd x 5 (.string (bs t2))) 7 (.string (bs y3))) := ⟨u, by rw [← upd_self hu5, ← upd_self hu7]⟩
      clear hu5 hu7
      obtain ⟨x, rfl⟩ := hx
      simp only [upd, reduceIte, Nat.reduceEqDiff]
      have hln : ¬ 9223372036854775807 < t2.length + y3.length := by have l1 := Lt2.out; have l2 := Ly3.out; omega
      go_simp
      rw [← Ht3.out]
      exact hK _ _ v8.symm hG (fun _ _ _ h => h)
    | 9, ho =>
      simp at ho; subst ho
      have hu8 : u 8 = V 8 := hΦ 8 (hd ⟨8, .data⟩ (by simp) (by rfl))
      rw [v8] at hu8
      clear hΦ hd
      have hx : ∃ x, u = (upd x 8 (.string (bs t3))) := ⟨u, by rw [← upd_self hu8]⟩
      clear hu8
      obtain ⟨x, rfl⟩ := hx
      simp only [upd, reduceIte, Nat.reduceEqDiff]
      go_simp
      exact hK _ _ v9.symm hG (fun _ _ _ h => h)
  · rintro u w3 hu L hall hG
    have hG0 := hG
    have h9 : u 9 = V 9 := hu 9 (by simp)
    rw [v9] at h9
    clear hu hall
    rw [h9]
    have hA : t3 = besideB fi ti n.toNat := by rw [Ht3.out, Ht2.out, Ht1.out, Hc1.out, Hy1.out, Hy2.out, Hy3.out]; rfl
    rw [hA]
    clear hA
    generalize hR : besideB fi ti n.toNat = R at *
    have HR := Lib.hid hR
    clear hR
    go_wp2_with fail
    go_ret
    exact ⟨by rw [HR.out]; rfl, hG0⟩

set_option maxRecDepth 20000 in
set_option maxHeartbeats 2000000 in
theorem refWriteUDP (fm tp fi ti : Nat) (ld : List UInt8) (w : World) (hfm : fm < 65536) (htp : tp < 65536) (hfi : fi < 4294967296) (hti : ti < 4294967296) (hld : ld.length ≤ 4611686018427387000) :
    Calls Try.prog 26 #[.agg #[.int .u16 (fm : Int), .int .u16 (tp : Int), .string (bs ld)], .int .u32 (fi : Int), .int .u32 (ti : Int)] w (strPost (wrUDP fm tp fi ti ld) w) := by
  have hpa := Bk.new w 56 #[.int .u16 (fm : Int), .int .u16 (tp : Int), .string (bs ld)]
  have hpa0 := hpa.cells
  have e8 : IntKind.i64.wrap (8 + (ld.length : Int)) = 8 + (ld.length : Int) := IntWalk.i64_in _ (by omega)
  have hf0 : Fr noB w (w.alloc (.cells #[.int .u16 (fm : Int), .int .u16 (tp : Int), .string (bs ld)] 56)) := (Fr.refl _ _).alloc _
  go_enter Try.func26, Try.ntmps26
  by_cases h1 : 1480 < 8 + ld.length
  · have hs : Hid (wrUDP fm tp fi ti ld = ([], 7)) := by unfold Hid wrUDP; rw [if_pos h1]
    have b1 : 1480 < 8 + (ld.length : Int) := by omega
    clear h1
    go_wp2_with fail
    go_ret2
    exact ⟨by rw [hs.out]; rfl, hf0⟩
  have b1 : ¬ 1480 < 8 + (ld.length : Int) := by omega
  have hs : Hid (wrUDP fm tp fi ti ld = (udpWith fm tp ld (udpSum fm tp fi ti ld), 0)) := by unfold Hid wrUDP; rw [if_neg h1]
  have hl2 : ld.length ≤ 1480 := by omega
  have Lld := Lib.hid hl2
  clear h1
  go_upto_if 16 with fail
  go_cut [6, 7] from 11 to 16 (fun a b wx => a = .string ⟨#[]⟩ ∧ b = .int .i64 0 ∧ wx = w.alloc (.cells #[.int .u16 (fm : Int), .int .u16 (tp : Int), .string (bs ld)] 56))
  case first =>
    go_wp2_with fail
    go_meet
    case rel => exact ⟨rfl, rfl, rfl⟩
  case rest =>
  obtain ⟨rfl, rfl, rfl⟩ := hcut
  clear hpa0
  go_upto_region 4 with fail
  generalize w.alloc (.cells #[.int .u16 (fm : Int), .int .u16 (tp : Int), .string (bs ld)] 56) = w1 at *
  go_cut [9] from 11 to 28 (fun a wx => a = .string (bs (udpA fm tp (8 + ld.length))) ∧ Fr noB w wx ∧ Bk wx w.heap.size 56 #[.int .u16 (fm : Int), .int .u16 (tp : Int), .string (bs ld)])
  case first =>
    obtain ⟨x1, Hx1⟩ : ∃ s : List UInt8, Hid (s = big 2 fm) := ⟨big 2 fm, Lib.hid rfl⟩
    obtain ⟨x2, Hx2⟩ : ∃ s : List UInt8, Hid (s = big 2 tp) := ⟨big 2 tp, Lib.hid rfl⟩
    obtain ⟨s1, Hs1⟩ : ∃ s : List UInt8, Hid (s = x1 ++ x2) := ⟨x1 ++ x2, Lib.hid rfl⟩
    obtain ⟨x3, Hx3⟩ : ∃ s : List UInt8, Hid (s = big 2 (8 + ld.length)) := ⟨big 2 (8 + ld.length), Lib.hid rfl⟩
    obtain ⟨s2, Hs2⟩ : ∃ s : List UInt8, Hid (s = s1 ++ x3) := ⟨s1 ++ x3, Lib.hid rfl⟩
    have Lx1 : Hid (x1.length ≤ 2) := by unfold Hid; rw [Hx1.out]; (simp [big_length, macB, bigs_length] <;> omega)
    have Lx2 : Hid (x2.length ≤ 2) := by have l_x1 := Lx1.out; unfold Hid; rw [Hx2.out]; (simp [big_length, macB, bigs_length] <;> omega)
    have Ls1 : Hid (s1.length ≤ 4) := by have l_x1 := Lx1.out; have l_x2 := Lx2.out; unfold Hid; rw [Hs1.out]; (simp [big_length, macB, bigs_length] <;> omega)
    have Lx3 : Hid (x3.length ≤ 2) := by have l_x1 := Lx1.out; have l_x2 := Lx2.out; have l_s1 := Ls1.out; unfold Hid; rw [Hx3.out]; (simp [big_length, macB, bigs_length] <;> omega)
    have Ls2 : Hid (s2.length ≤ 6) := by have l_x1 := Lx1.out; have l_x2 := Lx2.out; have l_s1 := Ls1.out; have l_x3 := Lx3.out; unfold Hid; rw [Hs2.out]; (simp [big_length, macB, bigs_length] <;> omega)
    obtain ⟨V, hV⟩ : ∃ V : Nat → Value, V = (fun j => match j with | 0 => .pointer (some ⟨w.heap.size, 0, none⟩) | 1 => .int .u16 (fm : Int) | 2 => .int .i64 (fm : Int) | 3 => .string (bs x1) | 4 => .pointer (some ⟨w.heap.size, 1, none⟩) | 5 => .int .u16 (tp : Int) | 6 => .int .i64 (tp : Int) | 7 => .string (bs x2) | 8 => .string (bs s1) | 9 => .int .i64 (8 + (ld.length : Int)) | 10 => .string (bs x3) | 11 => .string (bs s2) | 12 => .string (bs s2) | _ => undef) := ⟨_, rfl⟩
    have v0 : V 0 = .pointer (some ⟨w.heap.size, 0, none⟩) := congrFun hV 0
    have v1 : V 1 = .int .u16 (fm : Int) := congrFun hV 1
    have v2 : V 2 = .int .i64 (fm : Int) := congrFun hV 2
    have v3 : V 3 = .string (bs x1) := congrFun hV 3
    have v4 : V 4 = .pointer (some ⟨w.heap.size, 1, none⟩) := congrFun hV 4
    have v5 : V 5 = .int .u16 (tp : Int) := congrFun hV 5
    have v6 : V 6 = .int .i64 (tp : Int) := congrFun hV 6
    have v7 : V 7 = .string (bs x2) := congrFun hV 7
    have v8 : V 8 = .string (bs s1) := congrFun hV 8
    have v9 : V 9 = .int .i64 (8 + (ld.length : Int)) := congrFun hV 9
    have v10 : V 10 = .string (bs x3) := congrFun hV 10
    have v11 : V 11 = .string (bs s2) := congrFun hV 11
    have v12 : V 12 = .string (bs s2) := congrFun hV 12
    clear hV
    refine wp_region_ssau (by kernel_rfl) (by kernel_rfl) (by kernel_rfl)
      (fun u => ⟨#[.agg #[.int .u16 (fm : Int), .int .u16 (tp : Int), .string (bs ld)], .int .u32 (fi : Int), .int .u32 (ti : Int), .pointer (some ⟨w.heap.size, 0, none⟩), undef, undef, .string ⟨#[]⟩, .int .i64 0, .int .i64 (8 + (ld.length : Int)), u 12, undef, u11, u12, u13, u14, u15, u16, u 0, u 1, u 2, u 3, u 4, u 5, u 6, u 7, u 8, u 9, u 10, u 11, undef, undef, undef, undef, undef, undef, undef, undef, undef, undef, undef, undef, undef, undef, undef, undef, undef, undef, undef, undef], []⟩)
      (fun j v w3 => v = V j)
      (fun L u w3 => Fr noB w1 w3) (fun j => undef) ((Fr.refl _ _).drew) ?_ ?_
    · rintro L u w3 i o hG hΦ ho hL hd K hK
      match i, ho with
      | 0, ho =>
        simp at ho; subst ho
        clear hΦ hd
        go_simp
        exact hK _ _ v0.symm hG (fun _ _ _ h => h)
      | 1, ho =>
        simp at ho; subst ho
        have hu0 : u 0 = V 0 := hΦ 0 (hd ⟨0, .data⟩ (by simp) (by rfl))
        rw [v0] at hu0
        clear hΦ hd
        have hG0 := hG
        have hx : ∃ x, u = (upd x 0 (.pointer (some ⟨w.heap.size, 0, none⟩))) := ⟨u, by rw [← upd_self hu0]⟩
        clear hu0
        obtain ⟨x, rfl⟩ := hx
        simp only [upd, reduceIte, Nat.reduceEqDiff]
        have hc0 := ((hpa).keep hG0 (fun x => x)).cells
        go_simp
        exact hK _ _ v1.symm hG0 (fun _ _ _ h => h)
      | 2, ho =>
        simp at ho; subst ho
        have hu1 : u 1 = V 1 := hΦ 1 (hd ⟨1, .data⟩ (by simp) (by rfl))
        rw [v1] at hu1
        clear hΦ hd
        have hx : ∃ x, u = (upd x 1 (.int .u16 (fm : Int))) := ⟨u, by rw [← upd_self hu1]⟩
        clear hu1
        obtain ⟨x, rfl⟩ := hx
        simp only [upd, reduceIte, Nat.reduceEqDiff]
        have e2 : IntKind.i64.wrap (fm : Int) = fm := IntWalk.i64_in _ (by omega)
        have e2' : wrap64 (fm : Int) = fm := wr64 (by omega) (by omega)
        go_simp
        exact hK _ _ v2.symm hG (fun _ _ _ h => h)
      | 3, ho =>
        simp at ho; subst ho
        have hu2 : u 2 = V 2 := hΦ 2 (hd ⟨2, .data⟩ (by simp) (by rfl))
        rw [v2] at hu2
        clear hΦ hd
        have hG0 := hG
        have hx : ∃ x, u = (upd x 2 (.int .i64 (fm : Int))) := ⟨u, by rw [← upd_self hu2]⟩
        clear hu2
        obtain ⟨x, rfl⟩ := hx
        simp only [upd, reduceIte, Nat.reduceEqDiff]
        go_simp
        refine (refBig fm 2 w3 (by omega) (by omega)).mono ?_
        rintro e w4 ⟨rfl, hf4⟩
        rw [← Hx1.out]
        exact hK _ _ v3.symm (hG0.none hf4) (fun _ _ _ h => h)
      | 4, ho =>
        simp at ho; subst ho
        clear hΦ hd
        go_simp
        exact hK _ _ v4.symm hG (fun _ _ _ h => h)
      | 5, ho =>
        simp at ho; subst ho
        have hu4 : u 4 = V 4 := hΦ 4 (hd ⟨4, .data⟩ (by simp) (by rfl))
        rw [v4] at hu4
        clear hΦ hd
        have hG0 := hG
        have hx : ∃ x, u = (upd x 4 (.pointer (some ⟨w.heap.size, 1, none⟩))) := ⟨u, by rw [← upd_self hu4]⟩
        clear hu4
        obtain ⟨x, rfl⟩ := hx
        simp only [upd, reduceIte, Nat.reduceEqDiff]
        have hc0 := ((hpa).keep hG0 (fun x => x)).cells
        go_simp
        exact hK _ _ v5.symm hG0 (fun _ _ _ h => h)
      | 6, ho =>
        simp at ho; subst ho
        have hu5 : u 5 = V 5 := hΦ 5 (hd ⟨5, .data⟩ (by simp) (by rfl))
        rw [v5] at hu5
        clear hΦ hd
        have hx : ∃ x, u = (upd x 5 (.int .u16 (tp : Int))) := ⟨u, by rw [← upd_self hu5]⟩
        clear hu5
        obtain ⟨x, rfl⟩ := hx
        simp only [upd, reduceIte, Nat.reduceEqDiff]
        have e2 : IntKind.i64.wrap (tp : Int) = tp := IntWalk.i64_in _ (by omega)
        have e2' : wrap64 (tp : Int) = tp := wr64 (by omega) (by omega)
        go_simp
        exact hK _ _ v6.symm hG (fun _ _ _ h => h)
      | 7, ho =>
        simp at ho; subst ho
        have hu6 : u 6 = V 6 := hΦ 6 (hd ⟨6, .data⟩ (by simp) (by rfl))
        rw [v6] at hu6
        clear hΦ hd
        have hG0 := hG
        have hx : ∃ x, u = (upd x 6 (.int .i64 (tp : Int))) := ⟨u, by rw [← upd_self hu6]⟩
        clear hu6
        obtain ⟨x, rfl⟩ := hx
        simp only [upd, reduceIte, Nat.reduceEqDiff]
        go_simp
        refine (refBig tp 2 w3 (by omega) (by omega)).mono ?_
        rintro e w4 ⟨rfl, hf4⟩
        rw [← Hx2.out]
        exact hK _ _ v7.symm (hG0.none hf4) (fun _ _ _ h => h)
      | 8, ho =>
        simp at ho; subst ho
        have hu3 : u 3 = V 3 := hΦ 3 (hd ⟨3, .data⟩ (by simp) (by rfl))
        rw [v3] at hu3
        have hu7 : u 7 = V 7 := hΦ 7 (hd ⟨7, .data⟩ (by simp) (by rfl))
        rw [v7] at hu7
        clear hΦ hd
        have hx : ∃ x, u = (upd (upd x 3 (.string (bs x1))) 7 (.string (bs x2))) := ⟨u, by rw [← upd_self hu3, ← upd_self hu7]⟩
        clear hu3 hu7
        obtain ⟨x, rfl⟩ := hx
        simp only [upd, reduceIte, Nat.reduceEqDiff]
        have hln : ¬ 9223372036854775807 < x1.length + x2.length := by have l1 := Lx1.out; have l2 := Lx2.out; omega
        go_simp
        rw [← Hs1.out]
        exact hK _ _ v8.symm hG (fun _ _ _ h => h)
      | 9, ho =>
        simp at ho; subst ho
        clear hΦ hd
        go_simp
        exact hK _ _ v9.symm hG (fun _ _ _ h => h)
      | 10, ho =>
        simp at ho; subst ho
        have hu9 : u 9 = V 9 := hΦ 9 (hd ⟨9, .data⟩ (by simp) (by rfl))
        rw [v9] at hu9
        clear hΦ hd
        have hG0 := hG
        have hx : ∃ x, u = (upd x 9 (.int .i64 (8 + (ld.length : Int)))) := ⟨u, by rw [← upd_self hu9]⟩
        clear hu9
        obtain ⟨x, rfl⟩ := hx
        simp only [upd, reduceIte, Nat.reduceEqDiff]
        go_simp
        refine (refBigI (8 + (ld.length : Int)) 2 w3 (by omega) (by omega) (by omega)).mono ?_
        rintro e w4 ⟨rfl, hf4⟩
        rw [show (8 + (ld.length : Int)).toNat = 8 + ld.length by omega, ← Hx3.out]
        exact hK _ _ v10.symm (hG0.none hf4) (fun _ _ _ h => h)
      | 11, ho =>
        simp at ho; subst ho
        have hu8 : u 8 = V 8 := hΦ 8 (hd ⟨8, .data⟩ (by simp) (by rfl))
        rw [v8] at hu8
        have hu10 : u 10 = V 10 := hΦ 10 (hd ⟨10, .data⟩ (by simp) (by rfl))
        rw [v10] at hu10
        clear hΦ hd
        have hx : ∃ x, u = (upd (upd x 8 (.string (bs s1))) 10 (.string (bs x3))) := ⟨u, by rw [← upd_self hu8, ← upd_self hu10]⟩
        clear hu8 hu10
        obtain ⟨x, rfl⟩ := hx
        simp only [upd, reduceIte, Nat.reduceEqDiff]
        have hln : ¬ 9223372036854775807 < s1.length + x3.length := by have l1 := Ls1.out; have l2 := Lx3.out; omega
        go_simp
        rw [← Hs2.out]
        exact hK _ _ v11.symm hG (fun _ _ _ h => h)
      | 12, ho =>
        simp at ho; subst ho
        have hu11 : u 11 = V 11 := hΦ 11 (hd ⟨11, .data⟩ (by simp) (by rfl))
        rw [v11] at hu11
        clear hΦ hd
        have hx : ∃ x, u = (upd x 11 (.string (bs s2))) := ⟨u, by rw [← upd_self hu11]⟩
        clear hu11
        obtain ⟨x, rfl⟩ := hx
        simp only [upd, reduceIte, Nat.reduceEqDiff]
        go_simp
        exact hK _ _ v12.symm hG (fun _ _ _ h => h)
    · rintro u w3 hu L hall hG
      have hG0 := hG
      have h12 : u 12 = V 12 := hu 12 (by simp)
      rw [v12] at h12
      clear hu hall
      rw [h12]
      have hA : s2 = udpA fm tp (8 + ld.length) := by rw [Hs2.out, Hs1.out, Hx1.out, Hx2.out, Hx3.out]; rfl
      rw [hA]
      go_wp2_with fail
      go_meet
      case rel => exact ⟨rfl, hf0.none hG0, hpa.keep hG0 (fun x => x)⟩
  case rest =>
  obtain ⟨rfl, hf5, hpa5⟩ := hcut
  clear hf0 hpa w1
  obtain ⟨A1, HA1⟩ : ∃ A1, Hid (A1 = udpA fm tp (8 + ld.length)) := ⟨_, Lib.hid rfl⟩
  rw [← HA1.out]
  have LA1 : Hid (A1.length ≤ 6) := by unfold Hid; rw [HA1.out, udpA_length]; omega
  go_upto_region 5 with fail
  obtain ⟨w1, rfl⟩ : ∃ w1, w1 = wc := ⟨_, rfl⟩
  have hf0 := hf5
  have hpa := hpa5
  clear hf5 hpa5
  go_cut [10] from 11 to 39 (fun a wx => a = .int .i64 (udpSum0 fm tp fi ti ld : Int) ∧ Fr noB w wx ∧ Bk wx w.heap.size 56 #[.int .u16 (fm : Int), .int .u16 (tp : Int), .string (bs ld)])
  case first =>
    obtain ⟨y1, Hy1⟩ : ∃ s : List UInt8, Hid (s = besideB fi ti (8 + ld.length)) := ⟨besideB fi ti (8 + ld.length), Lib.hid rfl⟩
    obtain ⟨t1, Ht1⟩ : ∃ s : List UInt8, Hid (s = y1 ++ A1) := ⟨y1 ++ A1, Lib.hid rfl⟩
    obtain ⟨c1, Hc1⟩ : ∃ s : List UInt8, Hid (s = [0, 0]) := ⟨[0, 0], Lib.hid rfl⟩
    obtain ⟨t2, Ht2⟩ : ∃ s : List UInt8, Hid (s = t1 ++ c1) := ⟨t1 ++ c1, Lib.hid rfl⟩
    obtain ⟨t3, Ht3⟩ : ∃ s : List UInt8, Hid (s = t2 ++ ld) := ⟨t2 ++ ld, Lib.hid rfl⟩
    have Ly1 : Hid (y1.length ≤ 12) := by have lA1 := LA1.out; have lld := Lld.out; unfold Hid; rw [Hy1.out]; first | (rw [beside_length]; omega) | (rw [udpA_length]; omega) | (rw [udpWith_length]; omega) | (simp [big_length, macB, bigs_length] <;> omega)
    have Lt1 : Hid (t1.length ≤ 18) := by have lA1 := LA1.out; have lld := Lld.out; have l_y1 := Ly1.out; unfold Hid; rw [Ht1.out]; first | (rw [beside_length]; omega) | (rw [udpA_length]; omega) | (rw [udpWith_length]; omega) | (simp [big_length, macB, bigs_length] <;> omega)
    have Lc1 : Hid (c1.length ≤ 2) := by have lA1 := LA1.out; have lld := Lld.out; have l_y1 := Ly1.out; have l_t1 := Lt1.out; unfold Hid; rw [Hc1.out]; first | (rw [beside_length]; omega) | (rw [udpA_length]; omega) | (rw [udpWith_length]; omega) | (simp [big_length, macB, bigs_length] <;> omega)
    have Lt2 : Hid (t2.length ≤ 20) := by have lA1 := LA1.out; have lld := Lld.out; have l_y1 := Ly1.out; have l_t1 := Lt1.out; have l_c1 := Lc1.out; unfold Hid; rw [Ht2.out]; first | (rw [beside_length]; omega) | (rw [udpA_length]; omega) | (rw [udpWith_length]; omega) | (simp [big_length, macB, bigs_length] <;> omega)
    have Lt3 : Hid (t3.length ≤ 1500) := by have lA1 := LA1.out; have lld := Lld.out; have l_y1 := Ly1.out; have l_t1 := Lt1.out; have l_c1 := Lc1.out; have l_t2 := Lt2.out; unfold Hid; rw [Ht3.out]; first | (rw [beside_length]; omega) | (rw [udpA_length]; omega) | (rw [udpWith_length]; omega) | (simp [big_length, macB, bigs_length] <;> omega)
    obtain ⟨V, hV⟩ : ∃ V : Nat → Value, V = (fun j => match j with | 0 => .int .u32 (fi : Int) | 1 => .int .u32 (ti : Int) | 2 => .int .i64 (8 + (ld.length : Int)) | 3 => .string (bs y1) | 4 => .string (bs A1) | 5 => .string (bs t1) | 6 => .string (bs t2) | 7 => .pointer (some ⟨w.heap.size, 2, none⟩) | 8 => .string (bs ld) | 9 => .string (bs t3) | 10 => .int .i64 (check t3 : Int) | 11 => .int .i64 (check t3 : Int) | _ => undef) := ⟨_, rfl⟩
    have v0 : V 0 = .int .u32 (fi : Int) := congrFun hV 0
    have v1 : V 1 = .int .u32 (ti : Int) := congrFun hV 1
    have v2 : V 2 = .int .i64 (8 + (ld.length : Int)) := congrFun hV 2
    have v3 : V 3 = .string (bs y1) := congrFun hV 3
    have v4 : V 4 = .string (bs A1) := congrFun hV 4
    have v5 : V 5 = .string (bs t1) := congrFun hV 5
    have v6 : V 6 = .string (bs t2) := congrFun hV 6
    have v7 : V 7 = .pointer (some ⟨w.heap.size, 2, none⟩) := congrFun hV 7
    have v8 : V 8 = .string (bs ld) := congrFun hV 8
    have v9 : V 9 = .string (bs t3) := congrFun hV 9
    have v10 : V 10 = .int .i64 (check t3 : Int) := congrFun hV 10
    have v11 : V 11 = .int .i64 (check t3 : Int) := congrFun hV 11
    clear hV
    refine wp_region_ssau (by kernel_rfl) (by kernel_rfl) (by kernel_rfl)
      (fun u => ⟨#[.agg #[.int .u16 (fm : Int), .int .u16 (tp : Int), .string (bs ld)], .int .u32 (fi : Int), .int .u32 (ti : Int), .pointer (some ⟨w.heap.size, 0, none⟩), undef, undef, .string ⟨#[]⟩, .int .i64 0, .int .i64 (8 + (ld.length : Int)), .string (bs A1), u 11, u11, u12, u13, u14, u15, u16, u17, u18, u19, u20, u21, u22, u23, u24, u25, u26, u27, u28, u 0, u 1, u 2, u 3, u 4, u 5, u 6, u 7, u 8, u 9, u 10, undef, undef, undef, undef, undef, undef, undef, undef, undef], []⟩)
      (fun j v w3 => v = V j)
      (fun L u w3 => Fr noB w1 w3) (fun j => undef) ((Fr.refl _ _).drew) ?_ ?_
    · rintro L u w3 i o hG hΦ ho hL hd K hK
      match i, ho with
      | 0, ho =>
        simp at ho; subst ho
        clear hΦ hd
        go_simp
        exact hK _ _ v0.symm hG (fun _ _ _ h => h)
      | 1, ho =>
        simp at ho; subst ho
        clear hΦ hd
        go_simp
        exact hK _ _ v1.symm hG (fun _ _ _ h => h)
      | 2, ho =>
        simp at ho; subst ho
        clear hΦ hd
        go_simp
        exact hK _ _ v2.symm hG (fun _ _ _ h => h)
      | 3, ho =>
        simp at ho; subst ho
        have hu0 : u 0 = V 0 := hΦ 0 (hd ⟨0, .data⟩ (by simp) (by rfl))
        rw [v0] at hu0
        have hu1 : u 1 = V 1 := hΦ 1 (hd ⟨1, .data⟩ (by simp) (by rfl))
        rw [v1] at hu1
        have hu2 : u 2 = V 2 := hΦ 2 (hd ⟨2, .data⟩ (by simp) (by rfl))
        rw [v2] at hu2
        clear hΦ hd
        have hG0 := hG
        have hx : ∃ x, u = (upd (upd (upd x 0 (.int .u32 (fi : Int))) 1 (.int .u32 (ti : Int))) 2 (.int .i64 (8 + (ld.length : Int)))) := ⟨u, by rw [← upd_self hu0, ← upd_self hu1, ← upd_self hu2]⟩
        clear hu0 hu1 hu2
        obtain ⟨x, rfl⟩ := hx
        simp only [upd, reduceIte, Nat.reduceEqDiff]
        go_simp
        refine (refBeside fi ti (8 + (ld.length : Int)) w3 hfi hti (by omega) (by omega)).mono ?_
        rintro e w4 ⟨rfl, hf4⟩
        rw [show (8 + (ld.length : Int)).toNat = 8 + ld.length by omega, ← Hy1.out]
        exact hK _ _ v3.symm (hG0.none hf4) (fun _ _ _ h => h)
      | 4, ho =>
        simp at ho; subst ho
        clear hΦ hd
        go_simp
        exact hK _ _ v4.symm hG (fun _ _ _ h => h)
      | 5, ho =>
        simp at ho; subst ho
        have hu3 : u 3 = V 3 := hΦ 3 (hd ⟨3, .data⟩ (by simp) (by rfl))
        rw [v3] at hu3
        have hu4 : u 4 = V 4 := hΦ 4 (hd ⟨4, .data⟩ (by simp) (by rfl))
        rw [v4] at hu4
        clear hΦ hd
        have hx : ∃ x, u = (upd (upd x 3 (.string (bs y1))) 4 (.string (bs A1))) := ⟨u, by rw [← upd_self hu3, ← upd_self hu4]⟩
        clear hu3 hu4
        obtain ⟨x, rfl⟩ := hx
        simp only [upd, reduceIte, Nat.reduceEqDiff]
        have hln : ¬ 9223372036854775807 < y1.length + A1.length := by have l1 := Ly1.out; have l2 := LA1.out; omega
        go_simp
        rw [← Ht1.out]
        exact hK _ _ v5.symm hG (fun _ _ _ h => h)
      | 6, ho =>
        simp at ho; subst ho
        have hu5 : u 5 = V 5 := hΦ 5 (hd ⟨5, .data⟩ (by simp) (by rfl))
        rw [v5] at hu5
        clear hΦ hd
        have hx : ∃ x, u = (upd x 5 (.string (bs t1))) := ⟨u, by rw [← upd_self hu5]⟩
        clear hu5
        obtain ⟨x, rfl⟩ := hx
        simp only [upd, reduceIte, Nat.reduceEqDiff]
        have hln : ¬ 9223372036854775807 < t1.length + c1.length := by have l1 := Lt1.out; have l2 := Lc1.out; omega
        have hcs : (⟨#[0, 0]⟩ : ByteArray) = bs c1 := by rw [Hc1.out]; rfl
        go_simp
        rw [← Ht2.out]
        exact hK _ _ v6.symm hG (fun _ _ _ h => h)
      | 7, ho =>
        simp at ho; subst ho
        clear hΦ hd
        go_simp
        exact hK _ _ v7.symm hG (fun _ _ _ h => h)
      | 8, ho =>
        simp at ho; subst ho
        have hu7 : u 7 = V 7 := hΦ 7 (hd ⟨7, .data⟩ (by simp) (by rfl))
        rw [v7] at hu7
        clear hΦ hd
        have hG0 := hG
        have hx : ∃ x, u = (upd x 7 (.pointer (some ⟨w.heap.size, 2, none⟩))) := ⟨u, by rw [← upd_self hu7]⟩
        clear hu7
        obtain ⟨x, rfl⟩ := hx
        simp only [upd, reduceIte, Nat.reduceEqDiff]
        have hc0 := ((hpa).keep hG0 (fun x => x)).cells
        go_simp
        exact hK _ _ v8.symm hG0 (fun _ _ _ h => h)
      | 9, ho =>
        simp at ho; subst ho
        have hu6 : u 6 = V 6 := hΦ 6 (hd ⟨6, .data⟩ (by simp) (by rfl))
        rw [v6] at hu6
        have hu8 : u 8 = V 8 := hΦ 8 (hd ⟨8, .data⟩ (by simp) (by rfl))
        rw [v8] at hu8
        clear hΦ hd
        have hx : ∃ x, u = (upd (upd x 6 (.string (bs t2))) 8 (.string (bs ld))) := ⟨u, by rw [← upd_self hu6, ← upd_self hu8]⟩
        clear hu6 hu8
        obtain ⟨x, rfl⟩ := hx
        simp only [upd, reduceIte, Nat.reduceEqDiff]
        have hln : ¬ 9223372036854775807 < t2.length + ld.length := by have l1 := Lt2.out; have l2 := Lld.out; omega
        go_simp
        rw [← Ht3.out]
        exact hK _ _ v9.symm hG (fun _ _ _ h => h)
      | 10, ho =>
        simp at ho; subst ho
        have hu9 : u 9 = V 9 := hΦ 9 (hd ⟨9, .data⟩ (by simp) (by rfl))
        rw [v9] at hu9
        clear hΦ hd
        have hG0 := hG
        have hx : ∃ x, u = (upd x 9 (.string (bs t3))) := ⟨u, by rw [← upd_self hu9]⟩
        clear hu9
        obtain ⟨x, rfl⟩ := hx
        simp only [upd, reduceIte, Nat.reduceEqDiff]
        go_simp
        refine (refCheck_any t3 w3 (by have := Lt3.out; omega)).mono ?_
        rintro e w4 ⟨rfl, hf4⟩
        exact hK _ _ v10.symm (hG0.none hf4) (fun _ _ _ h => h)
      | 11, ho =>
        simp at ho; subst ho
        have hu10 : u 10 = V 10 := hΦ 10 (hd ⟨10, .data⟩ (by simp) (by rfl))
        rw [v10] at hu10
        clear hΦ hd
        have hx : ∃ x, u = (upd x 10 (.int .i64 (check t3 : Int))) := ⟨u, by rw [← upd_self hu10]⟩
        clear hu10
        obtain ⟨x, rfl⟩ := hx
        simp only [upd, reduceIte, Nat.reduceEqDiff]
        go_simp
        exact hK _ _ v11.symm hG (fun _ _ _ h => h)
    · rintro u w3 hu L hall hG
      have hG0 := hG
      have h11 : u 11 = V 11 := hu 11 (by simp)
      rw [v11] at h11
      clear hu hall
      rw [h11]
      have hA : check t3 = udpSum0 fm tp fi ti ld := by rw [Ht3.out, Ht2.out, Ht1.out, Hc1.out, Hy1.out, HA1.out]; rfl
      rw [hA]
      generalize udpSum0 fm tp fi ti ld = R at *
      go_wp2_with fail
      go_meet
      case rel => exact ⟨rfl, hf0.none hG0, hpa.keep hG0 (fun x => x)⟩
  case rest =>
  obtain ⟨rfl, hf5, hpa5⟩ := hcut
  clear hf0 hpa w1
  have hu0 : Hid (udpSum fm tp fi ti ld = if udpSum0 fm tp fi ti ld = 0 then 65535 else udpSum0 fm tp fi ti ld) := rfl
  generalize udpSum0 fm tp fi ti ld = s0 at *
  obtain ⟨sm, Hsm⟩ : ∃ sm, Hid (sm = udpSum fm tp fi ti ld) := ⟨_, Lib.hid rfl⟩
  have Lsm : Hid (sm ≤ 65535) := by unfold Hid; rw [Hsm.out]; exact udpSum_le _ _ _ _ _
  go_upto_if 41 with fail
  go_cut [10] from 11 to 41 (fun a wx => a = .int .i64 (sm : Int) ∧ wx = wc)
  case first =>
    by_cases h0 : s0 = 0
    · have b0 : ((s0 : Int) == 0) = true := by simp; omega
      have hsm : Hid (sm = 65535) := by unfold Hid; rw [Hsm.out, hu0.out, if_pos h0]
      clear h0
      rw [b0]
      go_wp2_with fail
      go_meet
      case rel => exact ⟨by rw [hsm.out]; rfl, rfl⟩
    · have b0 : ((s0 : Int) == 0) = false := by simp; omega
      have hsm : Hid (sm = s0) := by unfold Hid; rw [Hsm.out, hu0.out, if_neg h0]
      clear h0
      rw [b0]
      go_wp2_with fail
      go_meet
      case rel => exact ⟨by rw [hsm.out], rfl⟩
  case rest =>
  obtain ⟨rfl, rfl⟩ := hcut
  obtain ⟨w1, rfl⟩ : ∃ w1, w1 = wc := ⟨_, rfl⟩
  have hf0 := hf5
  have hpa := hpa5
  clear hf5 hpa5
  go_upto_region 8 with fail
  obtain ⟨x4, Hx4⟩ : ∃ s : List UInt8, Hid (s = big 2 sm) := ⟨big 2 sm, Lib.hid rfl⟩
  obtain ⟨p1, Hp1⟩ : ∃ s : List UInt8, Hid (s = A1 ++ x4) := ⟨A1 ++ x4, Lib.hid rfl⟩
  obtain ⟨p2, Hp2⟩ : ∃ s : List UInt8, Hid (s = p1 ++ ld) := ⟨p1 ++ ld, Lib.hid rfl⟩
  have Lx4 : Hid (x4.length ≤ 2) := by have lA1 := LA1.out; have lld := Lld.out; unfold Hid; rw [Hx4.out]; first | (rw [beside_length]; omega) | (rw [udpA_length]; omega) | (rw [udpWith_length]; omega) | (simp [big_length, macB, bigs_length] <;> omega)
  have Lp1 : Hid (p1.length ≤ 8) := by have lA1 := LA1.out; have lld := Lld.out; have l_x4 := Lx4.out; unfold Hid; rw [Hp1.out]; first | (rw [beside_length]; omega) | (rw [udpA_length]; omega) | (rw [udpWith_length]; omega) | (simp [big_length, macB, bigs_length] <;> omega)
  have Lp2 : Hid (p2.length ≤ 1488) := by have lA1 := LA1.out; have lld := Lld.out; have l_x4 := Lx4.out; have l_p1 := Lp1.out; unfold Hid; rw [Hp2.out]; first | (rw [beside_length]; omega) | (rw [udpA_length]; omega) | (rw [udpWith_length]; omega) | (simp [big_length, macB, bigs_length] <;> omega)
  obtain ⟨V, hV⟩ : ∃ V : Nat → Value, V = (fun j => match j with | 0 => .string (bs A1) | 1 => .int .i64 (sm : Int) | 2 => .string (bs x4) | 3 => .string (bs p1) | 4 => .pointer (some ⟨w.heap.size, 2, none⟩) | 5 => .string (bs ld) | 6 => .string (bs p2) | 7 => .string (bs p2) | 8 => .int .i64 0 | _ => undef) := ⟨_, rfl⟩
  have v0 : V 0 = .string (bs A1) := congrFun hV 0
  have v1 : V 1 = .int .i64 (sm : Int) := congrFun hV 1
  have v2 : V 2 = .string (bs x4) := congrFun hV 2
  have v3 : V 3 = .string (bs p1) := congrFun hV 3
  have v4 : V 4 = .pointer (some ⟨w.heap.size, 2, none⟩) := congrFun hV 4
  have v5 : V 5 = .string (bs ld) := congrFun hV 5
  have v6 : V 6 = .string (bs p2) := congrFun hV 6
  have v7 : V 7 = .string (bs p2) := congrFun hV 7
  have v8 : V 8 = .int .i64 0 := congrFun hV 8
  clear hV
  refine wp_region_ssau (by kernel_rfl) (by kernel_rfl) (by kernel_rfl)
    (fun u => ⟨#[.agg #[.int .u16 (fm : Int), .int .u16 (tp : Int), .string (bs ld)], .int .u32 (fi : Int), .int .u32 (ti : Int), .pointer (some ⟨w.heap.size, 0, none⟩), undef, undef, u 7, u 8, .int .i64 (8 + (ld.length : Int)), .string (bs A1), .int .i64 (sm : Int), u11, u12, u13, u14, u15, u16, u17, u18, u19, u20, u21, u22, u23, u24, u25, u26, u27, u28, u29, u30, u31, u32, u33, u34, u35, u36, u37, u38, u39, u40, u41, u 0, u 1, u 2, u 3, u 4, u 5, u 6], []⟩)
    (fun j v w3 => v = V j)
    (fun L u w3 => Fr noB w1 w3) (fun j => if j = 7 then .string ⟨#[]⟩ else if j = 8 then .int .i64 0 else undef) ((Fr.refl _ _).drew) ?_ ?_
  · rintro L u w3 i o hG hΦ ho hL hd K hK
    match i, ho with
    | 0, ho =>
      simp at ho; subst ho
      clear hΦ hd
      go_simp
      exact hK _ _ v0.symm hG (fun _ _ _ h => h)
    | 1, ho =>
      simp at ho; subst ho
      clear hΦ hd
      go_simp
      exact hK _ _ v1.symm hG (fun _ _ _ h => h)
    | 2, ho =>
      simp at ho; subst ho
      have hu1 : u 1 = V 1 := hΦ 1 (hd ⟨1, .data⟩ (by simp) (by rfl))
      rw [v1] at hu1
      clear hΦ hd
      have hG0 := hG
      have hx : ∃ x, u = (upd x 1 (.int .i64 (sm : Int))) := ⟨u, by rw [← upd_self hu1]⟩
      clear hu1
      obtain ⟨x, rfl⟩ := hx
      simp only [upd, reduceIte, Nat.reduceEqDiff]
      go_simp
      refine (refBig sm 2 w3 (by have := Lsm.out; omega) (by omega)).mono ?_
      rintro e w4 ⟨rfl, hf4⟩
      rw [← Hx4.out]
      exact hK _ _ v2.symm (hG0.none hf4) (fun _ _ _ h => h)
    | 3, ho =>
      simp at ho; subst ho
      have hu0 : u 0 = V 0 := hΦ 0 (hd ⟨0, .data⟩ (by simp) (by rfl))
      rw [v0] at hu0
      have hu2 : u 2 = V 2 := hΦ 2 (hd ⟨2, .data⟩ (by simp) (by rfl))
      rw [v2] at hu2
      clear hΦ hd
      have hx : ∃ x, u = (upd (upd x 0 (.string (bs A1))) 2 (.string (bs x4))) := ⟨u, by rw [← upd_self hu0, ← upd_self hu2]⟩
      clear hu0 hu2
      obtain ⟨x, rfl⟩ := hx
      simp only [upd, reduceIte, Nat.reduceEqDiff]
      have hln : ¬ 9223372036854775807 < A1.length + x4.length := by have l1 := LA1.out; have l2 := Lx4.out; omega
      go_simp
      rw [← Hp1.out]
      exact hK _ _ v3.symm hG (fun _ _ _ h => h)
    | 4, ho =>
      simp at ho; subst ho
      clear hΦ hd
      go_simp
      exact hK _ _ v4.symm hG (fun _ _ _ h => h)
    | 5, ho =>
      simp at ho; subst ho
      have hu4 : u 4 = V 4 := hΦ 4 (hd ⟨4, .data⟩ (by simp) (by rfl))
      rw [v4] at hu4
      clear hΦ hd
      have hG0 := hG
      have hx : ∃ x, u = (upd x 4 (.pointer (some ⟨w.heap.size, 2, none⟩))) := ⟨u, by rw [← upd_self hu4]⟩
      clear hu4
      obtain ⟨x, rfl⟩ := hx
      simp only [upd, reduceIte, Nat.reduceEqDiff]
      have hc0 := ((hpa).keep hG0 (fun x => x)).cells
      go_simp
      exact hK _ _ v5.symm hG0 (fun _ _ _ h => h)
    | 6, ho =>
      simp at ho; subst ho
      have hu3 : u 3 = V 3 := hΦ 3 (hd ⟨3, .data⟩ (by simp) (by rfl))
      rw [v3] at hu3
      have hu5 : u 5 = V 5 := hΦ 5 (hd ⟨5, .data⟩ (by simp) (by rfl))
      rw [v5] at hu5
      clear hΦ hd
      have hx : ∃ x, u = (upd (upd x 3 (.string (bs p1))) 5 (.string (bs ld))) := ⟨u, by rw [← upd_self hu3, ← upd_self hu5]⟩
      clear hu3 hu5
      obtain ⟨x, rfl⟩ := hx
      simp only [upd, reduceIte, Nat.reduceEqDiff]
      have hln : ¬ 9223372036854775807 < p1.length + ld.length := by have l1 := Lp1.out; have l2 := Lld.out; omega
      go_simp
      rw [← Hp2.out]
      exact hK _ _ v6.symm hG (fun _ _ _ h => h)
    | 7, ho =>
      simp at ho; subst ho
      have hu6 : u 6 = V 6 := hΦ 6 (hd ⟨6, .data⟩ (by simp) (by rfl))
      rw [v6] at hu6
      clear hΦ hd
      have hx : ∃ x, u = (upd x 6 (.string (bs p2))) := ⟨u, by rw [← upd_self hu6]⟩
      clear hu6
      obtain ⟨x, rfl⟩ := hx
      simp only [upd, reduceIte, Nat.reduceEqDiff]
      go_simp
      exact hK _ _ v7.symm hG (fun _ _ _ h => h)
    | 8, ho =>
      simp at ho; subst ho
      clear hΦ hd
      go_simp
      exact hK _ _ v8.symm hG (fun _ _ _ h => h)
  · rintro u w3 hu L hall hG
    have hG0 := hG
    have h7 : u 7 = V 7 := hu 7 (by simp)
    rw [v7] at h7
    have h8 : u 8 = V 8 := hu 8 (by simp)
    rw [v8] at h8
    clear hu hall
    rw [h7, h8]
    have hfr := hf0.none hG0
    have hA : p2 = udpWith fm tp ld (udpSum fm tp fi ti ld) := by rw [Hp2.out, Hp1.out, Hx4.out, Hsm.out, HA1.out]; rfl
    rw [hA]
    clear hA
    generalize udpWith fm tp ld (udpSum fm tp fi ti ld) = R at *
    go_wp2_with fail
    go_ret2
    exact ⟨by rw [hs.out]; rfl, hfr⟩

theorem bootWriteUDP (fm tp fi ti : Nat) (ld : List UInt8) (w : World) (hfm : fm < 65536) (htp : tp < 65536) (hfi : fi < 4294967296) (hti : ti < 4294967296) (hld : ld.length ≤ 4611686018427387000) :
    Calls Try.prog 25 #[.agg #[.int .u16 (fm : Int), .int .u16 (tp : Int), .string (bs ld)], .int .u32 (fi : Int), .int .u32 (ti : Int)] w (strPost (wrUDP fm tp fi ti ld) w) := by
  have hpa := (Bk.new w 56 #[.int .u16 (fm : Int), .int .u16 (tp : Int), .string (bs ld)]).cells
  have hf0 : Fr noB w (w.alloc (.cells #[.int .u16 (fm : Int), .int .u16 (tp : Int), .string (bs ld)] 56)) := (Fr.refl _ _).alloc _
  go_enter Try.func25, Try.ntmps25
  go_wp2_with fail
  refine (packetWriteUDP fm tp fi ti ld _ hfm htp hfi hti hld).mono ?_
  rintro e w2 ⟨rfl, hf2⟩
  generalize wrUDP fm tp fi ti ld = R at *
  go_wp2_with fail
  go_ret2
  exact ⟨rfl, hf0.none hf2⟩

set_option maxRecDepth 20000 in
set_option maxHeartbeats 1000000 in
theorem lawUDPWrites (fm tp fi ti : Nat) (ld : List UInt8) (w : World) (hfm : fm < 65536) (htp : tp < 65536) (hfi : fi < 4294967296) (hti : ti < 4294967296) (hlm : ld.length ≤ 9223372036854775807) :
    Calls Try.prog 10 #[.agg #[.int .u16 (fm : Int), .int .u16 (tp : Int), .string (bs ld)], .int .u32 (fi : Int), .int .u32 (ti : Int)] w (fun e w' => e = .returned (.bool true) ∧ Fr noB w w') := by
  have hpa := Bk.new w 56 #[.int .u16 (fm : Int), .int .u16 (tp : Int), .string (bs ld)]
  have hpc := hpa.cells
  have hf0 : Fr noB w (w.alloc (.cells #[.int .u16 (fm : Int), .int .u16 (tp : Int), .string (bs ld)] 56)) := (Fr.refl _ _).alloc _
  go_enter Try.func10, Try.ntmps10
  by_cases hb : 262144 < ld.length
  · have hb' : (262144 : Int) < ld.length := by omega
    go_wp2_with fail
    go_ret
    exact ⟨rfl, hf0⟩
  have hb' : ¬ (262144 : Int) < ld.length := by omega
  have hld : ld.length ≤ 4611686018427387000 := by omega
  go_wp2_with fail
  generalize w.alloc (.cells #[.int .u16 (fm : Int), .int .u16 (tp : Int), .string (bs ld)] 56) = w1 at *
  refine (bootWriteUDP fm tp fi ti ld _ hfm htp hfi hti hld).mono ?_
  rintro e w2 ⟨rfl, hf2⟩
  have hpc2 := (hpa.keep hf2 (fun x => x)).cells
  have href := refWriteUDP fm tp fi ti ld w2 hfm htp hfi hti hld
  have Hr := Lib.hid href
  clear href hpc
  generalize wrUDP fm tp fi ti ld = R at *
  go_wp2_with fail
  refine (Hr.out).mono ?_
  rintro e w3 ⟨rfl, hf3⟩
  go_wp2_with fail
  go_ret
  exact ⟨by simp, (hf0.none hf2).none hf3⟩
end Go.Proofs.Ytcbkaiakdhiloaa
