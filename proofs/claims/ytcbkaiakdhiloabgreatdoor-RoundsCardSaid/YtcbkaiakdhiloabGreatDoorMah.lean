/- WriteEther, the program's and the reference's, and the walk of the law netbootlaw.EtherWrites. -/
import Derived.Test.YtcbkaiakdhiloabGreatDoorMaf
import Derived.Test.YtcbkaiakdhiloabGreatDoorMab
import Derived.Deep.Cut
import Derived.Deep.CutRange
import Derived.Test.YtcbkaiakdhiloabGreatDoorMac
set_option linter.unusedSimpArgs false
set_option linter.unusedVariables false
namespace Go.Proofs.YtcbkaiakdhiloabGreatDoor
open Go.RowKit Go.Proofs
attribute [local go_sem] bs_size bs_append bs_sub bs_toList

def ethBody (tm fm : Mac) (ty : Nat) (ld : List UInt8) : List UInt8 := macB tm ++ macB fm ++ big 2 ty ++ ld
def ethBytes (tm fm : Mac) (ty : Nat) (ld : List UInt8) : List UInt8 := ethBody tm fm ty ld ++ List.replicate (60 - (ethBody tm fm ty ld).length) 0
def wrEther (tm fm : Mac) (ty : Nat) (ld : List UInt8) : List UInt8 × Nat := if ty < 1536 then ([], 3) else if 1500 < ld.length then ([], 7) else (ethBytes tm fm ty ld, 0)
theorem eth_lst (tm fm : Mac) (ty : Nat) (ld : List UInt8) : ([] ++ List.flatMap macB [tm, fm] ++ bigs 2 [(ty : Int)] ++ List.flatten [ld]) = ethBody tm fm ty ld := by
  simp [ethBody, bigs]

set_option maxRecDepth 20000 in
set_option maxHeartbeats 1000000 in
theorem packetWriteEther (ty : Nat) (ld : List UInt8) (m0 m1 m2 m3 m4 m5 n0 n1 n2 n3 n4 n5 : UInt8) (w : World) (hty : ty < 65536) (hld : ld.length ≤ 9223372036854775807) :
    Calls Tryz.prog 24 #[.agg #[.int .u8 (m0.toNat : Int), .int .u8 (m1.toNat : Int), .int .u8 (m2.toNat : Int), .int .u8 (m3.toNat : Int), .int .u8 (m4.toNat : Int), .int .u8 (m5.toNat : Int), .int .u8 (n0.toNat : Int), .int .u8 (n1.toNat : Int), .int .u8 (n2.toNat : Int), .int .u8 (n3.toNat : Int), .int .u8 (n4.toNat : Int), .int .u8 (n5.toNat : Int), .int .u16 (ty : Int), .string (bs ld)]] w (strPost (wrEther (m0, m1, m2, m3, m4, m5) (n0, n1, n2, n3, n4, n5) ty ld) w) := by
  have hpa := (Bk.new w 27 #[.int .u8 (m0.toNat : Int), .int .u8 (m1.toNat : Int), .int .u8 (m2.toNat : Int), .int .u8 (m3.toNat : Int), .int .u8 (m4.toNat : Int), .int .u8 (m5.toNat : Int), .int .u8 (n0.toNat : Int), .int .u8 (n1.toNat : Int), .int .u8 (n2.toNat : Int), .int .u8 (n3.toNat : Int), .int .u8 (n4.toNat : Int), .int .u8 (n5.toNat : Int), .int .u16 (ty : Int), .string (bs ld)]).alloc (.cells #[.slice none 0 0] 125)
  have hbw := Bk.new (w.alloc (.cells #[.int .u8 (m0.toNat : Int), .int .u8 (m1.toNat : Int), .int .u8 (m2.toNat : Int), .int .u8 (m3.toNat : Int), .int .u8 (m4.toNat : Int), .int .u8 (m5.toNat : Int), .int .u8 (n0.toNat : Int), .int .u8 (n1.toNat : Int), .int .u8 (n2.toNat : Int), .int .u8 (n3.toNat : Int), .int .u8 (n4.toNat : Int), .int .u8 (n5.toNat : Int), .int .u16 (ty : Int), .string (bs ld)] 27)) 125 #[.slice none 0 0]
  rw [show (w.alloc (.cells #[.int .u8 (m0.toNat : Int), .int .u8 (m1.toNat : Int), .int .u8 (m2.toNat : Int), .int .u8 (m3.toNat : Int), .int .u8 (m4.toNat : Int), .int .u8 (m5.toNat : Int), .int .u8 (n0.toNat : Int), .int .u8 (n1.toNat : Int), .int .u8 (n2.toNat : Int), .int .u8 (n3.toNat : Int), .int .u8 (n4.toNat : Int), .int .u8 (n5.toNat : Int), .int .u16 (ty : Int), .string (bs ld)] 27)).heap.size = w.heap.size + 1 by simp] at hbw
  have hpa0 := (Bk.new w 27 #[.int .u8 (m0.toNat : Int), .int .u8 (m1.toNat : Int), .int .u8 (m2.toNat : Int), .int .u8 (m3.toNat : Int), .int .u8 (m4.toNat : Int), .int .u8 (m5.toNat : Int), .int .u8 (n0.toNat : Int), .int .u8 (n1.toNat : Int), .int .u8 (n2.toNat : Int), .int .u8 (n3.toNat : Int), .int .u8 (n4.toNat : Int), .int .u8 (n5.toNat : Int), .int .u16 (ty : Int), .string (bs ld)]).cells
  go_enter Tryz.func24, Tryz.ntmps24
  by_cases h1 : ty < 1536
  · have hs : Hid (wrEther (m0, m1, m2, m3, m4, m5) (n0, n1, n2, n3, n4, n5) ty ld = ([], 3)) := by unfold Hid wrEther; rw [if_pos h1]
    have b1 : (ty : Int) < 1536 := by omega
    clear h1
    go_wp2_with fail
    go_ret2
    exact ⟨by rw [hs.out]; rfl, (Fr.refl _ _).alloc _⟩
  have b1 : ¬ (ty : Int) < 1536 := by omega
  by_cases h2 : 1500 < ld.length
  · have hs : Hid (wrEther (m0, m1, m2, m3, m4, m5) (n0, n1, n2, n3, n4, n5) ty ld = ([], 7)) := by unfold Hid wrEther; rw [if_neg h1, if_pos h2]
    have b2 : 1500 < (ld.length : Int) := by omega
    clear h1 h2
    go_wp2_with fail
    go_ret2
    exact ⟨by rw [hs.out]; rfl, (Fr.refl _ _).alloc _⟩
  have b2 : ¬ 1500 < (ld.length : Int) := by omega
  have hs : Hid (wrEther (m0, m1, m2, m3, m4, m5) (n0, n1, n2, n3, n4, n5) ty ld = (ethBytes (m0, m1, m2, m3, m4, m5) (n0, n1, n2, n3, n4, n5) ty ld, 0)) := by unfold Hid wrEther; rw [if_neg h1, if_neg h2]
  have hl2 : ld.length ≤ 1500 := by omega
  clear h1 h2
  go_upto_region 5 with fail
  go_cut [4] from 5 to 15 (fun q wx => q = .pointer (some ⟨w.heap.size + 1, 0, none⟩) ∧ wx = (w.alloc (.cells #[.int .u8 (m0.toNat : Int), .int .u8 (m1.toNat : Int), .int .u8 (m2.toNat : Int), .int .u8 (m3.toNat : Int), .int .u8 (m4.toNat : Int), .int .u8 (m5.toNat : Int), .int .u8 (n0.toNat : Int), .int .u8 (n1.toNat : Int), .int .u8 (n2.toNat : Int), .int .u8 (n3.toNat : Int), .int .u8 (n4.toNat : Int), .int .u8 (n5.toNat : Int), .int .u16 (ty : Int), .string (bs ld)] 27)).alloc (.cells #[.slice none 0 0] 125))
  case first =>
    go_wp2_with fail
    go_meet
    case rel => exact ⟨rfl, rfl⟩
  case rest =>
  obtain ⟨rfl, rfl⟩ := hcut
  clear hpa0
  go_upto_region 6 with fail
  have hf0 : Fr noB w ((w.alloc (.cells #[.int .u8 (m0.toNat : Int), .int .u8 (m1.toNat : Int), .int .u8 (m2.toNat : Int), .int .u8 (m3.toNat : Int), .int .u8 (m4.toNat : Int), .int .u8 (m5.toNat : Int), .int .u8 (n0.toNat : Int), .int .u8 (n1.toNat : Int), .int .u8 (n2.toNat : Int), .int .u8 (n3.toNat : Int), .int .u8 (n4.toNat : Int), .int .u8 (n5.toNat : Int), .int .u16 (ty : Int), .string (bs ld)] 27)).alloc (.cells #[.slice none 0 0] 125)) := ((Fr.refl _ _).alloc _).alloc _
  have hsz : ((w.alloc (.cells #[.int .u8 (m0.toNat : Int), .int .u8 (m1.toNat : Int), .int .u8 (m2.toNat : Int), .int .u8 (m3.toNat : Int), .int .u8 (m4.toNat : Int), .int .u8 (m5.toNat : Int), .int .u8 (n0.toNat : Int), .int .u8 (n1.toNat : Int), .int .u8 (n2.toNat : Int), .int .u8 (n3.toNat : Int), .int .u8 (n4.toNat : Int), .int .u8 (n5.toNat : Int), .int .u16 (ty : Int), .string (bs ld)] 27)).alloc (.cells #[.slice none 0 0] 125)).heap.size = w.heap.size + 2 := by simp
  generalize (w.alloc (.cells #[.int .u8 (m0.toNat : Int), .int .u8 (m1.toNat : Int), .int .u8 (m2.toNat : Int), .int .u8 (m3.toNat : Int), .int .u8 (m4.toNat : Int), .int .u8 (m5.toNat : Int), .int .u8 (n0.toNat : Int), .int .u8 (n1.toNat : Int), .int .u8 (n2.toNat : Int), .int .u8 (n3.toNat : Int), .int .u8 (n4.toNat : Int), .int .u8 (n5.toNat : Int), .int .u16 (ty : Int), .string (bs ld)] 27)).alloc (.cells #[.slice none 0 0] 125) = w1 at *
  have hwr0 := Wr.zero hbw
  obtain ⟨lst, Q0, Q1, Q2, Q3, Q4⟩ : ∃ lst : Nat → List UInt8, Hid (lst 0 = ([] : List UInt8)) ∧ Hid (lst 1 = lst 0 ++ List.flatMap macB [(m0, m1, m2, m3, m4, m5), (n0, n1, n2, n3, n4, n5)]) ∧ Hid (lst 2 = lst 1 ++ bigs 2 [(ty : Int)]) ∧ Hid (lst 3 = lst 2 ++ List.flatten [ld]) ∧ Hid (lst 4 = lst 3 ++ List.replicate (60 - (lst 3).length) 0) := by
    exact ⟨fun k => match k with | 0 => ([] : List UInt8) | 1 => (([] : List UInt8) ++ List.flatMap macB [(m0, m1, m2, m3, m4, m5), (n0, n1, n2, n3, n4, n5)]) | 2 => ((([] : List UInt8) ++ List.flatMap macB [(m0, m1, m2, m3, m4, m5), (n0, n1, n2, n3, n4, n5)]) ++ bigs 2 [(ty : Int)]) | 3 => (((([] : List UInt8) ++ List.flatMap macB [(m0, m1, m2, m3, m4, m5), (n0, n1, n2, n3, n4, n5)]) ++ bigs 2 [(ty : Int)]) ++ List.flatten [ld]) | _ => ((((([] : List UInt8) ++ List.flatMap macB [(m0, m1, m2, m3, m4, m5), (n0, n1, n2, n3, n4, n5)]) ++ bigs 2 [(ty : Int)]) ++ List.flatten [ld]) ++ List.replicate (60 - ((((([] : List UInt8) ++ List.flatMap macB [(m0, m1, m2, m3, m4, m5), (n0, n1, n2, n3, n4, n5)]) ++ bigs 2 [(ty : Int)]) ++ List.flatten [ld])).length) 0), rfl, rfl, rfl, rfl, rfl⟩
  have N0 : Hid ((lst 0).length ≤ 0) := by unfold Hid; rw [Q0.out]; simp
  have N1 : Hid ((lst 1).length ≤ 0 + (12)) := by have h0 := N0.out; have h1 : ((List.flatMap macB [(m0, m1, m2, m3, m4, m5), (n0, n1, n2, n3, n4, n5)] : List UInt8)).length ≤ 12 := (by simp [bigs_length, macB, big_length] <;> omega); unfold Hid; rw [Q1.out, List.length_append]; omega
  have N2 : Hid ((lst 2).length ≤ 0 + (12) + (2)) := by have h0 := N1.out; have h1 : ((bigs 2 [(ty : Int)] : List UInt8)).length ≤ 2 := (by simp [bigs_length, macB, big_length] <;> omega); unfold Hid; rw [Q2.out, List.length_append]; omega
  have N3 : Hid ((lst 3).length ≤ 0 + (12) + (2) + ((ld).length)) := by have h0 := N2.out; have h1 : ((List.flatten [ld] : List UInt8)).length ≤ (ld).length := (by simp [bigs_length, macB, big_length] <;> omega); unfold Hid; rw [Q3.out, List.length_append]; omega
  have N4 : Hid ((lst 4).length ≤ 0 + (12) + (2) + ((ld).length) + (60)) := by have h0 := N3.out; have h1 : ((List.replicate (60 - (lst 3).length) 0 : List UInt8)).length ≤ 60 := (by simp [bigs_length, macB, big_length] <;> omega); unfold Hid; rw [Q4.out, List.length_append]; omega
  obtain ⟨V, hV⟩ : ∃ V : Nat → Value, V = (fun j => match j with | 0 => .pointer (some ⟨(w.heap.size + 1), 0, none⟩) | 1 => .pointer (some ⟨w.heap.size, 0, none⟩) | 2 => .agg #[.int .u8 (m0.toNat : Int), .int .u8 (m1.toNat : Int), .int .u8 (m2.toNat : Int), .int .u8 (m3.toNat : Int), .int .u8 (m4.toNat : Int), .int .u8 (m5.toNat : Int)] | 3 => .pointer (some ⟨w.heap.size, 6, none⟩) | 4 => .agg #[.int .u8 (n0.toNat : Int), .int .u8 (n1.toNat : Int), .int .u8 (n2.toNat : Int), .int .u8 (n3.toNat : Int), .int .u8 (n4.toNat : Int), .int .u8 (n5.toNat : Int)] | 6 => .pointer (some ⟨(w.heap.size + 1), 0, none⟩) | 7 => .pointer (some ⟨w.heap.size, 12, none⟩) | 8 => .int .u16 (ty : Int) | 10 => .pointer (some ⟨(w.heap.size + 1), 0, none⟩) | 11 => .pointer (some ⟨w.heap.size, 13, none⟩) | 12 => .string (bs ld) | 14 => .pointer (some ⟨(w.heap.size + 1), 0, none⟩) | 15 => .pointer (some ⟨(w.heap.size + 1), 0, none⟩) | 16 => .string (bs (lst 4)) | 17 => .string (bs (lst 4)) | 18 => .int .i64 0 | _ => undef) := ⟨_, rfl⟩
  have v0 : V 0 = .pointer (some ⟨(w.heap.size + 1), 0, none⟩) := congrFun hV 0
  have v1 : V 1 = .pointer (some ⟨w.heap.size, 0, none⟩) := congrFun hV 1
  have v2 : V 2 = .agg #[.int .u8 (m0.toNat : Int), .int .u8 (m1.toNat : Int), .int .u8 (m2.toNat : Int), .int .u8 (m3.toNat : Int), .int .u8 (m4.toNat : Int), .int .u8 (m5.toNat : Int)] := congrFun hV 2
  have v3 : V 3 = .pointer (some ⟨w.heap.size, 6, none⟩) := congrFun hV 3
  have v4 : V 4 = .agg #[.int .u8 (n0.toNat : Int), .int .u8 (n1.toNat : Int), .int .u8 (n2.toNat : Int), .int .u8 (n3.toNat : Int), .int .u8 (n4.toNat : Int), .int .u8 (n5.toNat : Int)] := congrFun hV 4
  have v6 : V 6 = .pointer (some ⟨(w.heap.size + 1), 0, none⟩) := congrFun hV 6
  have v7 : V 7 = .pointer (some ⟨w.heap.size, 12, none⟩) := congrFun hV 7
  have v8 : V 8 = .int .u16 (ty : Int) := congrFun hV 8
  have v10 : V 10 = .pointer (some ⟨(w.heap.size + 1), 0, none⟩) := congrFun hV 10
  have v11 : V 11 = .pointer (some ⟨w.heap.size, 13, none⟩) := congrFun hV 11
  have v12 : V 12 = .string (bs ld) := congrFun hV 12
  have v14 : V 14 = .pointer (some ⟨(w.heap.size + 1), 0, none⟩) := congrFun hV 14
  have v15 : V 15 = .pointer (some ⟨(w.heap.size + 1), 0, none⟩) := congrFun hV 15
  have v16 : V 16 = .string (bs (lst 4)) := congrFun hV 16
  have v17 : V 17 = .string (bs (lst 4)) := congrFun hV 17
  have v18 : V 18 = .int .i64 0 := congrFun hV 18
  clear hV
  refine wp_region_ssau (by kernel_rfl) (by kernel_rfl) (by kernel_rfl)
    (fun u => ⟨#[.agg #[.int .u8 (m0.toNat : Int), .int .u8 (m1.toNat : Int), .int .u8 (m2.toNat : Int), .int .u8 (m3.toNat : Int), .int .u8 (m4.toNat : Int), .int .u8 (m5.toNat : Int), .int .u8 (n0.toNat : Int), .int .u8 (n1.toNat : Int), .int .u8 (n2.toNat : Int), .int .u8 (n3.toNat : Int), .int .u8 (n4.toNat : Int), .int .u8 (n5.toNat : Int), .int .u16 (ty : Int), .string (bs ld)], .pointer (some ⟨w.heap.size, 0, none⟩), u 17, u 18, .pointer (some ⟨(w.heap.size + 1), 0, none⟩), u5, u6, u7, u8, u9, u10, u11, u12, u13, u14, u15, u 0, u 1, u 2, u 3, u 4, u 5, u 6, u 7, u 8, u 9, u 10, u 11, u 12, u 13, u 14, u 15, u 16], []⟩)
    (fun j v w3 => if j = 5 then True else if j = 9 then True else if j = 13 then True else v = V j)
    (fun L u w3 => ∃ (c : Nat) (A : Option Addr), (L 6 = decide (0 < c) ∧ L 10 = decide (1 < c) ∧ L 14 = decide (2 < c) ∧ L 15 = decide (3 < c)) ∧ c ≤ 4 ∧ Chn w1 (w.heap.size + 1) w1.heap.size A (lst c) w3 ∧ AlS (L 5) (u 5) 2 23 #[.int .u8 (m0.toNat : Int), .int .u8 (m1.toNat : Int), .int .u8 (m2.toNat : Int), .int .u8 (m3.toNat : Int), .int .u8 (m4.toNat : Int), .int .u8 (m5.toNat : Int), .int .u8 (n0.toNat : Int), .int .u8 (n1.toNat : Int), .int .u8 (n2.toNat : Int), .int .u8 (n3.toNat : Int), .int .u8 (n4.toNat : Int), .int .u8 (n5.toNat : Int)] w1.heap.size A w3 ∧ AlS (L 9) (u 9) 1 24 #[.int .u16 (ty : Int)] w1.heap.size A w3 ∧ AlS (L 13) (u 13) 1 9 #[.string (bs ld)] w1.heap.size A w3) (fun j => if j = 17 then .string ⟨#[]⟩ else if j = 18 then .int .i64 0 else undef) ⟨0, none, ⟨rfl, rfl, rfl, rfl⟩, by omega, by rw [Q0.out]; exact Chn.start hwr0 rfl, AlS.false, AlS.false, AlS.false⟩ ?_ ?_
  · rintro L u w3 i o hG hΦ ho hL hd K hK
    match i, ho with
    | 0, ho =>
      simp at ho; subst ho
      clear hΦ hd
      go_simp
      exact hK _ _ v0.symm hG (fun _ _ _ h => h)
    | 1, ho =>
      simp at ho; subst ho
      clear hΦ hd
      go_simp
      exact hK _ _ v1.symm hG (fun _ _ _ h => h)
    | 2, ho =>
      simp at ho; subst ho
      have hu1 : u 1 = V 1 := hΦ 1 (hd ⟨1, .data⟩ (by simp) (by rfl))
      rw [v1] at hu1
      clear hΦ hd
      obtain ⟨c, A, ⟨e0, e1, e2, e3⟩, hcn, hch, s5, s9, s13⟩ := hG
      have hx : ∃ x, u = (upd x 1 (.pointer (some ⟨w.heap.size, 0, none⟩))) := ⟨u, by rw [← upd_self hu1]⟩
      clear hu1
      obtain ⟨x, rfl⟩ := hx
      simp only [upd, reduceIte, Nat.reduceEqDiff]
      have hc0 := ((hpa).keep hch.fr (by unfold oneB; omega)).cells
      go_simp
      exact hK _ _ v2.symm ⟨c, A, ⟨e0, e1, e2, e3⟩, hcn, hch, s5, s9, s13⟩ (fun _ _ _ h => h)
    | 3, ho =>
      simp at ho; subst ho
      clear hΦ hd
      go_simp
      exact hK _ _ v3.symm hG (fun _ _ _ h => h)
    | 4, ho =>
      simp at ho; subst ho
      have hu3 : u 3 = V 3 := hΦ 3 (hd ⟨3, .data⟩ (by simp) (by rfl))
      rw [v3] at hu3
      clear hΦ hd
      obtain ⟨c, A, ⟨e0, e1, e2, e3⟩, hcn, hch, s5, s9, s13⟩ := hG
      have hx : ∃ x, u = (upd x 3 (.pointer (some ⟨w.heap.size, 6, none⟩))) := ⟨u, by rw [← upd_self hu3]⟩
      clear hu3
      obtain ⟨x, rfl⟩ := hx
      simp only [upd, reduceIte, Nat.reduceEqDiff]
      have hc0 := ((hpa).keep hch.fr (by unfold oneB; omega)).cells
      go_simp
      exact hK _ _ v4.symm ⟨c, A, ⟨e0, e1, e2, e3⟩, hcn, hch, s5, s9, s13⟩ (fun _ _ _ h => h)
    | 5, ho =>
      simp at ho; subst ho
      have hu2 : u 2 = V 2 := hΦ 2 (hd ⟨2, .data⟩ (by simp) (by rfl))
      rw [v2] at hu2
      have hu4 : u 4 = V 4 := hΦ 4 (hd ⟨4, .data⟩ (by simp) (by rfl))
      rw [v4] at hu4
      clear hΦ hd
      obtain ⟨c, A, ⟨e0, e1, e2, e3⟩, hcn, hch, s5, s9, s13⟩ := hG
      have hx : ∃ x, u = (upd (upd x 2 (.agg #[.int .u8 (m0.toNat : Int), .int .u8 (m1.toNat : Int), .int .u8 (m2.toNat : Int), .int .u8 (m3.toNat : Int), .int .u8 (m4.toNat : Int), .int .u8 (m5.toNat : Int)])) 4 (.agg #[.int .u8 (n0.toNat : Int), .int .u8 (n1.toNat : Int), .int .u8 (n2.toNat : Int), .int .u8 (n3.toNat : Int), .int .u8 (n4.toNat : Int), .int .u8 (n5.toNat : Int)])) := ⟨u, by rw [← upd_self hu2, ← upd_self hu4]⟩
      clear hu2 hu4
      obtain ⟨x, rfl⟩ := hx
      simp only [upd, reduceIte, Nat.reduceEqDiff]
      go_simp
      exact hK _ _ trivial ⟨c, A, ⟨e0, e1, e2, e3⟩, hcn, hch.alloc _, AlS.new hch 2 23 #[.int .u8 (m0.toNat : Int), .int .u8 (m1.toNat : Int), .int .u8 (m2.toNat : Int), .int .u8 (m3.toNat : Int), .int .u8 (m4.toNat : Int), .int .u8 (m5.toNat : Int), .int .u8 (n0.toNat : Int), .int .u8 (n1.toNat : Int), .int .u8 (n2.toNat : Int), .int .u8 (n3.toNat : Int), .int .u8 (n4.toNat : Int), .int .u8 (n5.toNat : Int)], AlS.alloc s9 _, AlS.alloc s13 _⟩ (fun _ _ _ h => h)
    | 6, ho =>
      simp at ho; subst ho
      have hu0 : u 0 = V 0 := hΦ 0 (hd ⟨0, .data⟩ (by simp) (by rfl))
      rw [v0] at hu0
      have hl5 : L 5 = true := hd ⟨5, .data⟩ (by simp) (by rfl)
      clear hΦ hd
      obtain ⟨c, A, ⟨e0, e1, e2, e3⟩, hcn, hch, s5, s9, s13⟩ := hG
      have hck : c = 0 := by
        have h1 := hL.symm.trans e0
        simp at h1; omega
      subst hck
      obtain ⟨g5, hg5, hb5, hB5, hn5⟩ := s5 hl5
      have hx : ∃ x, u = (upd (upd x 0 (.pointer (some ⟨(w.heap.size + 1), 0, none⟩))) 5 (.slice (some ⟨g5, 0, none⟩) 2 2)) := ⟨u, by rw [← upd_self hu0, ← upd_self hg5]⟩
      clear hu0 hg5
      obtain ⟨x, rfl⟩ := hx
      simp only [upd, reduceIte, Nat.reduceEqDiff]
      go_simp
      refine (wMAC (w.heap.size + 1) A _ w3 g5 2 2 [(m0, m1, m2, m3, m4, m5), (n0, n1, n2, n3, n4, n5)] hch.wr (SlR.of_bk (n := 2) (size := 6) hb5 (AlS.not hch hB5 hn5) rfl) (by omega) (by have := N0.out; first | omega | (simp; omega))).mono ?_
      rintro e w4 ⟨rfl, hw4⟩
      obtain ⟨A', hch', hal⟩ := hch.call hw4
      exact hK _ _ v6.symm ⟨1, A', ⟨rfl, e1, e2, e3⟩, by omega, by rw [Q1.out]; exact hch', hal _ _ _ _ _ s5, hal _ _ _ _ _ s9, hal _ _ _ _ _ s13⟩ (fun _ _ _ h => h)
    | 7, ho =>
      simp at ho; subst ho
      clear hΦ hd
      go_simp
      exact hK _ _ v7.symm hG (fun _ _ _ h => h)
    | 8, ho =>
      simp at ho; subst ho
      have hu7 : u 7 = V 7 := hΦ 7 (hd ⟨7, .data⟩ (by simp) (by rfl))
      rw [v7] at hu7
      clear hΦ hd
      obtain ⟨c, A, ⟨e0, e1, e2, e3⟩, hcn, hch, s5, s9, s13⟩ := hG
      have hx : ∃ x, u = (upd x 7 (.pointer (some ⟨w.heap.size, 12, none⟩))) := ⟨u, by rw [← upd_self hu7]⟩
      clear hu7
      obtain ⟨x, rfl⟩ := hx
      simp only [upd, reduceIte, Nat.reduceEqDiff]
      have hc0 := ((hpa).keep hch.fr (by unfold oneB; omega)).cells
      go_simp
      exact hK _ _ v8.symm ⟨c, A, ⟨e0, e1, e2, e3⟩, hcn, hch, s5, s9, s13⟩ (fun _ _ _ h => h)
    | 9, ho =>
      simp at ho; subst ho
      have hu8 : u 8 = V 8 := hΦ 8 (hd ⟨8, .data⟩ (by simp) (by rfl))
      rw [v8] at hu8
      clear hΦ hd
      obtain ⟨c, A, ⟨e0, e1, e2, e3⟩, hcn, hch, s5, s9, s13⟩ := hG
      have hx : ∃ x, u = (upd x 8 (.int .u16 (ty : Int))) := ⟨u, by rw [← upd_self hu8]⟩
      clear hu8
      obtain ⟨x, rfl⟩ := hx
      simp only [upd, reduceIte, Nat.reduceEqDiff]
      go_simp
      exact hK _ _ trivial ⟨c, A, ⟨e0, e1, e2, e3⟩, hcn, hch.alloc _, AlS.alloc s5 _, AlS.new hch 1 24 #[.int .u16 (ty : Int)], AlS.alloc s13 _⟩ (fun _ _ _ h => h)
    | 10, ho =>
      simp at ho; subst ho
      have hu6 : u 6 = V 6 := hΦ 6 (hd ⟨6, .data⟩ (by simp) (by rfl))
      rw [v6] at hu6
      have hl9 : L 9 = true := hd ⟨9, .data⟩ (by simp) (by rfl)
      have hlc : L 6 = true := hd ⟨6, .chain⟩ (by simp) (by rfl)
      clear hΦ hd
      obtain ⟨c, A, ⟨e0, e1, e2, e3⟩, hcn, hch, s5, s9, s13⟩ := hG
      have hck : c = 1 := by
        have h1 := hL.symm.trans e1
        have h2 := hlc.symm.trans e0
        simp at h1 h2; omega
      subst hck
      obtain ⟨g9, hg9, hb9, hB9, hn9⟩ := s9 hl9
      have hx : ∃ x, u = (upd (upd x 6 (.pointer (some ⟨(w.heap.size + 1), 0, none⟩))) 9 (.slice (some ⟨g9, 0, none⟩) 1 1)) := ⟨u, by rw [← upd_self hu6, ← upd_self hg9]⟩
      clear hu6 hg9
      obtain ⟨x, rfl⟩ := hx
      simp only [upd, reduceIte, Nat.reduceEqDiff]
      go_simp
      refine (wU16 (w.heap.size + 1) A _ w3 _ 1 1 [(ty : Int)] hch.wr (SlR.of_bk (n := 1) (size := 1) hb9 (AlS.not hch hB9 hn9) rfl) (by intro x hx; simp at hx; omega) (by omega) (by have := N1.out; first | omega | (simp; omega))).mono ?_
      rintro e w4 ⟨rfl, hw4⟩
      obtain ⟨A', hch', hal⟩ := hch.call hw4
      exact hK _ _ v10.symm ⟨2, A', ⟨e0, rfl, e2, e3⟩, by omega, by rw [Q2.out]; exact hch', hal _ _ _ _ _ s5, hal _ _ _ _ _ s9, hal _ _ _ _ _ s13⟩ (fun _ _ _ h => h)
    | 11, ho =>
      simp at ho; subst ho
      clear hΦ hd
      go_simp
      exact hK _ _ v11.symm hG (fun _ _ _ h => h)
    | 12, ho =>
      simp at ho; subst ho
      have hu11 : u 11 = V 11 := hΦ 11 (hd ⟨11, .data⟩ (by simp) (by rfl))
      rw [v11] at hu11
      clear hΦ hd
      obtain ⟨c, A, ⟨e0, e1, e2, e3⟩, hcn, hch, s5, s9, s13⟩ := hG
      have hx : ∃ x, u = (upd x 11 (.pointer (some ⟨w.heap.size, 13, none⟩))) := ⟨u, by rw [← upd_self hu11]⟩
      clear hu11
      obtain ⟨x, rfl⟩ := hx
      simp only [upd, reduceIte, Nat.reduceEqDiff]
      have hc0 := ((hpa).keep hch.fr (by unfold oneB; omega)).cells
      go_simp
      exact hK _ _ v12.symm ⟨c, A, ⟨e0, e1, e2, e3⟩, hcn, hch, s5, s9, s13⟩ (fun _ _ _ h => h)
    | 13, ho =>
      simp at ho; subst ho
      have hu12 : u 12 = V 12 := hΦ 12 (hd ⟨12, .data⟩ (by simp) (by rfl))
      rw [v12] at hu12
      clear hΦ hd
      obtain ⟨c, A, ⟨e0, e1, e2, e3⟩, hcn, hch, s5, s9, s13⟩ := hG
      have hx : ∃ x, u = (upd x 12 (.string (bs ld))) := ⟨u, by rw [← upd_self hu12]⟩
      clear hu12
      obtain ⟨x, rfl⟩ := hx
      simp only [upd, reduceIte, Nat.reduceEqDiff]
      go_simp
      exact hK _ _ trivial ⟨c, A, ⟨e0, e1, e2, e3⟩, hcn, hch.alloc _, AlS.alloc s5 _, AlS.alloc s9 _, AlS.new hch 1 9 #[.string (bs ld)]⟩ (fun _ _ _ h => h)
    | 14, ho =>
      simp at ho; subst ho
      have hu10 : u 10 = V 10 := hΦ 10 (hd ⟨10, .data⟩ (by simp) (by rfl))
      rw [v10] at hu10
      have hl13 : L 13 = true := hd ⟨13, .data⟩ (by simp) (by rfl)
      have hlc : L 10 = true := hd ⟨10, .chain⟩ (by simp) (by rfl)
      clear hΦ hd
      obtain ⟨c, A, ⟨e0, e1, e2, e3⟩, hcn, hch, s5, s9, s13⟩ := hG
      have hck : c = 2 := by
        have h1 := hL.symm.trans e2
        have h2 := hlc.symm.trans e1
        simp at h1 h2; omega
      subst hck
      obtain ⟨g13, hg13, hb13, hB13, hn13⟩ := s13 hl13
      have hx : ∃ x, u = (upd (upd x 10 (.pointer (some ⟨(w.heap.size + 1), 0, none⟩))) 13 (.slice (some ⟨g13, 0, none⟩) 1 1)) := ⟨u, by rw [← upd_self hu10, ← upd_self hg13]⟩
      clear hu10 hg13
      obtain ⟨x, rfl⟩ := hx
      simp only [upd, reduceIte, Nat.reduceEqDiff]
      go_simp
      refine (wText (w.heap.size + 1) A _ w3 _ 1 1 [ld] hch.wr (SlR.of_bk (n := 1) (size := 1) hb13 (AlS.not hch hB13 hn13) rfl) (by omega) (by have := N2.out; first | omega | (simp; omega))).mono ?_
      rintro e w4 ⟨rfl, hw4⟩
      obtain ⟨A', hch', hal⟩ := hch.call hw4
      exact hK _ _ v14.symm ⟨3, A', ⟨e0, e1, rfl, e3⟩, by omega, by rw [Q3.out]; exact hch', hal _ _ _ _ _ s5, hal _ _ _ _ _ s9, hal _ _ _ _ _ s13⟩ (fun _ _ _ h => h)
    | 15, ho =>
      simp at ho; subst ho
      have hu14 : u 14 = V 14 := hΦ 14 (hd ⟨14, .data⟩ (by simp) (by rfl))
      rw [v14] at hu14
      have hlc : L 14 = true := hd ⟨14, .chain⟩ (by simp) (by rfl)
      clear hΦ hd
      obtain ⟨c, A, ⟨e0, e1, e2, e3⟩, hcn, hch, s5, s9, s13⟩ := hG
      have hck : c = 3 := by
        have h1 := hL.symm.trans e3
        have h2 := hlc.symm.trans e2
        simp at h1 h2; omega
      subst hck
      have hx : ∃ x, u = (upd x 14 (.pointer (some ⟨(w.heap.size + 1), 0, none⟩))) := ⟨u, by rw [← upd_self hu14]⟩
      clear hu14
      obtain ⟨x, rfl⟩ := hx
      simp only [upd, reduceIte, Nat.reduceEqDiff]
      go_simp
      refine (wZero (w.heap.size + 1) A _ w3 60 hch.wr (by omega) (by have := N3.out; first | omega | (simp; omega))).mono ?_
      rintro e w4 ⟨rfl, hw4⟩
      obtain ⟨A', hch', hal⟩ := hch.call hw4
      exact hK _ _ v15.symm ⟨4, A', ⟨e0, e1, e2, rfl⟩, by omega, by rw [Q4.out]; exact hch', hal _ _ _ _ _ s5, hal _ _ _ _ _ s9, hal _ _ _ _ _ s13⟩ (fun _ _ _ h => h)
    | 16, ho =>
      simp at ho; subst ho
      have hu15 : u 15 = V 15 := hΦ 15 (hd ⟨15, .data⟩ (by simp) (by rfl))
      rw [v15] at hu15
      have hlc : L 15 = true := hd ⟨15, .chain⟩ (by simp) (by rfl)
      clear hΦ hd
      obtain ⟨c, A, ⟨e0, e1, e2, e3⟩, hcn, hch, s5, s9, s13⟩ := hG
      have hck : c = 4 := by
        have h2 := hlc.symm.trans e3
        simp at h2; omega
      subst hck
      have hx : ∃ x, u = (upd x 15 (.pointer (some ⟨(w.heap.size + 1), 0, none⟩))) := ⟨u, by rw [← upd_self hu15]⟩
      clear hu15
      obtain ⟨x, rfl⟩ := hx
      simp only [upd, reduceIte, Nat.reduceEqDiff]
      go_simp
      refine (wString (w.heap.size + 1) _ _ _ hch.wr).mono ?_
      rintro e w4 ⟨rfl, rfl⟩
      exact hK _ _ v16.symm ⟨4, A, ⟨e0, e1, e2, e3⟩, hcn, hch, s5, s9, s13⟩ (fun _ _ _ h => h)
    | 17, ho =>
      simp at ho; subst ho
      have hu16 : u 16 = V 16 := hΦ 16 (hd ⟨16, .data⟩ (by simp) (by rfl))
      rw [v16] at hu16
      clear hΦ hd
      have hx : ∃ x, u = (upd x 16 (.string (bs (lst 4)))) := ⟨u, by rw [← upd_self hu16]⟩
      clear hu16
      obtain ⟨x, rfl⟩ := hx
      simp only [upd, reduceIte, Nat.reduceEqDiff]
      go_simp
      exact hK _ _ v17.symm hG (fun _ _ _ h => h)
    | 18, ho =>
      simp at ho; subst ho
      clear hΦ hd
      go_simp
      exact hK _ _ v18.symm hG (fun _ _ _ h => h)
  · rintro u w3 hu L hall hG
    obtain ⟨c, A, ⟨e0, e1, e2, e3⟩, hcn, hch, s5, s9, s13⟩ := hG
    have h17 : u 17 = V 17 := hu 17 (by simp)
    rw [v17] at h17
    have h18 : u 18 = V 18 := hu 18 (by simp)
    rw [v18] at h18
    clear hu
    rw [h17, h18]
    have hby : lst 4 = ethBytes (m0, m1, m2, m3, m4, m5) (n0, n1, n2, n3, n4, n5) ty ld := by
      have h3 : lst 3 = ethBody (m0, m1, m2, m3, m4, m5) (n0, n1, n2, n3, n4, n5) ty ld := by rw [Q3.out, Q2.out, Q1.out, Q0.out]; exact eth_lst _ _ _ _
      rw [Q4.out, h3]; rfl
    rw [hby]
    have hfr := hf0.trans' hch.fr (fun b hb e => by unfold oneB at e; omega)
    skip
    clear hby
    generalize ethBytes (m0, m1, m2, m3, m4, m5) (n0, n1, n2, n3, n4, n5) ty ld = R at *
    go_wp2_with fail
    go_ret2
    exact ⟨by rw [hs.out]; rfl, hfr⟩

theorem bootWriteEther (ty : Nat) (ld : List UInt8) (m0 m1 m2 m3 m4 m5 n0 n1 n2 n3 n4 n5 : UInt8) (w : World) (hty : ty < 65536) (hld : ld.length ≤ 9223372036854775807) :
    Calls Tryz.prog 9 #[.agg #[.int .u8 (m0.toNat : Int), .int .u8 (m1.toNat : Int), .int .u8 (m2.toNat : Int), .int .u8 (m3.toNat : Int), .int .u8 (m4.toNat : Int), .int .u8 (m5.toNat : Int), .int .u8 (n0.toNat : Int), .int .u8 (n1.toNat : Int), .int .u8 (n2.toNat : Int), .int .u8 (n3.toNat : Int), .int .u8 (n4.toNat : Int), .int .u8 (n5.toNat : Int), .int .u16 (ty : Int), .string (bs ld)]] w (strPost (wrEther (m0, m1, m2, m3, m4, m5) (n0, n1, n2, n3, n4, n5) ty ld) w) := by
  have hpa := (Bk.new w 27 #[.int .u8 (m0.toNat : Int), .int .u8 (m1.toNat : Int), .int .u8 (m2.toNat : Int), .int .u8 (m3.toNat : Int), .int .u8 (m4.toNat : Int), .int .u8 (m5.toNat : Int), .int .u8 (n0.toNat : Int), .int .u8 (n1.toNat : Int), .int .u8 (n2.toNat : Int), .int .u8 (n3.toNat : Int), .int .u8 (n4.toNat : Int), .int .u8 (n5.toNat : Int), .int .u16 (ty : Int), .string (bs ld)]).cells
  have hf0 : Fr noB w (w.alloc (.cells #[.int .u8 (m0.toNat : Int), .int .u8 (m1.toNat : Int), .int .u8 (m2.toNat : Int), .int .u8 (m3.toNat : Int), .int .u8 (m4.toNat : Int), .int .u8 (m5.toNat : Int), .int .u8 (n0.toNat : Int), .int .u8 (n1.toNat : Int), .int .u8 (n2.toNat : Int), .int .u8 (n3.toNat : Int), .int .u8 (n4.toNat : Int), .int .u8 (n5.toNat : Int), .int .u16 (ty : Int), .string (bs ld)] 27)) := (Fr.refl _ _).alloc _
  go_enter Tryz.func9, Tryz.ntmps9
  go_wp2_with fail
  refine (packetWriteEther ty ld m0 m1 m2 m3 m4 m5 n0 n1 n2 n3 n4 n5 _ hty hld).mono ?_
  rintro e w2 ⟨rfl, hf2⟩
  generalize wrEther (m0, m1, m2, m3, m4, m5) (n0, n1, n2, n3, n4, n5) ty ld = R at *
  go_wp2_with fail
  go_ret2
  exact ⟨rfl, hf0.none hf2⟩

end Go.Proofs.YtcbkaiakdhiloabGreatDoor
namespace Go.Proofs.YtcbkaiakdhiloabGreatDoor
open Go.RowKit Go.Proofs
attribute [local go_sem] bs_size bs_append bs_extract

def zcArp : Array Value := #[.int .u16 0, .int .u8 0, .int .u8 0, .int .u8 0, .int .u8 0, .int .u8 0, .int .u8 0, .int .u32 0, .int .u8 0, .int .u8 0, .int .u8 0, .int .u8 0, .int .u8 0, .int .u8 0, .int .u32 0]
set_option maxRecDepth 20000 in
set_option maxHeartbeats 1000000 in
theorem catchArp (gx ge : Nat) (er : Int) (w : World) (hx : Bk w gx 67 zcArp) (he : Bk w ge 28 #[.int .i64 0]) (hne : gx ≠ ge) :
    CallsD Tryz.prog 155 #[.pointer (some ⟨gx, 0, none⟩), .pointer (some ⟨ge, 0, none⟩)] (.panicking (faultC er)) w fun r u' w' =>
      r = .returned (.tuple #[]) ∧ u' = .panicking [{ v := .iface 182 (.agg #[.int .i64 er]), recovered := true }] ∧ Bk w' gx 67 zcArp ∧ Bk w' ge 28 #[.int .i64 er] ∧ Fr (twoB gx ge) w w' := by
  have hta := fault_is er
  have hbf := (Bk.new w 182 #[.int .i64 er]).alloc (.cells zcArp 67)
  have hbz := Bk.new (w.alloc (.cells #[.int .i64 er] 182)) 67 zcArp
  rw [show (w.alloc (.cells #[.int .i64 er] 182)).heap.size = w.heap.size + 1 by simp] at hbz
  have hx2 := (hx.alloc (.cells #[.int .i64 er] 182)).alloc (.cells zcArp 67)
  have he2 := (he.alloc (.cells #[.int .i64 er] 182)).alloc (.cells zcArp 67)
  have hf2 : Fr (twoB gx ge) w ((w.alloc (.cells #[.int .i64 er] 182)).alloc (.cells zcArp 67)) := ((Fr.refl _ _).alloc _).alloc _
  have hgx := hx.lt
  have hge := he.lt
  refine callsD_of_wpS Tryz.func155 rfl fun c₀ cs hu => ?_
  apply wpS_seq
  apply wpS_region
  simp [wpOpsS, go_sem, recoverD, hu, Tryz.ntmps155, Exit.thenS, faultC]
  refine wpS_of_wp ?_
  simp only [Array.replicate_succ, Array.replicate_zero, List.push_toArray, List.append_toArray, List.nil_append, List.cons_append, List.setIfInBounds_toArray, List.set_cons_zero, List.set_cons_succ]
  go_wp2_with fail
  unfold zcArp at hbf hbz hx2 he2 hf2
  generalize (w.alloc (.cells #[.int .i64 er] 182)).alloc (.cells #[.int .u16 0, .int .u8 0, .int .u8 0, .int .u8 0, .int .u8 0, .int .u8 0, .int .u8 0, .int .u32 0, .int .u8 0, .int .u8 0, .int .u8 0, .int .u8 0, .int .u8 0, .int .u8 0, .int .u32 0] 67) = w2 at *
  refine wp_region_ssa (by kernel_rfl) (by kernel_rfl) (by kernel_rfl)
    (fun u => ⟨#[.pointer (some ⟨gx, 0, none⟩), .pointer (some ⟨ge, 0, none⟩), undef, .pointer (some ⟨w.heap.size, 0, none⟩), .pointer (some ⟨w.heap.size + 1, 0, none⟩), undef,
      .iface 182 (.agg #[.int .i64 er]), undef, .bool false, .tuple #[.agg #[.int .i64 er], .bool true], .bool true, .agg #[.int .i64 er], u 0, u 1, u 2], []⟩)
    (fun j v _ => match j with | 0 => v = .agg zcArp | 1 => v = .pointer (some ⟨w.heap.size, 0, none⟩) | 2 => v = .int .i64 er | _ => True)
    (fun L w3 => Bk w3 w.heap.size 182 #[.int .i64 er] ∧ Bk w3 (w.heap.size + 1) 67 zcArp ∧ Bk w3 gx 67 zcArp ∧ Bk w3 ge 28 #[if L 4 then .int .i64 er else .int .i64 0] ∧ Fr (twoB gx ge) w w3) (fun _ => undef) ⟨hbf.drew, hbz.drew, hx2.drew, he2.drew, hf2.drew⟩ ?_ ?_
  · rintro L u w3 i o ⟨g1, g2, g3, g4, g5⟩ hΦ ho hL hd K hK
    match i, ho with
    | 0, ho =>
      simp at ho; subst ho
      refine wp_load_row 67 (.tmp 4) rfl (w.heap.size + 1) rfl _ _ _ _ g2 Tryz.underlying67 rfl (by kernel_rfl) ?_
      exact hK _ _ rfl ⟨g1, g2, g3, g4, g5⟩ (fun _ _ _ h => h)
    | 1, ho =>
      simp at ho; subst ho
      clear hΦ hd
      go_simp
      exact hK _ _ rfl ⟨g1, g2, g3, g4, g5⟩ (fun _ _ _ h => h)
    | 2, ho =>
      simp at ho; subst ho
      have hu1 := hΦ 1 (hd ⟨1, .data⟩ (by simp) (by rfl))
      simp only at hu1
      have hc := g1.cells
      clear hΦ hd
      go_simp
      have hk := hK _ w3 rfl ⟨g1, g2, g3, g4, g5⟩ (fun _ _ _ h => h)
      simp only [upd, hu1] at hk
      exact hk
    | 3, ho =>
      simp at ho; subst ho
      have hu0 := hΦ 0 (hd ⟨0, .data⟩ (by simp) (by rfl))
      refine wp_store_bk 67 (.tmp 0) (.tmp 12) rfl gx _ _ _ rfl hu0 g3 rfl (by kernel_rfl) (by kernel_rfl) ?_
      intro w4 b4 f4
      refine hK undef _ trivial ⟨g1.keep f4 ?_, g2.keep f4 ?_, b4, g4.keep f4 ?_, g5.trans' f4 ?_⟩ (fun _ _ _ h => h)
      · unfold oneB; omega
      · unfold oneB; omega
      · unfold oneB; omega
      · intro b _ e; exact .inl e
    | 4, ho =>
      simp at ho; subst ho
      have hu2 := hΦ 2 (hd ⟨2, .data⟩ (by simp) (by rfl))
      simp only [hL] at g4 hu2
      have hc := g4.cells
      have hz := g4.frees
      clear hΦ hd
      go_simp
      have h4 : Bk (w3.setCell ⟨ge, 0, none⟩ (.int .i64 er)) ge 28 #[.int .i64 er] := by simpa using g4.set 0 (.int .i64 er)
      have hk := hK undef (w3.setCell ⟨ge, 0, none⟩ (.int .i64 er)) trivial ⟨g1.far (by simp; omega) _, g2.far (by simp; omega) _, g3.far (by simpa using hne) _, h4, g5.setCell (p := ⟨ge, 0, none⟩) (fun _ => .inr rfl) _⟩ (fun _ _ _ h => h)
      simp only [upd, hu2] at hk
      exact hk
  · rintro u w3 hΦ L hall ⟨g1, g2, g3, g4, g5⟩
    rw [hall 4 (by simp)] at g4
    exact ⟨rfl, _, rfl, .tuple #[], by simp [results, Tryz.results155], rfl, rfl, g3, by simpa using g4, g5⟩

theorem idleArp (gx ge : Nat) (w : World) :
    CallsD Tryz.prog 155 #[.pointer (some ⟨gx, 0, none⟩), .pointer (some ⟨ge, 0, none⟩)] .returning w fun r u' w' =>
      r = .returned (.tuple #[]) ∧ u' = .returning ∧ w' = w := by
  refine callsD_of_wpS Tryz.func155 rfl fun c₀ cs hu => ?_
  apply wpS_seq
  apply wpS_region
  simp [wpOpsS, go_sem, recoverD, hu, Tryz.ntmps155, Exit.thenS]
  refine wpS_of_wp ?_
  simp only [Array.replicate_succ, Array.replicate_zero, List.push_toArray, List.append_toArray, List.nil_append, List.cons_append, List.setIfInBounds_toArray, List.set_cons_zero, List.set_cons_succ]
  go_wp2_with fail
  simp [Exit.inBlock, bodyPostS, results, Tryz.results155]
  cases c₀
  simp at hu
  simp [hu]

set_option maxRecDepth 20000 in
set_option maxHeartbeats 1000000 in
/-- Read, over the reading function: what that returns, or its fault's error. -/
theorem readArp (l : List UInt8) (w : World) (ok : Array Value → Prop) (bad : Int → Prop) (hok : ∀ c, ok c → c.size = zcArp.size ∧ c.all (·.oneCell') = true)
    (hby : ∀ (p : Nat) (w1 : World), w.heap.size ≤ p → Rd w1 p l → Fr noB w w1 → Calls Tryz.prog 115 #[.pointer (some ⟨p, 0, none⟩)] w1 (byPost ok bad p w1)) :
    Calls Tryz.prog 114 #[.string (bs l), .func (.func 115) #[] #[]] w (readPost zcArp ok bad w) := by
  have hmf : ∀ (fn : Fn) (first cap : Array Value) (w : World), (Instr.makeFunc fn first cap).run Tryz.prog w = .ok (.func fn first cap) w := fun _ _ _ _ => rfl
  go_enter_defers Tryz.func114, Tryz.ntmps114
  have Hby := Lib.hid hby
  have Hok := Lib.hid hok
  clear hby hok
  go_wp2_with fail
  have hx0 := ((Bk.new w 67 zcArp).alloc (.cells #[.int .i64 0] 28)).alloc (.cells #[.string (bs l)] 184)
  have he0 := (Bk.new (w.alloc (.cells zcArp 67)) 28 #[.int .i64 0]).alloc (.cells #[.string (bs l)] 184)
  have hr0 := Bk.new ((w.alloc (.cells zcArp 67)).alloc (.cells #[.int .i64 0] 28)) 184 #[.string (bs l)]
  rw [show ((w.alloc (.cells zcArp 67)).alloc (.cells #[.int .i64 0] 28)).heap.size = w.heap.size + 1 + 1 by simp] at hr0
  rw [show (w.alloc (.cells zcArp 67)).heap.size = w.heap.size + 1 by simp] at he0
  have hf0 : Fr noB w (((w.alloc (.cells zcArp 67)).alloc (.cells #[.int .i64 0] 28)).alloc (.cells #[.string (bs l)] 184)) := (((Fr.refl _ _).alloc _).alloc _).alloc _
  unfold zcArp at hx0 he0 hr0 hf0
  generalize ((w.alloc (.cells #[.int .u16 0, .int .u8 0, .int .u8 0, .int .u8 0, .int .u8 0, .int .u8 0, .int .u8 0, .int .u32 0, .int .u8 0, .int .u8 0, .int .u8 0, .int .u8 0, .int .u8 0, .int .u8 0, .int .u32 0] 67)).alloc (.cells #[.int .i64 0] 28)).alloc (.cells #[.string (bs l)] 184) = w1 at *
  refine (Hby.out _ w1 (by omega) hr0 hf0).mono ?_
  rintro e w2 ⟨⟨x, hx, rfl⟩ | ⟨er, hbad, rfl⟩, hf1⟩
  · have hx1 := hx0.keep hf1 (by unfold oneB; omega)
    have he1 := he0.keep hf1 (by unfold oneB; omega)
    obtain ⟨hsx, hox⟩ := Hok.out x hx
    have Hsx := Lib.hid hsx
    have Hox := Lib.hid hox
    have hix : (Tryz.prog.info? 67).map (·.size) = some x.size := by rw [hsx]; kernel_rfl
    have Hix := Lib.hid hix
    clear hsx hox hix
    go_wp2_with ((refine wpList_store_bk rfl 67 (.tmp 4) (.tmp 11) rfl w.heap.size _ _ x rfl rfl hx1 Hsx.out Hix.out Hox.out ?_); intro w3 hx3 hf3; have he3 := he1.keep hf3 (by unfold oneB; omega); have hc3 := he3.cells; have hz3 := he3.frees)
    have hb3 : Bk (w3.setCell ⟨w.heap.size + 1, 0, none⟩ (.int .i64 0)) (w.heap.size + 1) 28 #[.int .i64 0] := by simpa using he3.set 0 (.int .i64 0)
    have hx4 := hx3.far (p := ⟨w.heap.size + 1, 0, none⟩) (by simp) (.int .i64 0)
    have hfin : Fr noB w (w3.setCell ⟨w.heap.size + 1, 0, none⟩ (.int .i64 0)) := by
      refine (((hf0.trans' hf1 ?_).trans' hf3 ?_).setCell ?_ _)
      · intro b hb e; unfold oneB at e; omega
      · intro b hb e; unfold oneB at e; omega
      · intro e; exact absurd e (by simp)
    generalize w3.setCell ⟨w.heap.size + 1, 0, none⟩ (.int .i64 0) = w4 at *
    refine leaves_cons (f := 155) (args := #[.pointer (some ⟨w.heap.size, 0, none⟩), .pointer (some ⟨w.heap.size + 1, 0, none⟩)]) (by simp) (by simp [go_sem]) ?_
    refine (idleArp _ _ _).mono ?_
    rintro e u' w5 ⟨rfl, rfl, rfl⟩
    refine ⟨.tuple #[.agg x, .int .i64 0], ?_, ⟨.inl ⟨_, hx, rfl⟩, hfin⟩⟩
    exact results_row_int Tryz.results114 _ w5 w.heap.size (w.heap.size + 1) _ _ x 0 _ _ rfl rfl hx4 hb3 Tryz.underlying67 rfl Hix.out Tryz.underlying28
  · have hx1 := hx0.keep hf1 (by unfold oneB; omega)
    have he1 := he0.keep hf1 (by unfold oneB; omega)
    have hfin : Fr noB w w2 := hf0.trans' hf1 (fun b hb e => by unfold oneB at e; omega)
    refine leaves_cons (f := 155) (args := #[.pointer (some ⟨w.heap.size, 0, none⟩), .pointer (some ⟨w.heap.size + 1, 0, none⟩)]) (by simp) (by simp [go_sem]) ?_
    refine (catchArp w.heap.size (w.heap.size + 1) er w2 hx1 he1 (by omega)).mono ?_
    rintro e u' w5 ⟨rfl, rfl, hx5, he5, hf5⟩
    refine ⟨.tuple #[.agg zcArp, .int .i64 er], ?_, ⟨.inr ⟨er, hbad, rfl⟩, hfin.trans' hf5 ?_⟩⟩
    · exact results_row_int Tryz.results114 _ w5 w.heap.size (w.heap.size + 1) _ _ _ er _ _ rfl rfl hx5 he5 Tryz.underlying67 rfl (by kernel_rfl) Tryz.underlying28
    · intro b hb e; unfold twoB at e; omega
end Go.Proofs.YtcbkaiakdhiloabGreatDoor
