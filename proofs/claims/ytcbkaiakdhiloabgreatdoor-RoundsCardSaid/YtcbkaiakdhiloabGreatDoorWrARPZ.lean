/- WriteARP, the program's and the reference's, and the walk of the law netbootlaw.ARPWrites. -/
import Derived.Test.YtcbkaiakdhiloabGreatDoorMaf
import Derived.Test.YtcbkaiakdhiloabGreatDoorMab
import Derived.Deep.Cut
import Derived.Deep.CutRange
set_option linter.unusedSimpArgs false
set_option linter.unusedVariables false
namespace Go.Proofs.YtcbkaiakdhiloabGreatDoor
open Go.RowKit Go.Proofs
attribute [local go_sem] bs_size bs_append bs_sub bs_toList

def arpBytes (op : Nat) (fm : Mac) (fi : Nat) (tm : Mac) (ti : Nat) : List UInt8 := [0, 1, 8, 0, 6, 4] ++ big 2 op ++ macB fm ++ big 4 fi ++ macB tm ++ big 4 ti
def wrARP (op : Nat) (fm : Mac) (fi : Nat) (tm : Mac) (ti : Nat) : List UInt8 × Nat := if op = 1 ∨ op = 2 then (arpBytes op fm fi tm ti, 0) else ([], 2)
theorem arp_lst (op fi ti : Nat) (m n : Mac) : ([] ++ bigs 2 [1, 2048] ++ [6, 4] ++ bigs 2 [(op : Int)] ++ List.flatMap macB [m] ++ bigs 4 [(fi : Int)] ++ List.flatMap macB [n] ++ bigs 4 [(ti : Int)]) = arpBytes op m fi n ti := by
  have e : bigs 2 [1, 2048] = [0, 1, 8, 0] := by decide
  rw [e]
  simp [arpBytes, bigs]

set_option maxRecDepth 20000 in
set_option maxHeartbeats 1000000 in
theorem packetWriteARP (op fi ti : Nat) (m0 m1 m2 m3 m4 m5 n0 n1 n2 n3 n4 n5 : UInt8) (w : World) (ho : op < 65536) (hfi : fi < 4294967296) (hti : ti < 4294967296) :
    Calls Tryz.prog 79 #[.agg #[.int .u16 (op : Int), .int .u8 (m0.toNat : Int), .int .u8 (m1.toNat : Int), .int .u8 (m2.toNat : Int), .int .u8 (m3.toNat : Int), .int .u8 (m4.toNat : Int), .int .u8 (m5.toNat : Int), .int .u32 (fi : Int), .int .u8 (n0.toNat : Int), .int .u8 (n1.toNat : Int), .int .u8 (n2.toNat : Int), .int .u8 (n3.toNat : Int), .int .u8 (n4.toNat : Int), .int .u8 (n5.toNat : Int), .int .u32 (ti : Int)]] w (strPost (wrARP op (m0, m1, m2, m3, m4, m5) fi (n0, n1, n2, n3, n4, n5) ti) w) := by
  have hpa := (Bk.new w 67 #[.int .u16 (op : Int), .int .u8 (m0.toNat : Int), .int .u8 (m1.toNat : Int), .int .u8 (m2.toNat : Int), .int .u8 (m3.toNat : Int), .int .u8 (m4.toNat : Int), .int .u8 (m5.toNat : Int), .int .u32 (fi : Int), .int .u8 (n0.toNat : Int), .int .u8 (n1.toNat : Int), .int .u8 (n2.toNat : Int), .int .u8 (n3.toNat : Int), .int .u8 (n4.toNat : Int), .int .u8 (n5.toNat : Int), .int .u32 (ti : Int)]).alloc (.cells #[.slice none 0 0] 125)
  have hbw := Bk.new (w.alloc (.cells #[.int .u16 (op : Int), .int .u8 (m0.toNat : Int), .int .u8 (m1.toNat : Int), .int .u8 (m2.toNat : Int), .int .u8 (m3.toNat : Int), .int .u8 (m4.toNat : Int), .int .u8 (m5.toNat : Int), .int .u32 (fi : Int), .int .u8 (n0.toNat : Int), .int .u8 (n1.toNat : Int), .int .u8 (n2.toNat : Int), .int .u8 (n3.toNat : Int), .int .u8 (n4.toNat : Int), .int .u8 (n5.toNat : Int), .int .u32 (ti : Int)] 67)) 125 #[.slice none 0 0]
  rw [show (w.alloc (.cells #[.int .u16 (op : Int), .int .u8 (m0.toNat : Int), .int .u8 (m1.toNat : Int), .int .u8 (m2.toNat : Int), .int .u8 (m3.toNat : Int), .int .u8 (m4.toNat : Int), .int .u8 (m5.toNat : Int), .int .u32 (fi : Int), .int .u8 (n0.toNat : Int), .int .u8 (n1.toNat : Int), .int .u8 (n2.toNat : Int), .int .u8 (n3.toNat : Int), .int .u8 (n4.toNat : Int), .int .u8 (n5.toNat : Int), .int .u32 (ti : Int)] 67)).heap.size = w.heap.size + 1 by simp] at hbw
  have hpa0 := (Bk.new w 67 #[.int .u16 (op : Int), .int .u8 (m0.toNat : Int), .int .u8 (m1.toNat : Int), .int .u8 (m2.toNat : Int), .int .u8 (m3.toNat : Int), .int .u8 (m4.toNat : Int), .int .u8 (m5.toNat : Int), .int .u32 (fi : Int), .int .u8 (n0.toNat : Int), .int .u8 (n1.toNat : Int), .int .u8 (n2.toNat : Int), .int .u8 (n3.toNat : Int), .int .u8 (n4.toNat : Int), .int .u8 (n5.toNat : Int), .int .u32 (ti : Int)]).cells
  go_enter Tryz.func79, Tryz.ntmps79
  go_upto_region 1 with fail
  go_cut [12] from 5 to 12 (fun c wx => c = .bool (!(decide (op = 1) || decide (op = 2))) ∧ wx = w.alloc (.cells #[.int .u16 (op : Int), .int .u8 (m0.toNat : Int), .int .u8 (m1.toNat : Int), .int .u8 (m2.toNat : Int), .int .u8 (m3.toNat : Int), .int .u8 (m4.toNat : Int), .int .u8 (m5.toNat : Int), .int .u32 (fi : Int), .int .u8 (n0.toNat : Int), .int .u8 (n1.toNat : Int), .int .u8 (n2.toNat : Int), .int .u8 (n3.toNat : Int), .int .u8 (n4.toNat : Int), .int .u8 (n5.toNat : Int), .int .u32 (ti : Int)] 67))
  case first =>
    by_cases h1 : op = 1
    · have b1 : ((op : Int) != 1) = false := by simp; omega
      have H1 := Lib.hid h1
      clear h1
      go_wp2_with fail
      go_meet
      case rel => exact ⟨by rw [H1.out]; rfl, rfl⟩
    · have b1 : ((op : Int) != 1) = true := by simp; omega
      have H1 := Lib.hid h1
      clear h1
      by_cases h2 : op = 2
      · have b2 : ((op : Int) != 2) = false := by simp; omega
        have H2 := Lib.hid h2
        clear h2
        go_wp2_with fail
        go_meet
        case rel => exact ⟨by rw [H2.out]; rfl, rfl⟩
      · have b2 : ((op : Int) != 2) = true := by simp; omega
        have H2 := Lib.hid h2
        clear h2
        go_wp2_with fail
        go_meet
        case rel => exact ⟨by simp [H1.out, H2.out], rfl⟩
  case rest =>
  obtain ⟨rfl, rfl⟩ := hcut
  by_cases h : op = 1 ∨ op = 2
  · have hb : (!(decide (op = 1) || decide (op = 2))) = false := by rcases h with rfl | rfl <;> rfl
    rw [hb]
    have hs : Hid (wrARP op (m0, m1, m2, m3, m4, m5) fi (n0, n1, n2, n3, n4, n5) ti = (arpBytes op (m0, m1, m2, m3, m4, m5) fi (n0, n1, n2, n3, n4, n5) ti, 0)) := by unfold Hid wrARP; rw [if_pos h]
    clear h hb hpa0
    go_upto_region 4 with fail
    have hf0 : Fr noB w ((w.alloc (.cells #[.int .u16 (op : Int), .int .u8 (m0.toNat : Int), .int .u8 (m1.toNat : Int), .int .u8 (m2.toNat : Int), .int .u8 (m3.toNat : Int), .int .u8 (m4.toNat : Int), .int .u8 (m5.toNat : Int), .int .u32 (fi : Int), .int .u8 (n0.toNat : Int), .int .u8 (n1.toNat : Int), .int .u8 (n2.toNat : Int), .int .u8 (n3.toNat : Int), .int .u8 (n4.toNat : Int), .int .u8 (n5.toNat : Int), .int .u32 (ti : Int)] 67)).alloc (.cells #[.slice none 0 0] 125)) := ((Fr.refl _ _).alloc _).alloc _
    have hsz : ((w.alloc (.cells #[.int .u16 (op : Int), .int .u8 (m0.toNat : Int), .int .u8 (m1.toNat : Int), .int .u8 (m2.toNat : Int), .int .u8 (m3.toNat : Int), .int .u8 (m4.toNat : Int), .int .u8 (m5.toNat : Int), .int .u32 (fi : Int), .int .u8 (n0.toNat : Int), .int .u8 (n1.toNat : Int), .int .u8 (n2.toNat : Int), .int .u8 (n3.toNat : Int), .int .u8 (n4.toNat : Int), .int .u8 (n5.toNat : Int), .int .u32 (ti : Int)] 67)).alloc (.cells #[.slice none 0 0] 125)).heap.size = w.heap.size + 2 := by simp
    generalize (w.alloc (.cells #[.int .u16 (op : Int), .int .u8 (m0.toNat : Int), .int .u8 (m1.toNat : Int), .int .u8 (m2.toNat : Int), .int .u8 (m3.toNat : Int), .int .u8 (m4.toNat : Int), .int .u8 (m5.toNat : Int), .int .u32 (fi : Int), .int .u8 (n0.toNat : Int), .int .u8 (n1.toNat : Int), .int .u8 (n2.toNat : Int), .int .u8 (n3.toNat : Int), .int .u8 (n4.toNat : Int), .int .u8 (n5.toNat : Int), .int .u32 (ti : Int)] 67)).alloc (.cells #[.slice none 0 0] 125) = w1 at *
    have hwr0 := Wr.zero hbw
    obtain ⟨lst, Q0, Q1, Q2, Q3, Q4, Q5, Q6, Q7⟩ : ∃ lst : Nat → List UInt8, Hid (lst 0 = ([] : List UInt8)) ∧ Hid (lst 1 = lst 0 ++ bigs 2 [1, 2048]) ∧ Hid (lst 2 = lst 1 ++ [6, 4]) ∧ Hid (lst 3 = lst 2 ++ bigs 2 [(op : Int)]) ∧ Hid (lst 4 = lst 3 ++ List.flatMap macB [(m0, m1, m2, m3, m4, m5)]) ∧ Hid (lst 5 = lst 4 ++ bigs 4 [(fi : Int)]) ∧ Hid (lst 6 = lst 5 ++ List.flatMap macB [(n0, n1, n2, n3, n4, n5)]) ∧ Hid (lst 7 = lst 6 ++ bigs 4 [(ti : Int)]) := by
      exact ⟨fun k => match k with | 0 => ([] : List UInt8) | 1 => (([] : List UInt8) ++ bigs 2 [1, 2048]) | 2 => ((([] : List UInt8) ++ bigs 2 [1, 2048]) ++ [6, 4]) | 3 => (((([] : List UInt8) ++ bigs 2 [1, 2048]) ++ [6, 4]) ++ bigs 2 [(op : Int)]) | 4 => ((((([] : List UInt8) ++ bigs 2 [1, 2048]) ++ [6, 4]) ++ bigs 2 [(op : Int)]) ++ List.flatMap macB [(m0, m1, m2, m3, m4, m5)]) | 5 => (((((([] : List UInt8) ++ bigs 2 [1, 2048]) ++ [6, 4]) ++ bigs 2 [(op : Int)]) ++ List.flatMap macB [(m0, m1, m2, m3, m4, m5)]) ++ bigs 4 [(fi : Int)]) | 6 => ((((((([] : List UInt8) ++ bigs 2 [1, 2048]) ++ [6, 4]) ++ bigs 2 [(op : Int)]) ++ List.flatMap macB [(m0, m1, m2, m3, m4, m5)]) ++ bigs 4 [(fi : Int)]) ++ List.flatMap macB [(n0, n1, n2, n3, n4, n5)]) | _ => (((((((([] : List UInt8) ++ bigs 2 [1, 2048]) ++ [6, 4]) ++ bigs 2 [(op : Int)]) ++ List.flatMap macB [(m0, m1, m2, m3, m4, m5)]) ++ bigs 4 [(fi : Int)]) ++ List.flatMap macB [(n0, n1, n2, n3, n4, n5)]) ++ bigs 4 [(ti : Int)]), rfl, rfl, rfl, rfl, rfl, rfl, rfl, rfl⟩
    have N0 : Hid ((lst 0).length ≤ 0) := by unfold Hid; rw [Q0.out]; simp
    have N1 : Hid ((lst 1).length ≤ 0 + (4)) := by have h0 := N0.out; have h1 : ((bigs 2 [1, 2048] : List UInt8)).length ≤ 4 := (by simp [bigs_length, macB, big_length] <;> omega); unfold Hid; rw [Q1.out, List.length_append]; omega
    have N2 : Hid ((lst 2).length ≤ 0 + (4) + (2)) := by have h0 := N1.out; have h1 : (([6, 4] : List UInt8)).length ≤ 2 := (by simp [bigs_length, macB, big_length] <;> omega); unfold Hid; rw [Q2.out, List.length_append]; omega
    have N3 : Hid ((lst 3).length ≤ 0 + (4) + (2) + (2)) := by have h0 := N2.out; have h1 : ((bigs 2 [(op : Int)] : List UInt8)).length ≤ 2 := (by simp [bigs_length, macB, big_length] <;> omega); unfold Hid; rw [Q3.out, List.length_append]; omega
    have N4 : Hid ((lst 4).length ≤ 0 + (4) + (2) + (2) + (6)) := by have h0 := N3.out; have h1 : ((List.flatMap macB [(m0, m1, m2, m3, m4, m5)] : List UInt8)).length ≤ 6 := (by simp [bigs_length, macB, big_length] <;> omega); unfold Hid; rw [Q4.out, List.length_append]; omega
    have N5 : Hid ((lst 5).length ≤ 0 + (4) + (2) + (2) + (6) + (4)) := by have h0 := N4.out; have h1 : ((bigs 4 [(fi : Int)] : List UInt8)).length ≤ 4 := (by simp [bigs_length, macB, big_length] <;> omega); unfold Hid; rw [Q5.out, List.length_append]; omega
    have N6 : Hid ((lst 6).length ≤ 0 + (4) + (2) + (2) + (6) + (4) + (6)) := by have h0 := N5.out; have h1 : ((List.flatMap macB [(n0, n1, n2, n3, n4, n5)] : List UInt8)).length ≤ 6 := (by simp [bigs_length, macB, big_length] <;> omega); unfold Hid; rw [Q6.out, List.length_append]; omega
    have N7 : Hid ((lst 7).length ≤ 0 + (4) + (2) + (2) + (6) + (4) + (6) + (4)) := by have h0 := N6.out; have h1 : ((bigs 4 [(ti : Int)] : List UInt8)).length ≤ 4 := (by simp [bigs_length, macB, big_length] <;> omega); unfold Hid; rw [Q7.out, List.length_append]; omega
    obtain ⟨V, hV⟩ : ∃ V : Nat → Value, V = (fun j => match j with | 0 => .pointer (some ⟨(w.heap.size + 1), 0, none⟩) | 2 => .pointer (some ⟨(w.heap.size + 1), 0, none⟩) | 4 => .pointer (some ⟨(w.heap.size + 1), 0, none⟩) | 5 => .pointer (some ⟨w.heap.size, 0, none⟩) | 6 => .int .u16 (op : Int) | 8 => .pointer (some ⟨(w.heap.size + 1), 0, none⟩) | 9 => .pointer (some ⟨w.heap.size, 1, none⟩) | 10 => .agg #[.int .u8 (m0.toNat : Int), .int .u8 (m1.toNat : Int), .int .u8 (m2.toNat : Int), .int .u8 (m3.toNat : Int), .int .u8 (m4.toNat : Int), .int .u8 (m5.toNat : Int)] | 12 => .pointer (some ⟨(w.heap.size + 1), 0, none⟩) | 13 => .pointer (some ⟨w.heap.size, 7, none⟩) | 14 => .int .u32 (fi : Int) | 16 => .pointer (some ⟨(w.heap.size + 1), 0, none⟩) | 17 => .pointer (some ⟨w.heap.size, 8, none⟩) | 18 => .agg #[.int .u8 (n0.toNat : Int), .int .u8 (n1.toNat : Int), .int .u8 (n2.toNat : Int), .int .u8 (n3.toNat : Int), .int .u8 (n4.toNat : Int), .int .u8 (n5.toNat : Int)] | 20 => .pointer (some ⟨(w.heap.size + 1), 0, none⟩) | 21 => .pointer (some ⟨w.heap.size, 14, none⟩) | 22 => .int .u32 (ti : Int) | 24 => .pointer (some ⟨(w.heap.size + 1), 0, none⟩) | 25 => .string (bs (lst 7)) | 26 => .string (bs (lst 7)) | 27 => .int .i64 0 | _ => undef) := ⟨_, rfl⟩
    have v0 : V 0 = .pointer (some ⟨(w.heap.size + 1), 0, none⟩) := congrFun hV 0
    have v2 : V 2 = .pointer (some ⟨(w.heap.size + 1), 0, none⟩) := congrFun hV 2
    have v4 : V 4 = .pointer (some ⟨(w.heap.size + 1), 0, none⟩) := congrFun hV 4
    have v5 : V 5 = .pointer (some ⟨w.heap.size, 0, none⟩) := congrFun hV 5
    have v6 : V 6 = .int .u16 (op : Int) := congrFun hV 6
    have v8 : V 8 = .pointer (some ⟨(w.heap.size + 1), 0, none⟩) := congrFun hV 8
    have v9 : V 9 = .pointer (some ⟨w.heap.size, 1, none⟩) := congrFun hV 9
    have v10 : V 10 = .agg #[.int .u8 (m0.toNat : Int), .int .u8 (m1.toNat : Int), .int .u8 (m2.toNat : Int), .int .u8 (m3.toNat : Int), .int .u8 (m4.toNat : Int), .int .u8 (m5.toNat : Int)] := congrFun hV 10
    have v12 : V 12 = .pointer (some ⟨(w.heap.size + 1), 0, none⟩) := congrFun hV 12
    have v13 : V 13 = .pointer (some ⟨w.heap.size, 7, none⟩) := congrFun hV 13
    have v14 : V 14 = .int .u32 (fi : Int) := congrFun hV 14
    have v16 : V 16 = .pointer (some ⟨(w.heap.size + 1), 0, none⟩) := congrFun hV 16
    have v17 : V 17 = .pointer (some ⟨w.heap.size, 8, none⟩) := congrFun hV 17
    have v18 : V 18 = .agg #[.int .u8 (n0.toNat : Int), .int .u8 (n1.toNat : Int), .int .u8 (n2.toNat : Int), .int .u8 (n3.toNat : Int), .int .u8 (n4.toNat : Int), .int .u8 (n5.toNat : Int)] := congrFun hV 18
    have v20 : V 20 = .pointer (some ⟨(w.heap.size + 1), 0, none⟩) := congrFun hV 20
    have v21 : V 21 = .pointer (some ⟨w.heap.size, 14, none⟩) := congrFun hV 21
    have v22 : V 22 = .int .u32 (ti : Int) := congrFun hV 22
    have v24 : V 24 = .pointer (some ⟨(w.heap.size + 1), 0, none⟩) := congrFun hV 24
    have v25 : V 25 = .string (bs (lst 7)) := congrFun hV 25
    have v26 : V 26 = .string (bs (lst 7)) := congrFun hV 26
    have v27 : V 27 = .int .i64 0 := congrFun hV 27
    clear hV
    refine wp_region_ssau (by kernel_rfl) (by kernel_rfl) (by kernel_rfl)
      (fun u => ⟨#[.agg #[.int .u16 (op : Int), .int .u8 (m0.toNat : Int), .int .u8 (m1.toNat : Int), .int .u8 (m2.toNat : Int), .int .u8 (m3.toNat : Int), .int .u8 (m4.toNat : Int), .int .u8 (m5.toNat : Int), .int .u32 (fi : Int), .int .u8 (n0.toNat : Int), .int .u8 (n1.toNat : Int), .int .u8 (n2.toNat : Int), .int .u8 (n3.toNat : Int), .int .u8 (n4.toNat : Int), .int .u8 (n5.toNat : Int), .int .u32 (ti : Int)], .pointer (some ⟨w.heap.size, 0, none⟩), u 26, u 27, .pointer (some ⟨(w.heap.size + 1), 0, none⟩), u5, u6, u7, u8, u9, u10, u11, .bool false, .agg #[.slice none 0 0], .pointer (some ⟨(w.heap.size + 1), 0, none⟩), u 0, u 1, u 2, u 3, u 4, u 5, u 6, u 7, u 8, u 9, u 10, u 11, u 12, u 13, u 14, u 15, u 16, u 17, u 18, u 19, u 20, u 21, u 22, u 23, u 24, u 25], []⟩)
      (fun j v w3 => if j = 1 then True else if j = 3 then True else if j = 7 then True else if j = 11 then True else if j = 15 then True else if j = 19 then True else if j = 23 then True else v = V j)
      (fun L u w3 => ∃ (c : Nat) (A : Option Addr), (L 2 = decide (0 < c) ∧ L 4 = decide (1 < c) ∧ L 8 = decide (2 < c) ∧ L 12 = decide (3 < c) ∧ L 16 = decide (4 < c) ∧ L 20 = decide (5 < c) ∧ L 24 = decide (6 < c)) ∧ c ≤ 7 ∧ Chn w1 (w.heap.size + 1) w1.heap.size A (lst c) w3 ∧ AlS (L 1) (u 1) 2 24 #[.int .u16 1, .int .u16 2048] w1.heap.size A w3 ∧ AlS (L 3) (u 3) 2 5 #[.int .u8 6, .int .u8 4] w1.heap.size A w3 ∧ AlS (L 7) (u 7) 1 24 #[.int .u16 (op : Int)] w1.heap.size A w3 ∧ AlS (L 11) (u 11) 1 23 #[.int .u8 (m0.toNat : Int), .int .u8 (m1.toNat : Int), .int .u8 (m2.toNat : Int), .int .u8 (m3.toNat : Int), .int .u8 (m4.toNat : Int), .int .u8 (m5.toNat : Int)] w1.heap.size A w3 ∧ AlS (L 15) (u 15) 1 34 #[.int .u32 (fi : Int)] w1.heap.size A w3 ∧ AlS (L 19) (u 19) 1 23 #[.int .u8 (n0.toNat : Int), .int .u8 (n1.toNat : Int), .int .u8 (n2.toNat : Int), .int .u8 (n3.toNat : Int), .int .u8 (n4.toNat : Int), .int .u8 (n5.toNat : Int)] w1.heap.size A w3 ∧ AlS (L 23) (u 23) 1 34 #[.int .u32 (ti : Int)] w1.heap.size A w3) (fun j => if j = 26 then .string ⟨#[]⟩ else if j = 27 then .int .i64 0 else undef) ⟨0, none, ⟨rfl, rfl, rfl, rfl, rfl, rfl, rfl⟩, by omega, by rw [Q0.out]; exact Chn.start hwr0 rfl, AlS.false, AlS.false, AlS.false, AlS.false, AlS.false, AlS.false, AlS.false⟩ ?_ ?_
    · rintro L u w3 i o hG hΦ ho hL hd K hK
      match i, ho with
      | 0, ho =>
        simp at ho; subst ho
        clear hΦ hd
        go_simp
        exact hK _ _ v0.symm hG (fun _ _ _ h => h)
      | 1, ho =>
        simp at ho; subst ho
        clear hΦ hd
        obtain ⟨c, A, ⟨e0, e1, e2, e3, e4, e5, e6⟩, hcn, hch, s1, s3, s7, s11, s15, s19, s23⟩ := hG
        go_simp
        exact hK _ _ trivial ⟨c, A, ⟨e0, e1, e2, e3, e4, e5, e6⟩, hcn, hch.alloc _, AlS.new hch 2 24 #[.int .u16 1, .int .u16 2048], AlS.alloc s3 _, AlS.alloc s7 _, AlS.alloc s11 _, AlS.alloc s15 _, AlS.alloc s19 _, AlS.alloc s23 _⟩ (fun _ _ _ h => h)
      | 2, ho =>
        simp at ho; subst ho
        have hu0 : u 0 = V 0 := hΦ 0 (hd ⟨0, .data⟩ (by simp) (by rfl))
        rw [v0] at hu0
        have hl1 : L 1 = true := hd ⟨1, .data⟩ (by simp) (by rfl)
        clear hΦ hd
        obtain ⟨c, A, ⟨e0, e1, e2, e3, e4, e5, e6⟩, hcn, hch, s1, s3, s7, s11, s15, s19, s23⟩ := hG
        have hck : c = 0 := by
          have h1 := hL.symm.trans e0
          simp at h1; omega
        subst hck
        obtain ⟨g1, hg1, hb1, hB1, hn1⟩ := s1 hl1
        have hx : ∃ x, u = (upd (upd x 0 (.pointer (some ⟨(w.heap.size + 1), 0, none⟩))) 1 (.slice (some ⟨g1, 0, none⟩) 2 2)) := ⟨u, by rw [← upd_self hu0, ← upd_self hg1]⟩
        clear hu0 hg1
        obtain ⟨x, rfl⟩ := hx
        simp only [upd, reduceIte, Nat.reduceEqDiff]
        go_simp
        refine (wU16 (w.heap.size + 1) A _ w3 _ 2 2 [1, 2048] hch.wr (SlR.of_bk (n := 2) (size := 1) hb1 (AlS.not hch hB1 hn1) rfl) (by intro x hx; simp at hx; omega) (by omega) (by have := N0.out; first | omega | (simp; omega))).mono ?_
        rintro e w4 ⟨rfl, hw4⟩
        obtain ⟨A', hch', hal⟩ := hch.call hw4
        exact hK _ _ v2.symm ⟨1, A', ⟨rfl, e1, e2, e3, e4, e5, e6⟩, by omega, by rw [Q1.out]; exact hch', hal _ _ _ _ _ s1, hal _ _ _ _ _ s3, hal _ _ _ _ _ s7, hal _ _ _ _ _ s11, hal _ _ _ _ _ s15, hal _ _ _ _ _ s19, hal _ _ _ _ _ s23⟩ (fun _ _ _ h => h)
      | 3, ho =>
        simp at ho; subst ho
        clear hΦ hd
        obtain ⟨c, A, ⟨e0, e1, e2, e3, e4, e5, e6⟩, hcn, hch, s1, s3, s7, s11, s15, s19, s23⟩ := hG
        go_simp
        exact hK _ _ trivial ⟨c, A, ⟨e0, e1, e2, e3, e4, e5, e6⟩, hcn, hch.alloc _, AlS.alloc s1 _, AlS.new hch 2 5 #[.int .u8 6, .int .u8 4], AlS.alloc s7 _, AlS.alloc s11 _, AlS.alloc s15 _, AlS.alloc s19 _, AlS.alloc s23 _⟩ (fun _ _ _ h => h)
      | 4, ho =>
        simp at ho; subst ho
        have hu2 : u 2 = V 2 := hΦ 2 (hd ⟨2, .data⟩ (by simp) (by rfl))
        rw [v2] at hu2
        have hl3 : L 3 = true := hd ⟨3, .data⟩ (by simp) (by rfl)
        have hlc : L 2 = true := hd ⟨2, .chain⟩ (by simp) (by rfl)
        clear hΦ hd
        obtain ⟨c, A, ⟨e0, e1, e2, e3, e4, e5, e6⟩, hcn, hch, s1, s3, s7, s11, s15, s19, s23⟩ := hG
        have hck : c = 1 := by
          have h1 := hL.symm.trans e1
          have h2 := hlc.symm.trans e0
          simp at h1 h2; omega
        subst hck
        obtain ⟨g3, hg3, hb3, hB3, hn3⟩ := s3 hl3
        have hx : ∃ x, u = (upd (upd x 2 (.pointer (some ⟨(w.heap.size + 1), 0, none⟩))) 3 (.slice (some ⟨g3, 0, none⟩) 2 2)) := ⟨u, by rw [← upd_self hu2, ← upd_self hg3]⟩
        clear hu2 hg3
        obtain ⟨x, rfl⟩ := hx
        simp only [upd, reduceIte, Nat.reduceEqDiff]
        go_simp
        refine (wU8 (w.heap.size + 1) A _ w3 _ 2 2 [6, 4] (wrS (w.heap.size + 1) A) hch.wr (SlR.of_bk (n := 2) (size := 1) hb3 (AlS.not hch hB3 hn3) rfl) (by have := N1.out; first | omega | (simp; omega))).mono ?_
        rintro e w4 ⟨rfl, hw4⟩
        obtain ⟨A', hch', hal⟩ := hch.call hw4
        exact hK _ _ v4.symm ⟨2, A', ⟨e0, rfl, e2, e3, e4, e5, e6⟩, by omega, by rw [Q2.out]; exact hch', hal _ _ _ _ _ s1, hal _ _ _ _ _ s3, hal _ _ _ _ _ s7, hal _ _ _ _ _ s11, hal _ _ _ _ _ s15, hal _ _ _ _ _ s19, hal _ _ _ _ _ s23⟩ (fun _ _ _ h => h)
      | 5, ho =>
        simp at ho; subst ho
        clear hΦ hd
        go_simp
        exact hK _ _ v5.symm hG (fun _ _ _ h => h)
      | 6, ho =>
        simp at ho; subst ho
        have hu5 : u 5 = V 5 := hΦ 5 (hd ⟨5, .data⟩ (by simp) (by rfl))
        rw [v5] at hu5
        clear hΦ hd
        obtain ⟨c, A, ⟨e0, e1, e2, e3, e4, e5, e6⟩, hcn, hch, s1, s3, s7, s11, s15, s19, s23⟩ := hG
        have hx : ∃ x, u = (upd x 5 (.pointer (some ⟨w.heap.size, 0, none⟩))) := ⟨u, by rw [← upd_self hu5]⟩
        clear hu5
        obtain ⟨x, rfl⟩ := hx
        simp only [upd, reduceIte, Nat.reduceEqDiff]
        have hc0 := ((hpa).keep hch.fr (by unfold oneB; omega)).cells
        go_simp
        exact hK _ _ v6.symm ⟨c, A, ⟨e0, e1, e2, e3, e4, e5, e6⟩, hcn, hch, s1, s3, s7, s11, s15, s19, s23⟩ (fun _ _ _ h => h)
      | 7, ho =>
        simp at ho; subst ho
        have hu6 : u 6 = V 6 := hΦ 6 (hd ⟨6, .data⟩ (by simp) (by rfl))
        rw [v6] at hu6
        clear hΦ hd
        obtain ⟨c, A, ⟨e0, e1, e2, e3, e4, e5, e6⟩, hcn, hch, s1, s3, s7, s11, s15, s19, s23⟩ := hG
        have hx : ∃ x, u = (upd x 6 (.int .u16 (op : Int))) := ⟨u, by rw [← upd_self hu6]⟩
        clear hu6
        obtain ⟨x, rfl⟩ := hx
        simp only [upd, reduceIte, Nat.reduceEqDiff]
        go_simp
        exact hK _ _ trivial ⟨c, A, ⟨e0, e1, e2, e3, e4, e5, e6⟩, hcn, hch.alloc _, AlS.alloc s1 _, AlS.alloc s3 _, AlS.new hch 1 24 #[.int .u16 (op : Int)], AlS.alloc s11 _, AlS.alloc s15 _, AlS.alloc s19 _, AlS.alloc s23 _⟩ (fun _ _ _ h => h)
      | 8, ho =>
        simp at ho; subst ho
        have hu4 : u 4 = V 4 := hΦ 4 (hd ⟨4, .data⟩ (by simp) (by rfl))
        rw [v4] at hu4
        have hl7 : L 7 = true := hd ⟨7, .data⟩ (by simp) (by rfl)
        have hlc : L 4 = true := hd ⟨4, .chain⟩ (by simp) (by rfl)
        clear hΦ hd
        obtain ⟨c, A, ⟨e0, e1, e2, e3, e4, e5, e6⟩, hcn, hch, s1, s3, s7, s11, s15, s19, s23⟩ := hG
        have hck : c = 2 := by
          have h1 := hL.symm.trans e2
          have h2 := hlc.symm.trans e1
          simp at h1 h2; omega
        subst hck
        obtain ⟨g7, hg7, hb7, hB7, hn7⟩ := s7 hl7
        have hx : ∃ x, u = (upd (upd x 4 (.pointer (some ⟨(w.heap.size + 1), 0, none⟩))) 7 (.slice (some ⟨g7, 0, none⟩) 1 1)) := ⟨u, by rw [← upd_self hu4, ← upd_self hg7]⟩
        clear hu4 hg7
        obtain ⟨x, rfl⟩ := hx
        simp only [upd, reduceIte, Nat.reduceEqDiff]
        go_simp
        refine (wU16 (w.heap.size + 1) A _ w3 _ 1 1 [(op : Int)] hch.wr (SlR.of_bk (n := 1) (size := 1) hb7 (AlS.not hch hB7 hn7) rfl) (by intro x hx; simp at hx; omega) (by omega) (by have := N2.out; first | omega | (simp; omega))).mono ?_
        rintro e w4 ⟨rfl, hw4⟩
        obtain ⟨A', hch', hal⟩ := hch.call hw4
        exact hK _ _ v8.symm ⟨3, A', ⟨e0, e1, rfl, e3, e4, e5, e6⟩, by omega, by rw [Q3.out]; exact hch', hal _ _ _ _ _ s1, hal _ _ _ _ _ s3, hal _ _ _ _ _ s7, hal _ _ _ _ _ s11, hal _ _ _ _ _ s15, hal _ _ _ _ _ s19, hal _ _ _ _ _ s23⟩ (fun _ _ _ h => h)
      | 9, ho =>
        simp at ho; subst ho
        clear hΦ hd
        go_simp
        exact hK _ _ v9.symm hG (fun _ _ _ h => h)
      | 10, ho =>
        simp at ho; subst ho
        have hu9 : u 9 = V 9 := hΦ 9 (hd ⟨9, .data⟩ (by simp) (by rfl))
        rw [v9] at hu9
        clear hΦ hd
        obtain ⟨c, A, ⟨e0, e1, e2, e3, e4, e5, e6⟩, hcn, hch, s1, s3, s7, s11, s15, s19, s23⟩ := hG
        have hx : ∃ x, u = (upd x 9 (.pointer (some ⟨w.heap.size, 1, none⟩))) := ⟨u, by rw [← upd_self hu9]⟩
        clear hu9
        obtain ⟨x, rfl⟩ := hx
        simp only [upd, reduceIte, Nat.reduceEqDiff]
        have hc0 := ((hpa).keep hch.fr (by unfold oneB; omega)).cells
        go_simp
        exact hK _ _ v10.symm ⟨c, A, ⟨e0, e1, e2, e3, e4, e5, e6⟩, hcn, hch, s1, s3, s7, s11, s15, s19, s23⟩ (fun _ _ _ h => h)
      | 11, ho =>
        simp at ho; subst ho
        have hu10 : u 10 = V 10 := hΦ 10 (hd ⟨10, .data⟩ (by simp) (by rfl))
        rw [v10] at hu10
        clear hΦ hd
        obtain ⟨c, A, ⟨e0, e1, e2, e3, e4, e5, e6⟩, hcn, hch, s1, s3, s7, s11, s15, s19, s23⟩ := hG
        have hx : ∃ x, u = (upd x 10 (.agg #[.int .u8 (m0.toNat : Int), .int .u8 (m1.toNat : Int), .int .u8 (m2.toNat : Int), .int .u8 (m3.toNat : Int), .int .u8 (m4.toNat : Int), .int .u8 (m5.toNat : Int)])) := ⟨u, by rw [← upd_self hu10]⟩
        clear hu10
        obtain ⟨x, rfl⟩ := hx
        simp only [upd, reduceIte, Nat.reduceEqDiff]
        go_simp
        exact hK _ _ trivial ⟨c, A, ⟨e0, e1, e2, e3, e4, e5, e6⟩, hcn, hch.alloc _, AlS.alloc s1 _, AlS.alloc s3 _, AlS.alloc s7 _, AlS.new hch 1 23 #[.int .u8 (m0.toNat : Int), .int .u8 (m1.toNat : Int), .int .u8 (m2.toNat : Int), .int .u8 (m3.toNat : Int), .int .u8 (m4.toNat : Int), .int .u8 (m5.toNat : Int)], AlS.alloc s15 _, AlS.alloc s19 _, AlS.alloc s23 _⟩ (fun _ _ _ h => h)
      | 12, ho =>
        simp at ho; subst ho
        have hu8 : u 8 = V 8 := hΦ 8 (hd ⟨8, .data⟩ (by simp) (by rfl))
        rw [v8] at hu8
        have hl11 : L 11 = true := hd ⟨11, .data⟩ (by simp) (by rfl)
        have hlc : L 8 = true := hd ⟨8, .chain⟩ (by simp) (by rfl)
        clear hΦ hd
        obtain ⟨c, A, ⟨e0, e1, e2, e3, e4, e5, e6⟩, hcn, hch, s1, s3, s7, s11, s15, s19, s23⟩ := hG
        have hck : c = 3 := by
          have h1 := hL.symm.trans e3
          have h2 := hlc.symm.trans e2
          simp at h1 h2; omega
        subst hck
        obtain ⟨g11, hg11, hb11, hB11, hn11⟩ := s11 hl11
        have hx : ∃ x, u = (upd (upd x 8 (.pointer (some ⟨(w.heap.size + 1), 0, none⟩))) 11 (.slice (some ⟨g11, 0, none⟩) 1 1)) := ⟨u, by rw [← upd_self hu8, ← upd_self hg11]⟩
        clear hu8 hg11
        obtain ⟨x, rfl⟩ := hx
        simp only [upd, reduceIte, Nat.reduceEqDiff]
        go_simp
        refine (wMAC (w.heap.size + 1) A _ w3 g11 1 1 [(m0, m1, m2, m3, m4, m5)] hch.wr (SlR.of_bk (n := 1) (size := 6) hb11 (AlS.not hch hB11 hn11) rfl) (by omega) (by have := N3.out; first | omega | (simp; omega))).mono ?_
        rintro e w4 ⟨rfl, hw4⟩
        obtain ⟨A', hch', hal⟩ := hch.call hw4
        exact hK _ _ v12.symm ⟨4, A', ⟨e0, e1, e2, rfl, e4, e5, e6⟩, by omega, by rw [Q4.out]; exact hch', hal _ _ _ _ _ s1, hal _ _ _ _ _ s3, hal _ _ _ _ _ s7, hal _ _ _ _ _ s11, hal _ _ _ _ _ s15, hal _ _ _ _ _ s19, hal _ _ _ _ _ s23⟩ (fun _ _ _ h => h)
      | 13, ho =>
        simp at ho; subst ho
        clear hΦ hd
        go_simp
        exact hK _ _ v13.symm hG (fun _ _ _ h => h)
      | 14, ho =>
        simp at ho; subst ho
        have hu13 : u 13 = V 13 := hΦ 13 (hd ⟨13, .data⟩ (by simp) (by rfl))
        rw [v13] at hu13
        clear hΦ hd
        obtain ⟨c, A, ⟨e0, e1, e2, e3, e4, e5, e6⟩, hcn, hch, s1, s3, s7, s11, s15, s19, s23⟩ := hG
        have hx : ∃ x, u = (upd x 13 (.pointer (some ⟨w.heap.size, 7, none⟩))) := ⟨u, by rw [← upd_self hu13]⟩
        clear hu13
        obtain ⟨x, rfl⟩ := hx
        simp only [upd, reduceIte, Nat.reduceEqDiff]
        have hc0 := ((hpa).keep hch.fr (by unfold oneB; omega)).cells
        go_simp
        exact hK _ _ v14.symm ⟨c, A, ⟨e0, e1, e2, e3, e4, e5, e6⟩, hcn, hch, s1, s3, s7, s11, s15, s19, s23⟩ (fun _ _ _ h => h)
      | 15, ho =>
        simp at ho; subst ho
        have hu14 : u 14 = V 14 := hΦ 14 (hd ⟨14, .data⟩ (by simp) (by rfl))
        rw [v14] at hu14
        clear hΦ hd
        obtain ⟨c, A, ⟨e0, e1, e2, e3, e4, e5, e6⟩, hcn, hch, s1, s3, s7, s11, s15, s19, s23⟩ := hG
        have hx : ∃ x, u = (upd x 14 (.int .u32 (fi : Int))) := ⟨u, by rw [← upd_self hu14]⟩
        clear hu14
        obtain ⟨x, rfl⟩ := hx
        simp only [upd, reduceIte, Nat.reduceEqDiff]
        go_simp
        exact hK _ _ trivial ⟨c, A, ⟨e0, e1, e2, e3, e4, e5, e6⟩, hcn, hch.alloc _, AlS.alloc s1 _, AlS.alloc s3 _, AlS.alloc s7 _, AlS.alloc s11 _, AlS.new hch 1 34 #[.int .u32 (fi : Int)], AlS.alloc s19 _, AlS.alloc s23 _⟩ (fun _ _ _ h => h)
      | 16, ho =>
        simp at ho; subst ho
        have hu12 : u 12 = V 12 := hΦ 12 (hd ⟨12, .data⟩ (by simp) (by rfl))
        rw [v12] at hu12
        have hl15 : L 15 = true := hd ⟨15, .data⟩ (by simp) (by rfl)
        have hlc : L 12 = true := hd ⟨12, .chain⟩ (by simp) (by rfl)
        clear hΦ hd
        obtain ⟨c, A, ⟨e0, e1, e2, e3, e4, e5, e6⟩, hcn, hch, s1, s3, s7, s11, s15, s19, s23⟩ := hG
        have hck : c = 4 := by
          have h1 := hL.symm.trans e4
          have h2 := hlc.symm.trans e3
          simp at h1 h2; omega
        subst hck
        obtain ⟨g15, hg15, hb15, hB15, hn15⟩ := s15 hl15
        have hx : ∃ x, u = (upd (upd x 12 (.pointer (some ⟨(w.heap.size + 1), 0, none⟩))) 15 (.slice (some ⟨g15, 0, none⟩) 1 1)) := ⟨u, by rw [← upd_self hu12, ← upd_self hg15]⟩
        clear hu12 hg15
        obtain ⟨x, rfl⟩ := hx
        simp only [upd, reduceIte, Nat.reduceEqDiff]
        go_simp
        refine (wIP (w.heap.size + 1) A _ w3 _ 1 1 [(fi : Int)] hch.wr (SlR.of_bk (n := 1) (size := 1) hb15 (AlS.not hch hB15 hn15) rfl) (by intro x hx; simp at hx; omega) (by omega) (by have := N4.out; first | omega | (simp; omega))).mono ?_
        rintro e w4 ⟨rfl, hw4⟩
        obtain ⟨A', hch', hal⟩ := hch.call hw4
        exact hK _ _ v16.symm ⟨5, A', ⟨e0, e1, e2, e3, rfl, e5, e6⟩, by omega, by rw [Q5.out]; exact hch', hal _ _ _ _ _ s1, hal _ _ _ _ _ s3, hal _ _ _ _ _ s7, hal _ _ _ _ _ s11, hal _ _ _ _ _ s15, hal _ _ _ _ _ s19, hal _ _ _ _ _ s23⟩ (fun _ _ _ h => h)
      | 17, ho =>
        simp at ho; subst ho
        clear hΦ hd
        go_simp
        exact hK _ _ v17.symm hG (fun _ _ _ h => h)
      | 18, ho =>
        simp at ho; subst ho
        have hu17 : u 17 = V 17 := hΦ 17 (hd ⟨17, .data⟩ (by simp) (by rfl))
        rw [v17] at hu17
        clear hΦ hd
        obtain ⟨c, A, ⟨e0, e1, e2, e3, e4, e5, e6⟩, hcn, hch, s1, s3, s7, s11, s15, s19, s23⟩ := hG
        have hx : ∃ x, u = (upd x 17 (.pointer (some ⟨w.heap.size, 8, none⟩))) := ⟨u, by rw [← upd_self hu17]⟩
        clear hu17
        obtain ⟨x, rfl⟩ := hx
        simp only [upd, reduceIte, Nat.reduceEqDiff]
        have hc0 := ((hpa).keep hch.fr (by unfold oneB; omega)).cells
        go_simp
        exact hK _ _ v18.symm ⟨c, A, ⟨e0, e1, e2, e3, e4, e5, e6⟩, hcn, hch, s1, s3, s7, s11, s15, s19, s23⟩ (fun _ _ _ h => h)
      | 19, ho =>
        simp at ho; subst ho
        have hu18 : u 18 = V 18 := hΦ 18 (hd ⟨18, .data⟩ (by simp) (by rfl))
        rw [v18] at hu18
        clear hΦ hd
        obtain ⟨c, A, ⟨e0, e1, e2, e3, e4, e5, e6⟩, hcn, hch, s1, s3, s7, s11, s15, s19, s23⟩ := hG
        have hx : ∃ x, u = (upd x 18 (.agg #[.int .u8 (n0.toNat : Int), .int .u8 (n1.toNat : Int), .int .u8 (n2.toNat : Int), .int .u8 (n3.toNat : Int), .int .u8 (n4.toNat : Int), .int .u8 (n5.toNat : Int)])) := ⟨u, by rw [← upd_self hu18]⟩
        clear hu18
        obtain ⟨x, rfl⟩ := hx
        simp only [upd, reduceIte, Nat.reduceEqDiff]
        go_simp
        exact hK _ _ trivial ⟨c, A, ⟨e0, e1, e2, e3, e4, e5, e6⟩, hcn, hch.alloc _, AlS.alloc s1 _, AlS.alloc s3 _, AlS.alloc s7 _, AlS.alloc s11 _, AlS.alloc s15 _, AlS.new hch 1 23 #[.int .u8 (n0.toNat : Int), .int .u8 (n1.toNat : Int), .int .u8 (n2.toNat : Int), .int .u8 (n3.toNat : Int), .int .u8 (n4.toNat : Int), .int .u8 (n5.toNat : Int)], AlS.alloc s23 _⟩ (fun _ _ _ h => h)
      | 20, ho =>
        simp at ho; subst ho
        have hu16 : u 16 = V 16 := hΦ 16 (hd ⟨16, .data⟩ (by simp) (by rfl))
        rw [v16] at hu16
        have hl19 : L 19 = true := hd ⟨19, .data⟩ (by simp) (by rfl)
        have hlc : L 16 = true := hd ⟨16, .chain⟩ (by simp) (by rfl)
        clear hΦ hd
        obtain ⟨c, A, ⟨e0, e1, e2, e3, e4, e5, e6⟩, hcn, hch, s1, s3, s7, s11, s15, s19, s23⟩ := hG
        have hck : c = 5 := by
          have h1 := hL.symm.trans e5
          have h2 := hlc.symm.trans e4
          simp at h1 h2; omega
        subst hck
        obtain ⟨g19, hg19, hb19, hB19, hn19⟩ := s19 hl19
        have hx : ∃ x, u = (upd (upd x 16 (.pointer (some ⟨(w.heap.size + 1), 0, none⟩))) 19 (.slice (some ⟨g19, 0, none⟩) 1 1)) := ⟨u, by rw [← upd_self hu16, ← upd_self hg19]⟩
        clear hu16 hg19
        obtain ⟨x, rfl⟩ := hx
        simp only [upd, reduceIte, Nat.reduceEqDiff]
        go_simp
        refine (wMAC (w.heap.size + 1) A _ w3 g19 1 1 [(n0, n1, n2, n3, n4, n5)] hch.wr (SlR.of_bk (n := 1) (size := 6) hb19 (AlS.not hch hB19 hn19) rfl) (by omega) (by have := N5.out; first | omega | (simp; omega))).mono ?_
        rintro e w4 ⟨rfl, hw4⟩
        obtain ⟨A', hch', hal⟩ := hch.call hw4
        exact hK _ _ v20.symm ⟨6, A', ⟨e0, e1, e2, e3, e4, rfl, e6⟩, by omega, by rw [Q6.out]; exact hch', hal _ _ _ _ _ s1, hal _ _ _ _ _ s3, hal _ _ _ _ _ s7, hal _ _ _ _ _ s11, hal _ _ _ _ _ s15, hal _ _ _ _ _ s19, hal _ _ _ _ _ s23⟩ (fun _ _ _ h => h)
      | 21, ho =>
        simp at ho; subst ho
        clear hΦ hd
        go_simp
        exact hK _ _ v21.symm hG (fun _ _ _ h => h)
      | 22, ho =>
        simp at ho; subst ho
        have hu21 : u 21 = V 21 := hΦ 21 (hd ⟨21, .data⟩ (by simp) (by rfl))
        rw [v21] at hu21
        clear hΦ hd
        obtain ⟨c, A, ⟨e0, e1, e2, e3, e4, e5, e6⟩, hcn, hch, s1, s3, s7, s11, s15, s19, s23⟩ := hG
        have hx : ∃ x, u = (upd x 21 (.pointer (some ⟨w.heap.size, 14, none⟩))) := ⟨u, by rw [← upd_self hu21]⟩
        clear hu21
        obtain ⟨x, rfl⟩ := hx
        simp only [upd, reduceIte, Nat.reduceEqDiff]
        have hc0 := ((hpa).keep hch.fr (by unfold oneB; omega)).cells
        go_simp
        exact hK _ _ v22.symm ⟨c, A, ⟨e0, e1, e2, e3, e4, e5, e6⟩, hcn, hch, s1, s3, s7, s11, s15, s19, s23⟩ (fun _ _ _ h => h)
      | 23, ho =>
        simp at ho; subst ho
        have hu22 : u 22 = V 22 := hΦ 22 (hd ⟨22, .data⟩ (by simp) (by rfl))
        rw [v22] at hu22
        clear hΦ hd
        obtain ⟨c, A, ⟨e0, e1, e2, e3, e4, e5, e6⟩, hcn, hch, s1, s3, s7, s11, s15, s19, s23⟩ := hG
        have hx : ∃ x, u = (upd x 22 (.int .u32 (ti : Int))) := ⟨u, by rw [← upd_self hu22]⟩
        clear hu22
        obtain ⟨x, rfl⟩ := hx
        simp only [upd, reduceIte, Nat.reduceEqDiff]
        go_simp
        exact hK _ _ trivial ⟨c, A, ⟨e0, e1, e2, e3, e4, e5, e6⟩, hcn, hch.alloc _, AlS.alloc s1 _, AlS.alloc s3 _, AlS.alloc s7 _, AlS.alloc s11 _, AlS.alloc s15 _, AlS.alloc s19 _, AlS.new hch 1 34 #[.int .u32 (ti : Int)]⟩ (fun _ _ _ h => h)
      | 24, ho =>
        simp at ho; subst ho
        have hu20 : u 20 = V 20 := hΦ 20 (hd ⟨20, .data⟩ (by simp) (by rfl))
        rw [v20] at hu20
        have hl23 : L 23 = true := hd ⟨23, .data⟩ (by simp) (by rfl)
        have hlc : L 20 = true := hd ⟨20, .chain⟩ (by simp) (by rfl)
        clear hΦ hd
        obtain ⟨c, A, ⟨e0, e1, e2, e3, e4, e5, e6⟩, hcn, hch, s1, s3, s7, s11, s15, s19, s23⟩ := hG
        have hck : c = 6 := by
          have h1 := hL.symm.trans e6
          have h2 := hlc.symm.trans e5
          simp at h1 h2; omega
        subst hck
        obtain ⟨g23, hg23, hb23, hB23, hn23⟩ := s23 hl23
        have hx : ∃ x, u = (upd (upd x 20 (.pointer (some ⟨(w.heap.size + 1), 0, none⟩))) 23 (.slice (some ⟨g23, 0, none⟩) 1 1)) := ⟨u, by rw [← upd_self hu20, ← upd_self hg23]⟩
        clear hu20 hg23
        obtain ⟨x, rfl⟩ := hx
        simp only [upd, reduceIte, Nat.reduceEqDiff]
        go_simp
        refine (wIP (w.heap.size + 1) A _ w3 _ 1 1 [(ti : Int)] hch.wr (SlR.of_bk (n := 1) (size := 1) hb23 (AlS.not hch hB23 hn23) rfl) (by intro x hx; simp at hx; omega) (by omega) (by have := N6.out; first | omega | (simp; omega))).mono ?_
        rintro e w4 ⟨rfl, hw4⟩
        obtain ⟨A', hch', hal⟩ := hch.call hw4
        exact hK _ _ v24.symm ⟨7, A', ⟨e0, e1, e2, e3, e4, e5, rfl⟩, by omega, by rw [Q7.out]; exact hch', hal _ _ _ _ _ s1, hal _ _ _ _ _ s3, hal _ _ _ _ _ s7, hal _ _ _ _ _ s11, hal _ _ _ _ _ s15, hal _ _ _ _ _ s19, hal _ _ _ _ _ s23⟩ (fun _ _ _ h => h)
      | 25, ho =>
        simp at ho; subst ho
        have hu24 : u 24 = V 24 := hΦ 24 (hd ⟨24, .data⟩ (by simp) (by rfl))
        rw [v24] at hu24
        have hlc : L 24 = true := hd ⟨24, .chain⟩ (by simp) (by rfl)
        clear hΦ hd
        obtain ⟨c, A, ⟨e0, e1, e2, e3, e4, e5, e6⟩, hcn, hch, s1, s3, s7, s11, s15, s19, s23⟩ := hG
        have hck : c = 7 := by
          have h2 := hlc.symm.trans e6
          simp at h2; omega
        subst hck
        have hx : ∃ x, u = (upd x 24 (.pointer (some ⟨(w.heap.size + 1), 0, none⟩))) := ⟨u, by rw [← upd_self hu24]⟩
        clear hu24
        obtain ⟨x, rfl⟩ := hx
        simp only [upd, reduceIte, Nat.reduceEqDiff]
        go_simp
        refine (wString (w.heap.size + 1) _ _ _ hch.wr).mono ?_
        rintro e w4 ⟨rfl, rfl⟩
        exact hK _ _ v25.symm ⟨7, A, ⟨e0, e1, e2, e3, e4, e5, e6⟩, hcn, hch, s1, s3, s7, s11, s15, s19, s23⟩ (fun _ _ _ h => h)
      | 26, ho =>
        simp at ho; subst ho
        have hu25 : u 25 = V 25 := hΦ 25 (hd ⟨25, .data⟩ (by simp) (by rfl))
        rw [v25] at hu25
        clear hΦ hd
        have hx : ∃ x, u = (upd x 25 (.string (bs (lst 7)))) := ⟨u, by rw [← upd_self hu25]⟩
        clear hu25
        obtain ⟨x, rfl⟩ := hx
        simp only [upd, reduceIte, Nat.reduceEqDiff]
        go_simp
        exact hK _ _ v26.symm hG (fun _ _ _ h => h)
      | 27, ho =>
        simp at ho; subst ho
        clear hΦ hd
        go_simp
        exact hK _ _ v27.symm hG (fun _ _ _ h => h)
    · rintro u w3 hu L hall hG
      obtain ⟨c, A, ⟨e0, e1, e2, e3, e4, e5, e6⟩, hcn, hch, s1, s3, s7, s11, s15, s19, s23⟩ := hG
      have h26 : u 26 = V 26 := hu 26 (by simp)
      rw [v26] at h26
      have h27 : u 27 = V 27 := hu 27 (by simp)
      rw [v27] at h27
      clear hu
      rw [h26, h27]
      have hby : lst 7 = arpBytes op (m0, m1, m2, m3, m4, m5) fi (n0, n1, n2, n3, n4, n5) ti := by rw [Q7.out, Q6.out, Q5.out, Q4.out, Q3.out, Q2.out, Q1.out, Q0.out]; exact arp_lst op fi ti _ _
      rw [hby]
      have hfr := hf0.trans' hch.fr (fun b hb e => by unfold oneB at e; omega)
      generalize arpBytes op (m0, m1, m2, m3, m4, m5) fi (n0, n1, n2, n3, n4, n5) ti = R at *
      go_wp2_with fail
      go_ret2
      exact ⟨by rw [hs.out]; rfl, hfr⟩
  · have hb : (!(decide (op = 1) || decide (op = 2))) = true := by simp; omega
    rw [hb]
    have H := Lib.hid h
    clear h hb
    go_wp2_with fail
    go_ret2
    exact ⟨by rw [show wrARP op (m0, m1, m2, m3, m4, m5) fi (n0, n1, n2, n3, n4, n5) ti = ([], 2) by unfold wrARP; rw [if_neg H.out]]; rfl, (Fr.refl _ _).alloc _⟩

theorem bootWriteARP (op fi ti : Nat) (m0 m1 m2 m3 m4 m5 n0 n1 n2 n3 n4 n5 : UInt8) (w : World) (ho : op < 65536) (hfi : fi < 4294967296) (hti : ti < 4294967296) :
    Calls Tryz.prog 31 #[.agg #[.int .u16 (op : Int), .int .u8 (m0.toNat : Int), .int .u8 (m1.toNat : Int), .int .u8 (m2.toNat : Int), .int .u8 (m3.toNat : Int), .int .u8 (m4.toNat : Int), .int .u8 (m5.toNat : Int), .int .u32 (fi : Int), .int .u8 (n0.toNat : Int), .int .u8 (n1.toNat : Int), .int .u8 (n2.toNat : Int), .int .u8 (n3.toNat : Int), .int .u8 (n4.toNat : Int), .int .u8 (n5.toNat : Int), .int .u32 (ti : Int)]] w (strPost (wrARP op (m0, m1, m2, m3, m4, m5) fi (n0, n1, n2, n3, n4, n5) ti) w) := by
  have hpa := (Bk.new w 67 #[.int .u16 (op : Int), .int .u8 (m0.toNat : Int), .int .u8 (m1.toNat : Int), .int .u8 (m2.toNat : Int), .int .u8 (m3.toNat : Int), .int .u8 (m4.toNat : Int), .int .u8 (m5.toNat : Int), .int .u32 (fi : Int), .int .u8 (n0.toNat : Int), .int .u8 (n1.toNat : Int), .int .u8 (n2.toNat : Int), .int .u8 (n3.toNat : Int), .int .u8 (n4.toNat : Int), .int .u8 (n5.toNat : Int), .int .u32 (ti : Int)]).cells
  have hf0 : Fr noB w (w.alloc (.cells #[.int .u16 (op : Int), .int .u8 (m0.toNat : Int), .int .u8 (m1.toNat : Int), .int .u8 (m2.toNat : Int), .int .u8 (m3.toNat : Int), .int .u8 (m4.toNat : Int), .int .u8 (m5.toNat : Int), .int .u32 (fi : Int), .int .u8 (n0.toNat : Int), .int .u8 (n1.toNat : Int), .int .u8 (n2.toNat : Int), .int .u8 (n3.toNat : Int), .int .u8 (n4.toNat : Int), .int .u8 (n5.toNat : Int), .int .u32 (ti : Int)] 67)) := (Fr.refl _ _).alloc _
  go_enter Tryz.func31, Tryz.ntmps31
  go_wp2_with fail
  refine (packetWriteARP op fi ti m0 m1 m2 m3 m4 m5 n0 n1 n2 n3 n4 n5 _ ho hfi hti).mono ?_
  rintro e w2 ⟨rfl, hf2⟩
  generalize wrARP op (m0, m1, m2, m3, m4, m5) fi (n0, n1, n2, n3, n4, n5) ti = R at *
  go_wp2_with fail
  go_ret2
  exact ⟨rfl, hf0.none hf2⟩

end Go.Proofs.YtcbkaiakdhiloabGreatDoor
