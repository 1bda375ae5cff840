/- Parts of the walk; written by programs, merged. -/
import Derived.Test.YtcbkaiakdhiloacGreatDoorMab
set_option linter.unusedSimpArgs false
set_option linter.unusedVariables false
set_option maxRecDepth 20000
set_option maxHeartbeats 8000000
namespace Go.Proofs.YtcbkaiakdhiloacGreatDoor
open Go.RowKit Go.Proofs
attribute [local go_sem] bs_size bs_append bs_sub bs_toList
def ipHd1 (id : Nat) (ttl pr : UInt8) (n : Nat) : List UInt8 := [69, 0] ++ big 2 (20 + n) ++ big 2 id ++ [64, 0] ++ [ttl, pr]
def ipHd2 (fi ti : Nat) : List UInt8 := big 4 fi ++ big 4 ti
def ipHead (id : Nat) (ttl pr : UInt8) (fi ti n sum : Nat) : List UInt8 := ipHd1 id ttl pr n ++ big 2 sum ++ ipHd2 fi ti
def ipBytes (id : Nat) (ttl pr : UInt8) (fi ti : Nat) (ld : List UInt8) : List UInt8 := ipHead id ttl pr fi ti ld.length (check (ipHead id ttl pr fi ti ld.length 0)) ++ ld
def wrIP (id : Nat) (ttl pr : UInt8) (fi ti : Nat) (ld : List UInt8) : List UInt8 × Nat := if ttl.toNat = 0 then ([], 2) else if 1480 < ld.length then ([], 7) else (ipBytes id ttl pr fi ti ld, 0)
theorem ipHead_length (id : Nat) (ttl pr : UInt8) (fi ti n sum : Nat) : (ipHead id ttl pr fi ti n sum).length = 20 := by simp [ipHead, ipHd1, ipHd2, big_length]
theorem ip_lst (id : Nat) (ttl pr : UInt8) (fi ti n sum : Nat) : ([] ++ [69, 0] ++ bigs 2 [20 + (n : Int), (id : Int), 16384] ++ [ttl, pr] ++ bigs 2 [(sum : Int)] ++ bigs 4 [(fi : Int), (ti : Int)]) = ipHead id ttl pr fi ti n sum := by
  have e : bigs 2 [20 + (n : Int), (id : Int), 16384] = big 2 (20 + n) ++ big 2 id ++ [64, 0] := by
    have e1 : (20 + (n : Int)).toNat = 20 + n := by omega
    have e2 : big 2 (Int.toNat 16384) = [64, 0] := by decide
    simp only [bigs, List.flatMap_cons, List.flatMap_nil, List.append_nil, e1, e2, Int.toNat_natCast, List.append_assoc]
  rw [e]
  simp [ipHead, ipHd1, ipHd2, bigs]
theorem ipHeadFn (id fi ti : Nat) (ttl pr : UInt8) (ld : List UInt8) (sum q : Nat) (w : World) (hid : id < 65536) (hfi : fi < 4294967296) (hti : ti < 4294967296) (hsum : sum < 65536) (hld : ld.length ≤ 1480) (hq : Bk w q 53 #[.int .u16 (id : Int), .int .u8 (ttl.toNat : Int), .int .u8 (pr.toNat : Int), .int .u32 (fi : Int), .int .u32 (ti : Int), .string (bs ld)]) :
    Calls Tryz.prog 251 #[.int .u16 (sum : Int), .pointer (some ⟨q, 0, none⟩)] w (fun e w' => e = .returned (.string (bs (ipHead id ttl pr fi ti ld.length sum))) ∧ Fr noB w w') := by
  have hql := hq.lt
  have hpa := hq.alloc (.cells #[.slice none 0 0] 226)
  have hbw := Bk.new w 226 #[.slice none 0 0]
  have hf0 : Fr noB w (w.alloc (.cells #[.slice none 0 0] 226)) := (Fr.refl _ _).alloc _
  have hsz : (w.alloc (.cells #[.slice none 0 0] 226)).heap.size = w.heap.size + 1 := by simp
  go_enter Tryz.func251, Tryz.ntmps251
  go_upto_region 2 with fail
  generalize w.alloc (.cells #[.slice none 0 0] 226) = w1 at *
  have hwr0 := Wr.zero hbw
  obtain ⟨lst, Q0, Q1, Q2, Q3, Q4, Q5⟩ : ∃ lst : Nat → List UInt8, Hid (lst 0 = ([] : List UInt8)) ∧ Hid (lst 1 = lst 0 ++ [69, 0]) ∧ Hid (lst 2 = lst 1 ++ bigs 2 [(20 + (ld.length : Int)), (id : Int), 16384]) ∧ Hid (lst 3 = lst 2 ++ [ttl, pr]) ∧ Hid (lst 4 = lst 3 ++ bigs 2 [(sum : Int)]) ∧ Hid (lst 5 = lst 4 ++ bigs 4 [(fi : Int), (ti : Int)]) := by
    exact ⟨fun k => match k with | 0 => ([] : List UInt8) | 1 => (([] : List UInt8) ++ [69, 0]) | 2 => ((([] : List UInt8) ++ [69, 0]) ++ bigs 2 [(20 + (ld.length : Int)), (id : Int), 16384]) | 3 => (((([] : List UInt8) ++ [69, 0]) ++ bigs 2 [(20 + (ld.length : Int)), (id : Int), 16384]) ++ [ttl, pr]) | 4 => ((((([] : List UInt8) ++ [69, 0]) ++ bigs 2 [(20 + (ld.length : Int)), (id : Int), 16384]) ++ [ttl, pr]) ++ bigs 2 [(sum : Int)]) | _ => (((((([] : List UInt8) ++ [69, 0]) ++ bigs 2 [(20 + (ld.length : Int)), (id : Int), 16384]) ++ [ttl, pr]) ++ bigs 2 [(sum : Int)]) ++ bigs 4 [(fi : Int), (ti : Int)]), rfl, rfl, rfl, rfl, rfl, rfl⟩
  have N0 : Hid ((lst 0).length ≤ 0) := by unfold Hid; rw [Q0.out]; simp
  have N1 : Hid ((lst 1).length ≤ 0 + (2)) := by have h0 := N0.out; have h1 : (([69, 0] : List UInt8)).length ≤ 2 := (by simp [bigs_length, macB, big_length] <;> omega); unfold Hid; rw [Q1.out, List.length_append]; omega
  have N2 : Hid ((lst 2).length ≤ 0 + (2) + (6)) := by have h0 := N1.out; have h1 : ((bigs 2 [(20 + (ld.length : Int)), (id : Int), 16384] : List UInt8)).length ≤ 6 := (by simp [bigs_length, macB, big_length] <;> omega); unfold Hid; rw [Q2.out, List.length_append]; omega
  have N3 : Hid ((lst 3).length ≤ 0 + (2) + (6) + (2)) := by have h0 := N2.out; have h1 : (([ttl, pr] : List UInt8)).length ≤ 2 := (by simp [bigs_length, macB, big_length] <;> omega); unfold Hid; rw [Q3.out, List.length_append]; omega
  have N4 : Hid ((lst 4).length ≤ 0 + (2) + (6) + (2) + (2)) := by have h0 := N3.out; have h1 : ((bigs 2 [(sum : Int)] : List UInt8)).length ≤ 2 := (by simp [bigs_length, macB, big_length] <;> omega); unfold Hid; rw [Q4.out, List.length_append]; omega
  have N5 : Hid ((lst 5).length ≤ 0 + (2) + (6) + (2) + (2) + (8)) := by have h0 := N4.out; have h1 : ((bigs 4 [(fi : Int), (ti : Int)] : List UInt8)).length ≤ 8 := (by simp [bigs_length, macB, big_length] <;> omega); unfold Hid; rw [Q5.out, List.length_append]; omega
  obtain ⟨V, hV⟩ : ∃ V : Nat → Value, V = (fun j => match j with | 0 => .pointer (some ⟨w.heap.size, 0, none⟩) | 2 => .pointer (some ⟨w.heap.size, 0, none⟩) | 3 => .pointer (some ⟨q, 5, none⟩) | 4 => .string (bs ld) | 5 => .int .i64 (ld.length : Int) | 6 => .int .i64 (20 + (ld.length : Int)) | 7 => .int .u16 (20 + (ld.length : Int)) | 8 => .pointer (some ⟨q, 0, none⟩) | 9 => .int .u16 (id : Int) | 11 => .pointer (some ⟨w.heap.size, 0, none⟩) | 12 => .pointer (some ⟨q, 1, none⟩) | 13 => .int .u8 (ttl.toNat : Int) | 14 => .pointer (some ⟨q, 2, none⟩) | 15 => .int .u8 (pr.toNat : Int) | 17 => .pointer (some ⟨w.heap.size, 0, none⟩) | 18 => .int .u16 (sum : Int) | 20 => .pointer (some ⟨w.heap.size, 0, none⟩) | 21 => .pointer (some ⟨q, 3, none⟩) | 22 => .int .u32 (fi : Int) | 23 => .pointer (some ⟨q, 4, none⟩) | 24 => .int .u32 (ti : Int) | 26 => .pointer (some ⟨w.heap.size, 0, none⟩) | 27 => .string (bs (lst 5)) | 28 => .string (bs (lst 5)) | _ => undef) := ⟨_, rfl⟩
  have v0 : V 0 = .pointer (some ⟨w.heap.size, 0, none⟩) := congrFun hV 0
  have v2 : V 2 = .pointer (some ⟨w.heap.size, 0, none⟩) := congrFun hV 2
  have v3 : V 3 = .pointer (some ⟨q, 5, none⟩) := congrFun hV 3
  have v4 : V 4 = .string (bs ld) := congrFun hV 4
  have v5 : V 5 = .int .i64 (ld.length : Int) := congrFun hV 5
  have v6 : V 6 = .int .i64 (20 + (ld.length : Int)) := congrFun hV 6
  have v7 : V 7 = .int .u16 (20 + (ld.length : Int)) := congrFun hV 7
  have v8 : V 8 = .pointer (some ⟨q, 0, none⟩) := congrFun hV 8
  have v9 : V 9 = .int .u16 (id : Int) := congrFun hV 9
  have v11 : V 11 = .pointer (some ⟨w.heap.size, 0, none⟩) := congrFun hV 11
  have v12 : V 12 = .pointer (some ⟨q, 1, none⟩) := congrFun hV 12
  have v13 : V 13 = .int .u8 (ttl.toNat : Int) := congrFun hV 13
  have v14 : V 14 = .pointer (some ⟨q, 2, none⟩) := congrFun hV 14
  have v15 : V 15 = .int .u8 (pr.toNat : Int) := congrFun hV 15
  have v17 : V 17 = .pointer (some ⟨w.heap.size, 0, none⟩) := congrFun hV 17
  have v18 : V 18 = .int .u16 (sum : Int) := congrFun hV 18
  have v20 : V 20 = .pointer (some ⟨w.heap.size, 0, none⟩) := congrFun hV 20
  have v21 : V 21 = .pointer (some ⟨q, 3, none⟩) := congrFun hV 21
  have v22 : V 22 = .int .u32 (fi : Int) := congrFun hV 22
  have v23 : V 23 = .pointer (some ⟨q, 4, none⟩) := congrFun hV 23
  have v24 : V 24 = .int .u32 (ti : Int) := congrFun hV 24
  have v26 : V 26 = .pointer (some ⟨w.heap.size, 0, none⟩) := congrFun hV 26
  have v27 : V 27 = .string (bs (lst 5)) := congrFun hV 27
  have v28 : V 28 = .string (bs (lst 5)) := congrFun hV 28
  clear hV
  refine wp_region_ssau (by kernel_rfl) (by kernel_rfl) (by kernel_rfl)
    (fun u => ⟨#[.int .u16 (sum : Int), .pointer (some ⟨q, 0, none⟩), undef, u 28, .pointer (some ⟨w.heap.size, 0, none⟩), .agg #[.slice none 0 0], .pointer (some ⟨w.heap.size, 0, none⟩), u 0, u 1, u 2, u 3, u 4, u 5, u 6, u 7, u 8, u 9, u 10, u 11, u 12, u 13, u 14, u 15, u 16, u 17, u 18, u 19, u 20, u 21, u 22, u 23, u 24, u 25, u 26, u 27], []⟩)
    (fun j v w3 => if j = 1 then True else if j = 10 then True else if j = 16 then True else if j = 19 then True else if j = 25 then True else v = V j)
    (fun L u w3 => ∃ (c : Nat) (A : Option Addr), (L 2 = decide (0 < c) ∧ L 11 = decide (1 < c) ∧ L 17 = decide (2 < c) ∧ L 20 = decide (3 < c) ∧ L 26 = decide (4 < c)) ∧ c ≤ 5 ∧ Chn w1 w.heap.size w1.heap.size A (lst c) w3 ∧ AlS (L 1) (u 1) 2 5 #[.int .u8 69, .int .u8 0] w1.heap.size A w3 ∧ AlS (L 10) (u 10) 3 47 #[.int .u16 (20 + (ld.length : Int)), .int .u16 (id : Int), .int .u16 16384] w1.heap.size A w3 ∧ AlS (L 16) (u 16) 2 5 #[.int .u8 (ttl.toNat : Int), .int .u8 (pr.toNat : Int)] w1.heap.size A w3 ∧ AlS (L 19) (u 19) 1 47 #[.int .u16 (sum : Int)] w1.heap.size A w3 ∧ AlS (L 25) (u 25) 2 38 #[.int .u32 (fi : Int), .int .u32 (ti : Int)] w1.heap.size A w3) (fun j => if j = 28 then .string ⟨#[]⟩ else undef) ⟨0, none, ⟨rfl, rfl, rfl, rfl, rfl⟩, by omega, by rw [Q0.out]; exact Chn.start hwr0 rfl, AlS.false, AlS.false, AlS.false, AlS.false, AlS.false⟩ ?_ ?_
  · rintro L u w3 i o hG hΦ ho hL hd K hK
    match i, ho with
    | 0, ho =>
      simp at ho; subst ho
      clear hΦ hd
      go_simp
      exact hK _ _ v0.symm hG (fun _ _ _ h => h)
    | 1, ho =>
      simp at ho; subst ho
      clear hΦ hd
      obtain ⟨c, A, ⟨e0, e1, e2, e3, e4⟩, hcn, hch, s1, s10, s16, s19, s25⟩ := hG
      go_simp
      exact hK _ _ trivial ⟨c, A, ⟨e0, e1, e2, e3, e4⟩, hcn, hch.alloc _, AlS.new hch 2 5 #[.int .u8 69, .int .u8 0], AlS.alloc s10 _, AlS.alloc s16 _, AlS.alloc s19 _, AlS.alloc s25 _⟩ (fun _ _ _ h => h)
    | 2, ho =>
      simp at ho; subst ho
      have hu0 : u 0 = V 0 := hΦ 0 (hd ⟨0, .data⟩ (by simp) (by rfl))
      rw [v0] at hu0
      have hl1 : L 1 = true := hd ⟨1, .data⟩ (by simp) (by rfl)
      clear hΦ hd
      obtain ⟨c, A, ⟨e0, e1, e2, e3, e4⟩, hcn, hch, s1, s10, s16, s19, s25⟩ := hG
      have hck : c = 0 := by
        have h1 := hL.symm.trans e0
        simp at h1; omega
      subst hck
      obtain ⟨g1, hg1, hb1, hB1, hn1⟩ := s1 hl1
      have hx : ∃ x, u = (upd (upd x 0 (.pointer (some ⟨w.heap.size, 0, none⟩))) 1 (.slice (some ⟨g1, 0, none⟩) 2 2)) := ⟨u, by rw [← upd_self hu0, ← upd_self hg1]⟩
      clear hu0 hg1
      obtain ⟨x, rfl⟩ := hx
      simp only [upd, reduceIte, Nat.reduceEqDiff]
      go_simp
      refine (wU8 w.heap.size A _ w3 _ 2 2 [69, 0] (wrS w.heap.size A) hch.wr (SlR.of_bk (n := 2) (size := 1) hb1 (AlS.not hch hB1 hn1) rfl) (by have := N0.out; first | omega | (simp; omega))).mono ?_
      rintro e w4 ⟨rfl, hw4⟩
      obtain ⟨A', hch', hal⟩ := hch.call hw4
      exact hK _ _ v2.symm ⟨1, A', ⟨rfl, e1, e2, e3, e4⟩, by omega, by rw [Q1.out]; exact hch', hal _ _ _ _ _ s1, hal _ _ _ _ _ s10, hal _ _ _ _ _ s16, hal _ _ _ _ _ s19, hal _ _ _ _ _ s25⟩ (fun _ _ _ h => h)
    | 3, ho =>
      simp at ho; subst ho
      clear hΦ hd
      go_simp
      exact hK _ _ v3.symm hG (fun _ _ _ h => h)
    | 4, ho =>
      simp at ho; subst ho
      have hu3 : u 3 = V 3 := hΦ 3 (hd ⟨3, .data⟩ (by simp) (by rfl))
      rw [v3] at hu3
      clear hΦ hd
      obtain ⟨c, A, ⟨e0, e1, e2, e3, e4⟩, hcn, hch, s1, s10, s16, s19, s25⟩ := hG
      have hx : ∃ x, u = (upd x 3 (.pointer (some ⟨q, 5, none⟩))) := ⟨u, by rw [← upd_self hu3]⟩
      clear hu3
      obtain ⟨x, rfl⟩ := hx
      simp only [upd, reduceIte, Nat.reduceEqDiff]
      have hc0 := ((hpa).keep hch.fr (by unfold oneB; omega)).cells
      go_simp
      exact hK _ _ v4.symm ⟨c, A, ⟨e0, e1, e2, e3, e4⟩, hcn, hch, s1, s10, s16, s19, s25⟩ (fun _ _ _ h => h)
    | 5, ho =>
      simp at ho; subst ho
      have hu4 : u 4 = V 4 := hΦ 4 (hd ⟨4, .data⟩ (by simp) (by rfl))
      rw [v4] at hu4
      clear hΦ hd
      have hx : ∃ x, u = (upd x 4 (.string (bs ld))) := ⟨u, by rw [← upd_self hu4]⟩
      clear hu4
      obtain ⟨x, rfl⟩ := hx
      simp only [upd, reduceIte, Nat.reduceEqDiff]
      go_simp
      exact hK _ _ v5.symm hG (fun _ _ _ h => h)
    | 6, ho =>
      simp at ho; subst ho
      have hu5 : u 5 = V 5 := hΦ 5 (hd ⟨5, .data⟩ (by simp) (by rfl))
      rw [v5] at hu5
      clear hΦ hd
      have hx : ∃ x, u = (upd x 5 (.int .i64 (ld.length : Int))) := ⟨u, by rw [← upd_self hu5]⟩
      clear hu5
      obtain ⟨x, rfl⟩ := hx
      simp only [upd, reduceIte, Nat.reduceEqDiff]
      have e6 : IntKind.i64.wrap (20 + (ld.length : Int)) = 20 + ld.length := IntWalk.i64_in _ (by omega)
      go_simp
      exact hK _ _ v6.symm hG (fun _ _ _ h => h)
    | 7, ho =>
      simp at ho; subst ho
      have hu6 : u 6 = V 6 := hΦ 6 (hd ⟨6, .data⟩ (by simp) (by rfl))
      rw [v6] at hu6
      clear hΦ hd
      have hx : ∃ x, u = (upd x 6 (.int .i64 (20 + (ld.length : Int)))) := ⟨u, by rw [← upd_self hu6]⟩
      clear hu6
      obtain ⟨x, rfl⟩ := hx
      simp only [upd, reduceIte, Nat.reduceEqDiff]
      have e7 : IntKind.u16.wrap (20 + (ld.length : Int)) = 20 + ld.length := by rw [IntKind.wrap_u16]; omega
      have e7' : (20 + (ld.length : Int)) % 65536 = 20 + ld.length := by omega
      go_simp
      exact hK _ _ v7.symm hG (fun _ _ _ h => h)
    | 8, ho =>
      simp at ho; subst ho
      clear hΦ hd
      go_simp
      exact hK _ _ v8.symm hG (fun _ _ _ h => h)
    | 9, ho =>
      simp at ho; subst ho
      have hu8 : u 8 = V 8 := hΦ 8 (hd ⟨8, .data⟩ (by simp) (by rfl))
      rw [v8] at hu8
      clear hΦ hd
      obtain ⟨c, A, ⟨e0, e1, e2, e3, e4⟩, hcn, hch, s1, s10, s16, s19, s25⟩ := hG
      have hx : ∃ x, u = (upd x 8 (.pointer (some ⟨q, 0, none⟩))) := ⟨u, by rw [← upd_self hu8]⟩
      clear hu8
      obtain ⟨x, rfl⟩ := hx
      simp only [upd, reduceIte, Nat.reduceEqDiff]
      have hc0 := ((hpa).keep hch.fr (by unfold oneB; omega)).cells
      go_simp
      exact hK _ _ v9.symm ⟨c, A, ⟨e0, e1, e2, e3, e4⟩, hcn, hch, s1, s10, s16, s19, s25⟩ (fun _ _ _ h => h)
    | 10, ho =>
      simp at ho; subst ho
      have hu7 : u 7 = V 7 := hΦ 7 (hd ⟨7, .data⟩ (by simp) (by rfl))
      rw [v7] at hu7
      have hu9 : u 9 = V 9 := hΦ 9 (hd ⟨9, .data⟩ (by simp) (by rfl))
      rw [v9] at hu9
      clear hΦ hd
      obtain ⟨c, A, ⟨e0, e1, e2, e3, e4⟩, hcn, hch, s1, s10, s16, s19, s25⟩ := hG
      have hx : ∃ x, u = (upd (upd x 7 (.int .u16 (20 + (ld.length : Int)))) 9 (.int .u16 (id : Int))) := ⟨u, by rw [← upd_self hu7, ← upd_self hu9]⟩
      clear hu7 hu9
      obtain ⟨x, rfl⟩ := hx
      simp only [upd, reduceIte, Nat.reduceEqDiff]
      go_simp
      exact hK _ _ trivial ⟨c, A, ⟨e0, e1, e2, e3, e4⟩, hcn, hch.alloc _, AlS.alloc s1 _, AlS.new hch 3 47 #[.int .u16 (20 + (ld.length : Int)), .int .u16 (id : Int), .int .u16 16384], AlS.alloc s16 _, AlS.alloc s19 _, AlS.alloc s25 _⟩ (fun _ _ _ h => h)
    | 11, ho =>
      simp at ho; subst ho
      have hu2 : u 2 = V 2 := hΦ 2 (hd ⟨2, .data⟩ (by simp) (by rfl))
      rw [v2] at hu2
      have hl10 : L 10 = true := hd ⟨10, .data⟩ (by simp) (by rfl)
      have hlc : L 2 = true := hd ⟨2, .chain⟩ (by simp) (by rfl)
      clear hΦ hd
      obtain ⟨c, A, ⟨e0, e1, e2, e3, e4⟩, hcn, hch, s1, s10, s16, s19, s25⟩ := hG
      have hck : c = 1 := by
        have h1 := hL.symm.trans e1
        have h2 := hlc.symm.trans e0
        simp at h1 h2; omega
      subst hck
      obtain ⟨g10, hg10, hb10, hB10, hn10⟩ := s10 hl10
      have hx : ∃ x, u = (upd (upd x 2 (.pointer (some ⟨w.heap.size, 0, none⟩))) 10 (.slice (some ⟨g10, 0, none⟩) 3 3)) := ⟨u, by rw [← upd_self hu2, ← upd_self hg10]⟩
      clear hu2 hg10
      obtain ⟨x, rfl⟩ := hx
      simp only [upd, reduceIte, Nat.reduceEqDiff]
      go_simp
      refine (wU16 w.heap.size A _ w3 _ 3 3 [(20 + (ld.length : Int)), (id : Int), 16384] hch.wr (SlR.of_bk (n := 3) (size := 1) hb10 (AlS.not hch hB10 hn10) rfl) (by intro x hx; simp at hx; omega) (by omega) (by have := N1.out; first | omega | (simp; omega))).mono ?_
      rintro e w4 ⟨rfl, hw4⟩
      obtain ⟨A', hch', hal⟩ := hch.call hw4
      exact hK _ _ v11.symm ⟨2, A', ⟨e0, rfl, e2, e3, e4⟩, by omega, by rw [Q2.out]; exact hch', hal _ _ _ _ _ s1, hal _ _ _ _ _ s10, hal _ _ _ _ _ s16, hal _ _ _ _ _ s19, hal _ _ _ _ _ s25⟩ (fun _ _ _ h => h)
    | 12, ho =>
      simp at ho; subst ho
      clear hΦ hd
      go_simp
      exact hK _ _ v12.symm hG (fun _ _ _ h => h)
    | 13, ho =>
      simp at ho; subst ho
      have hu12 : u 12 = V 12 := hΦ 12 (hd ⟨12, .data⟩ (by simp) (by rfl))
      rw [v12] at hu12
      clear hΦ hd
      obtain ⟨c, A, ⟨e0, e1, e2, e3, e4⟩, hcn, hch, s1, s10, s16, s19, s25⟩ := hG
      have hx : ∃ x, u = (upd x 12 (.pointer (some ⟨q, 1, none⟩))) := ⟨u, by rw [← upd_self hu12]⟩
      clear hu12
      obtain ⟨x, rfl⟩ := hx
      simp only [upd, reduceIte, Nat.reduceEqDiff]
      have hc0 := ((hpa).keep hch.fr (by unfold oneB; omega)).cells
      go_simp
      exact hK _ _ v13.symm ⟨c, A, ⟨e0, e1, e2, e3, e4⟩, hcn, hch, s1, s10, s16, s19, s25⟩ (fun _ _ _ h => h)
    | 14, ho =>
      simp at ho; subst ho
      clear hΦ hd
      go_simp
      exact hK _ _ v14.symm hG (fun _ _ _ h => h)
    | 15, ho =>
      simp at ho; subst ho
      have hu14 : u 14 = V 14 := hΦ 14 (hd ⟨14, .data⟩ (by simp) (by rfl))
      rw [v14] at hu14
      clear hΦ hd
      obtain ⟨c, A, ⟨e0, e1, e2, e3, e4⟩, hcn, hch, s1, s10, s16, s19, s25⟩ := hG
      have hx : ∃ x, u = (upd x 14 (.pointer (some ⟨q, 2, none⟩))) := ⟨u, by rw [← upd_self hu14]⟩
      clear hu14
      obtain ⟨x, rfl⟩ := hx
      simp only [upd, reduceIte, Nat.reduceEqDiff]
      have hc0 := ((hpa).keep hch.fr (by unfold oneB; omega)).cells
      go_simp
      exact hK _ _ v15.symm ⟨c, A, ⟨e0, e1, e2, e3, e4⟩, hcn, hch, s1, s10, s16, s19, s25⟩ (fun _ _ _ h => h)
    | 16, ho =>
      simp at ho; subst ho
      have hu13 : u 13 = V 13 := hΦ 13 (hd ⟨13, .data⟩ (by simp) (by rfl))
      rw [v13] at hu13
      have hu15 : u 15 = V 15 := hΦ 15 (hd ⟨15, .data⟩ (by simp) (by rfl))
      rw [v15] at hu15
      clear hΦ hd
      obtain ⟨c, A, ⟨e0, e1, e2, e3, e4⟩, hcn, hch, s1, s10, s16, s19, s25⟩ := hG
      have hx : ∃ x, u = (upd (upd x 13 (.int .u8 (ttl.toNat : Int))) 15 (.int .u8 (pr.toNat : Int))) := ⟨u, by rw [← upd_self hu13, ← upd_self hu15]⟩
      clear hu13 hu15
      obtain ⟨x, rfl⟩ := hx
      simp only [upd, reduceIte, Nat.reduceEqDiff]
      go_simp
      exact hK _ _ trivial ⟨c, A, ⟨e0, e1, e2, e3, e4⟩, hcn, hch.alloc _, AlS.alloc s1 _, AlS.alloc s10 _, AlS.new hch 2 5 #[.int .u8 (ttl.toNat : Int), .int .u8 (pr.toNat : Int)], AlS.alloc s19 _, AlS.alloc s25 _⟩ (fun _ _ _ h => h)
    | 17, ho =>
      simp at ho; subst ho
      have hu11 : u 11 = V 11 := hΦ 11 (hd ⟨11, .data⟩ (by simp) (by rfl))
      rw [v11] at hu11
      have hl16 : L 16 = true := hd ⟨16, .data⟩ (by simp) (by rfl)
      have hlc : L 11 = true := hd ⟨11, .chain⟩ (by simp) (by rfl)
      clear hΦ hd
      obtain ⟨c, A, ⟨e0, e1, e2, e3, e4⟩, hcn, hch, s1, s10, s16, s19, s25⟩ := hG
      have hck : c = 2 := by
        have h1 := hL.symm.trans e2
        have h2 := hlc.symm.trans e1
        simp at h1 h2; omega
      subst hck
      obtain ⟨g16, hg16, hb16, hB16, hn16⟩ := s16 hl16
      have hx : ∃ x, u = (upd (upd x 11 (.pointer (some ⟨w.heap.size, 0, none⟩))) 16 (.slice (some ⟨g16, 0, none⟩) 2 2)) := ⟨u, by rw [← upd_self hu11, ← upd_self hg16]⟩
      clear hu11 hg16
      obtain ⟨x, rfl⟩ := hx
      simp only [upd, reduceIte, Nat.reduceEqDiff]
      go_simp
      refine (wU8 w.heap.size A _ w3 _ 2 2 [ttl, pr] (wrS w.heap.size A) hch.wr (SlR.of_bk (n := 2) (size := 1) hb16 (AlS.not hch hB16 hn16) rfl) (by have := N2.out; first | omega | (simp; omega))).mono ?_
      rintro e w4 ⟨rfl, hw4⟩
      obtain ⟨A', hch', hal⟩ := hch.call hw4
      exact hK _ _ v17.symm ⟨3, A', ⟨e0, e1, rfl, e3, e4⟩, by omega, by rw [Q3.out]; exact hch', hal _ _ _ _ _ s1, hal _ _ _ _ _ s10, hal _ _ _ _ _ s16, hal _ _ _ _ _ s19, hal _ _ _ _ _ s25⟩ (fun _ _ _ h => h)
    | 18, ho =>
      simp at ho; subst ho
      clear hΦ hd
      go_simp
      exact hK _ _ v18.symm hG (fun _ _ _ h => h)
    | 19, ho =>
      simp at ho; subst ho
      have hu18 : u 18 = V 18 := hΦ 18 (hd ⟨18, .data⟩ (by simp) (by rfl))
      rw [v18] at hu18
      clear hΦ hd
      obtain ⟨c, A, ⟨e0, e1, e2, e3, e4⟩, hcn, hch, s1, s10, s16, s19, s25⟩ := hG
      have hx : ∃ x, u = (upd x 18 (.int .u16 (sum : Int))) := ⟨u, by rw [← upd_self hu18]⟩
      clear hu18
      obtain ⟨x, rfl⟩ := hx
      simp only [upd, reduceIte, Nat.reduceEqDiff]
      go_simp
      exact hK _ _ trivial ⟨c, A, ⟨e0, e1, e2, e3, e4⟩, hcn, hch.alloc _, AlS.alloc s1 _, AlS.alloc s10 _, AlS.alloc s16 _, AlS.new hch 1 47 #[.int .u16 (sum : Int)], AlS.alloc s25 _⟩ (fun _ _ _ h => h)
    | 20, ho =>
      simp at ho; subst ho
      have hu17 : u 17 = V 17 := hΦ 17 (hd ⟨17, .data⟩ (by simp) (by rfl))
      rw [v17] at hu17
      have hl19 : L 19 = true := hd ⟨19, .data⟩ (by simp) (by rfl)
      have hlc : L 17 = true := hd ⟨17, .chain⟩ (by simp) (by rfl)
      clear hΦ hd
      obtain ⟨c, A, ⟨e0, e1, e2, e3, e4⟩, hcn, hch, s1, s10, s16, s19, s25⟩ := hG
      have hck : c = 3 := by
        have h1 := hL.symm.trans e3
        have h2 := hlc.symm.trans e2
        simp at h1 h2; omega
      subst hck
      obtain ⟨g19, hg19, hb19, hB19, hn19⟩ := s19 hl19
      have hx : ∃ x, u = (upd (upd x 17 (.pointer (some ⟨w.heap.size, 0, none⟩))) 19 (.slice (some ⟨g19, 0, none⟩) 1 1)) := ⟨u, by rw [← upd_self hu17, ← upd_self hg19]⟩
      clear hu17 hg19
      obtain ⟨x, rfl⟩ := hx
      simp only [upd, reduceIte, Nat.reduceEqDiff]
      go_simp
      refine (wU16 w.heap.size A _ w3 _ 1 1 [(sum : Int)] hch.wr (SlR.of_bk (n := 1) (size := 1) hb19 (AlS.not hch hB19 hn19) rfl) (by intro x hx; simp at hx; omega) (by omega) (by have := N3.out; first | omega | (simp; omega))).mono ?_
      rintro e w4 ⟨rfl, hw4⟩
      obtain ⟨A', hch', hal⟩ := hch.call hw4
      exact hK _ _ v20.symm ⟨4, A', ⟨e0, e1, e2, rfl, e4⟩, by omega, by rw [Q4.out]; exact hch', hal _ _ _ _ _ s1, hal _ _ _ _ _ s10, hal _ _ _ _ _ s16, hal _ _ _ _ _ s19, hal _ _ _ _ _ s25⟩ (fun _ _ _ h => h)
    | 21, ho =>
      simp at ho; subst ho
      clear hΦ hd
      go_simp
      exact hK _ _ v21.symm hG (fun _ _ _ h => h)
    | 22, ho =>
      simp at ho; subst ho
      have hu21 : u 21 = V 21 := hΦ 21 (hd ⟨21, .data⟩ (by simp) (by rfl))
      rw [v21] at hu21
      clear hΦ hd
      obtain ⟨c, A, ⟨e0, e1, e2, e3, e4⟩, hcn, hch, s1, s10, s16, s19, s25⟩ := hG
      have hx : ∃ x, u = (upd x 21 (.pointer (some ⟨q, 3, none⟩))) := ⟨u, by rw [← upd_self hu21]⟩
      clear hu21
      obtain ⟨x, rfl⟩ := hx
      simp only [upd, reduceIte, Nat.reduceEqDiff]
      have hc0 := ((hpa).keep hch.fr (by unfold oneB; omega)).cells
      go_simp
      exact hK _ _ v22.symm ⟨c, A, ⟨e0, e1, e2, e3, e4⟩, hcn, hch, s1, s10, s16, s19, s25⟩ (fun _ _ _ h => h)
    | 23, ho =>
      simp at ho; subst ho
      clear hΦ hd
      go_simp
      exact hK _ _ v23.symm hG (fun _ _ _ h => h)
    | 24, ho =>
      simp at ho; subst ho
      have hu23 : u 23 = V 23 := hΦ 23 (hd ⟨23, .data⟩ (by simp) (by rfl))
      rw [v23] at hu23
      clear hΦ hd
      obtain ⟨c, A, ⟨e0, e1, e2, e3, e4⟩, hcn, hch, s1, s10, s16, s19, s25⟩ := hG
      have hx : ∃ x, u = (upd x 23 (.pointer (some ⟨q, 4, none⟩))) := ⟨u, by rw [← upd_self hu23]⟩
      clear hu23
      obtain ⟨x, rfl⟩ := hx
      simp only [upd, reduceIte, Nat.reduceEqDiff]
      have hc0 := ((hpa).keep hch.fr (by unfold oneB; omega)).cells
      go_simp
      exact hK _ _ v24.symm ⟨c, A, ⟨e0, e1, e2, e3, e4⟩, hcn, hch, s1, s10, s16, s19, s25⟩ (fun _ _ _ h => h)
    | 25, ho =>
      simp at ho; subst ho
      have hu22 : u 22 = V 22 := hΦ 22 (hd ⟨22, .data⟩ (by simp) (by rfl))
      rw [v22] at hu22
      have hu24 : u 24 = V 24 := hΦ 24 (hd ⟨24, .data⟩ (by simp) (by rfl))
      rw [v24] at hu24
      clear hΦ hd
      obtain ⟨c, A, ⟨e0, e1, e2, e3, e4⟩, hcn, hch, s1, s10, s16, s19, s25⟩ := hG
      have hx : ∃ x, u = (upd (upd x 22 (.int .u32 (fi : Int))) 24 (.int .u32 (ti : Int))) := ⟨u, by rw [← upd_self hu22, ← upd_self hu24]⟩
      clear hu22 hu24
      obtain ⟨x, rfl⟩ := hx
      simp only [upd, reduceIte, Nat.reduceEqDiff]
      go_simp
      exact hK _ _ trivial ⟨c, A, ⟨e0, e1, e2, e3, e4⟩, hcn, hch.alloc _, AlS.alloc s1 _, AlS.alloc s10 _, AlS.alloc s16 _, AlS.alloc s19 _, AlS.new hch 2 38 #[.int .u32 (fi : Int), .int .u32 (ti : Int)]⟩ (fun _ _ _ h => h)
    | 26, ho =>
      simp at ho; subst ho
      have hu20 : u 20 = V 20 := hΦ 20 (hd ⟨20, .data⟩ (by simp) (by rfl))
      rw [v20] at hu20
      have hl25 : L 25 = true := hd ⟨25, .data⟩ (by simp) (by rfl)
      have hlc : L 20 = true := hd ⟨20, .chain⟩ (by simp) (by rfl)
      clear hΦ hd
      obtain ⟨c, A, ⟨e0, e1, e2, e3, e4⟩, hcn, hch, s1, s10, s16, s19, s25⟩ := hG
      have hck : c = 4 := by
        have h1 := hL.symm.trans e4
        have h2 := hlc.symm.trans e3
        simp at h1 h2; omega
      subst hck
      obtain ⟨g25, hg25, hb25, hB25, hn25⟩ := s25 hl25
      have hx : ∃ x, u = (upd (upd x 20 (.pointer (some ⟨w.heap.size, 0, none⟩))) 25 (.slice (some ⟨g25, 0, none⟩) 2 2)) := ⟨u, by rw [← upd_self hu20, ← upd_self hg25]⟩
      clear hu20 hg25
      obtain ⟨x, rfl⟩ := hx
      simp only [upd, reduceIte, Nat.reduceEqDiff]
      go_simp
      refine (wIP w.heap.size A _ w3 _ 2 2 [(fi : Int), (ti : Int)] hch.wr (SlR.of_bk (n := 2) (size := 1) hb25 (AlS.not hch hB25 hn25) rfl) (by intro x hx; simp at hx; omega) (by omega) (by have := N4.out; first | omega | (simp; omega))).mono ?_
      rintro e w4 ⟨rfl, hw4⟩
      obtain ⟨A', hch', hal⟩ := hch.call hw4
      exact hK _ _ v26.symm ⟨5, A', ⟨e0, e1, e2, e3, rfl⟩, by omega, by rw [Q5.out]; exact hch', hal _ _ _ _ _ s1, hal _ _ _ _ _ s10, hal _ _ _ _ _ s16, hal _ _ _ _ _ s19, hal _ _ _ _ _ s25⟩ (fun _ _ _ h => h)
    | 27, ho =>
      simp at ho; subst ho
      have hu26 : u 26 = V 26 := hΦ 26 (hd ⟨26, .data⟩ (by simp) (by rfl))
      rw [v26] at hu26
      have hlc : L 26 = true := hd ⟨26, .chain⟩ (by simp) (by rfl)
      clear hΦ hd
      obtain ⟨c, A, ⟨e0, e1, e2, e3, e4⟩, hcn, hch, s1, s10, s16, s19, s25⟩ := hG
      have hck : c = 5 := by
        have h2 := hlc.symm.trans e4
        simp at h2; omega
      subst hck
      have hx : ∃ x, u = (upd x 26 (.pointer (some ⟨w.heap.size, 0, none⟩))) := ⟨u, by rw [← upd_self hu26]⟩
      clear hu26
      obtain ⟨x, rfl⟩ := hx
      simp only [upd, reduceIte, Nat.reduceEqDiff]
      go_simp
      refine (wString w.heap.size _ _ _ hch.wr).mono ?_
      rintro e w4 ⟨rfl, rfl⟩
      exact hK _ _ v27.symm ⟨5, A, ⟨e0, e1, e2, e3, e4⟩, hcn, hch, s1, s10, s16, s19, s25⟩ (fun _ _ _ h => h)
    | 28, ho =>
      simp at ho; subst ho
      have hu27 : u 27 = V 27 := hΦ 27 (hd ⟨27, .data⟩ (by simp) (by rfl))
      rw [v27] at hu27
      clear hΦ hd
      have hx : ∃ x, u = (upd x 27 (.string (bs (lst 5)))) := ⟨u, by rw [← upd_self hu27]⟩
      clear hu27
      obtain ⟨x, rfl⟩ := hx
      simp only [upd, reduceIte, Nat.reduceEqDiff]
      go_simp
      exact hK _ _ v28.symm hG (fun _ _ _ h => h)
  · rintro u w3 hu L hall hG
    obtain ⟨c, A, ⟨e0, e1, e2, e3, e4⟩, hcn, hch, s1, s10, s16, s19, s25⟩ := hG
    have h28 : u 28 = V 28 := hu 28 (by simp)
    rw [v28] at h28
    clear hu
    rw [h28]
    have hby : lst 5 = ipHead id ttl pr fi ti ld.length sum := by rw [Q5.out, Q4.out, Q3.out, Q2.out, Q1.out, Q0.out]; exact ip_lst _ _ _ _ _ _ _
    rw [hby]
    have hfr := hf0.trans' hch.fr (fun b hb e => by unfold oneB at e; omega)
    generalize hR : ipHead id ttl pr fi ti ld.length sum = R at *
    have HR := Lib.hid hR
    clear hR
    go_wp2_with fail
    go_ret
    exact ⟨by rw [HR.out]; rfl, hfr⟩
theorem hashCheck_one1 (A : Option Addr) (c : Nat) (p : List UInt8) (w : World) (hr : SlR w noB 1 A 1 (strs [p])) (hz : p.length ≤ 9223372036854775807) :
    Calls Tryz.prog 92 #[.slice A 1 c] w fun e w' => e = .returned (.int .u16 (check p)) ∧ w = w' := by
  have h := hashCheck_any A 1 c [p] w noB hr (by omega) (by simpa using hz)
  simpa using h
theorem packetWriteIP (id fi ti : Nat) (ttl pr : UInt8) (ld : List UInt8) (w : World) (hid : id < 65536) (hfi : fi < 4294967296) (hti : ti < 4294967296) (hld : ld.length ≤ 9223372036854775807) :
    Calls Tryz.prog 199 #[.agg #[.int .u16 (id : Int), .int .u8 (ttl.toNat : Int), .int .u8 (pr.toNat : Int), .int .u32 (fi : Int), .int .u32 (ti : Int), .string (bs ld)]] w (strPost (wrIP id ttl pr fi ti ld) w) := by
  have hpa := Bk.new w 53 #[.int .u16 (id : Int), .int .u8 (ttl.toNat : Int), .int .u8 (pr.toNat : Int), .int .u32 (fi : Int), .int .u32 (ti : Int), .string (bs ld)]
  have hpa0 := hpa.cells
  have hmf : ∀ (fn : Fn) (first cap : Array Value) (w : World), (Instr.makeFunc fn first cap).run Tryz.prog w = .ok (.func fn first cap) w := fun _ _ _ _ => rfl
  go_enter Tryz.func199, Tryz.ntmps199
  by_cases h1 : ttl.toNat = 0
  · have hs : Hid (wrIP id ttl pr fi ti ld = ([], 2)) := by unfold Hid wrIP; rw [if_pos h1]
    have b1 : ((ttl.toNat : Int) == 0) = true := by simp; omega
    clear h1
    go_wp2_with fail
    go_ret2
    exact ⟨by rw [hs.out]; rfl, (Fr.refl _ _).alloc _⟩
  have b1 : ((ttl.toNat : Int) == 0) = false := by simp; omega
  by_cases h2 : 1480 < ld.length
  · have hs : Hid (wrIP id ttl pr fi ti ld = ([], 7)) := by unfold Hid wrIP; rw [if_neg h1, if_pos h2]
    have b2 : 1480 < (ld.length : Int) := by omega
    clear h1 h2
    go_wp2_with fail
    go_ret2
    exact ⟨by rw [hs.out]; rfl, (Fr.refl _ _).alloc _⟩
  have b2 : ¬ 1480 < (ld.length : Int) := by omega
  have hs : Hid (wrIP id ttl pr fi ti ld = (ipBytes id ttl pr fi ti ld, 0)) := by unfold Hid wrIP; rw [if_neg h1, if_neg h2]
  have hl2 : ld.length ≤ 1480 := by omega
  clear h1 h2
  go_upto_region 5 with fail
  go_cut [4] from 5 to 14 (fun q wx => q = .func (.func 251) #[] #[.pointer (some ⟨w.heap.size, 0, none⟩)] ∧ wx = w.alloc (.cells #[.int .u16 (id : Int), .int .u8 (ttl.toNat : Int), .int .u8 (pr.toNat : Int), .int .u32 (fi : Int), .int .u32 (ti : Int), .string (bs ld)] 53))
  case first =>
    go_wp2_with fail
    go_meet
    case rel => exact ⟨rfl, rfl⟩
  case rest =>
  obtain ⟨rfl, rfl⟩ := hcut
  clear hpa0
  go_upto_region 6 with fail
  have hf0 : Fr noB w (w.alloc (.cells #[.int .u16 (id : Int), .int .u8 (ttl.toNat : Int), .int .u8 (pr.toNat : Int), .int .u32 (fi : Int), .int .u32 (ti : Int), .string (bs ld)] 53)) := (Fr.refl _ _).alloc _
  generalize w.alloc (.cells #[.int .u16 (id : Int), .int .u8 (ttl.toNat : Int), .int .u8 (pr.toNat : Int), .int .u32 (fi : Int), .int .u32 (ti : Int), .string (bs ld)] 53) = w1 at *
  have Lld := Lib.hid hl2
  obtain ⟨x1, Hx1⟩ : ∃ s : List UInt8, Hid (s = ipHead id ttl pr fi ti ld.length 0) := ⟨ipHead id ttl pr fi ti ld.length 0, Lib.hid rfl⟩
  obtain ⟨x2, Hx2⟩ : ∃ s : List UInt8, Hid (s = ipHead id ttl pr fi ti ld.length (check x1)) := ⟨ipHead id ttl pr fi ti ld.length (check x1), Lib.hid rfl⟩
  obtain ⟨s1, Hs1⟩ : ∃ s : List UInt8, Hid (s = x2 ++ ld) := ⟨x2 ++ ld, Lib.hid rfl⟩
  have Lx1 : Hid (x1.length ≤ 20) := by unfold Hid; rw [Hx1.out]; first | (rw [ipHead_length]; omega) | (simp [big_length, macB, bigs_length] <;> omega)
  have Lx2 : Hid (x2.length ≤ 20) := by have l_x1 := Lx1.out; unfold Hid; rw [Hx2.out]; first | (rw [ipHead_length]; omega) | (simp [big_length, macB, bigs_length] <;> omega)
  have Ls1 : Hid (s1.length ≤ 1500) := by have l_x1 := Lx1.out; have l_x2 := Lx2.out; unfold Hid; rw [Hs1.out]; first | (rw [ipHead_length]; omega) | (simp [big_length, macB, bigs_length] <;> omega)
  obtain ⟨V, hV⟩ : ∃ V : Nat → Value, V = (fun j => match j with | 0 => .func (.func 251) #[] #[.pointer (some ⟨w.heap.size, 0, none⟩)] | 1 => .func (.func 251) #[] #[.pointer (some ⟨w.heap.size, 0, none⟩)] | 2 => .string (bs x1) | 4 => .int .u16 (check x1 : Int) | 5 => .string (bs x2) | 6 => .pointer (some ⟨w.heap.size, 5, none⟩) | 7 => .string (bs ld) | 8 => .string (bs s1) | 9 => .string (bs s1) | 10 => .int .i64 0 | _ => undef) := ⟨_, rfl⟩
  have v0 : V 0 = .func (.func 251) #[] #[.pointer (some ⟨w.heap.size, 0, none⟩)] := congrFun hV 0
  have v1 : V 1 = .func (.func 251) #[] #[.pointer (some ⟨w.heap.size, 0, none⟩)] := congrFun hV 1
  have v2 : V 2 = .string (bs x1) := congrFun hV 2
  have v4 : V 4 = .int .u16 (check x1 : Int) := congrFun hV 4
  have v5 : V 5 = .string (bs x2) := congrFun hV 5
  have v6 : V 6 = .pointer (some ⟨w.heap.size, 5, none⟩) := congrFun hV 6
  have v7 : V 7 = .string (bs ld) := congrFun hV 7
  have v8 : V 8 = .string (bs s1) := congrFun hV 8
  have v9 : V 9 = .string (bs s1) := congrFun hV 9
  have v10 : V 10 = .int .i64 0 := congrFun hV 10
  clear hV
  refine wp_region_ssau (by kernel_rfl) (by kernel_rfl) (by kernel_rfl)
    (fun u => ⟨#[.agg #[.int .u16 (id : Int), .int .u8 (ttl.toNat : Int), .int .u8 (pr.toNat : Int), .int .u32 (fi : Int), .int .u32 (ti : Int), .string (bs ld)], .pointer (some ⟨w.heap.size, 0, none⟩), u 9, u 10, .func (.func 251) #[] #[.pointer (some ⟨w.heap.size, 0, none⟩)], u5, u6, u7, u8, u9, u10, u11, u12, u13, u14, u 0, u 1, u 2, u 3, u 4, u 5, u 6, u 7, u 8], []⟩)
    (fun j v w3 => if j = 3 then True else v = V j)
    (fun L u w3 => Fr noB w1 w3 ∧ AlS (L 3) (u 3) 1 9 #[.string (bs x1)] 0 none w3) (fun j => if j = 9 then .string ⟨#[]⟩ else if j = 10 then .int .i64 0 else undef) ⟨(Fr.refl _ _).drew, AlS.false⟩ ?_ ?_
  · rintro L u w3 i o hG hΦ ho hL hd K hK
    match i, ho with
    | 0, ho =>
      simp at ho; subst ho
      clear hΦ hd
      go_simp
      exact hK _ _ v0.symm hG (fun _ _ _ h => h)
    | 1, ho =>
      simp at ho; subst ho
      clear hΦ hd
      go_simp
      exact hK _ _ v1.symm hG (fun _ _ _ h => h)
    | 2, ho =>
      simp at ho; subst ho
      have hu1 : u 1 = V 1 := hΦ 1 (hd ⟨1, .data⟩ (by simp) (by rfl))
      rw [v1] at hu1
      clear hΦ hd
      obtain ⟨hG0, s3⟩ := hG
      have hx : ∃ x, u = (upd x 1 (.func (.func 251) #[] #[.pointer (some ⟨w.heap.size, 0, none⟩)])) := ⟨u, by rw [← upd_self hu1]⟩
      clear hu1
      obtain ⟨x, rfl⟩ := hx
      simp only [upd, reduceIte, Nat.reduceEqDiff]
      go_simp
      refine (ipHeadFn id fi ti ttl pr ld 0 w.heap.size w3 hid hfi hti (by omega) hl2 (hpa.keep hG0 (fun x => x))).mono ?_
      rintro e w4 ⟨rfl, hf4⟩
      rw [← Hx1.out]
      exact hK _ _ v2.symm ⟨(hG0.none hf4), AlS.quiet s3 hf4⟩ (fun _ _ _ h => h)
    | 3, ho =>
      simp at ho; subst ho
      have hu2 : u 2 = V 2 := hΦ 2 (hd ⟨2, .data⟩ (by simp) (by rfl))
      rw [v2] at hu2
      clear hΦ hd
      obtain ⟨hG0, s3⟩ := hG
      have hx : ∃ x, u = (upd x 2 (.string (bs x1))) := ⟨u, by rw [← upd_self hu2]⟩
      clear hu2
      obtain ⟨x, rfl⟩ := hx
      simp only [upd, reduceIte, Nat.reduceEqDiff]
      go_simp
      exact hK _ _ trivial ⟨(hG0.alloc _), AlS.new0 w3 1 9 #[.string (bs x1)]⟩ (fun _ _ _ h => h)
    | 4, ho =>
      simp at ho; subst ho
      have hl3 : L 3 = true := hd ⟨3, .data⟩ (by simp) (by rfl)
      clear hΦ hd
      obtain ⟨hG0, s3⟩ := hG
      obtain ⟨g3, hg3, hb3, -, -⟩ := s3 hl3
      have hx : ∃ x, u = (upd x 3 (.slice (some ⟨g3, 0, none⟩) 1 1)) := ⟨u, by rw [← upd_self hg3]⟩
      clear hg3
      obtain ⟨x, rfl⟩ := hx
      simp only [upd, reduceIte, Nat.reduceEqDiff]
      go_simp
      refine (hashCheck_one1 _ 1 x1 w3 (SlR.of_bk (n := 1) (size := 1) hb3 (fun x => x) rfl) (by have := Lx1.out; omega)).mono ?_
      rintro e w4 ⟨rfl, rfl⟩
      exact hK _ _ v4.symm ⟨hG0, s3⟩ (fun _ _ _ h => h)
    | 5, ho =>
      simp at ho; subst ho
      have hu0 : u 0 = V 0 := hΦ 0 (hd ⟨0, .data⟩ (by simp) (by rfl))
      rw [v0] at hu0
      have hu4 : u 4 = V 4 := hΦ 4 (hd ⟨4, .data⟩ (by simp) (by rfl))
      rw [v4] at hu4
      clear hΦ hd
      obtain ⟨hG0, s3⟩ := hG
      have hx : ∃ x, u = (upd (upd x 0 (.func (.func 251) #[] #[.pointer (some ⟨w.heap.size, 0, none⟩)])) 4 (.int .u16 (check x1 : Int))) := ⟨u, by rw [← upd_self hu0, ← upd_self hu4]⟩
      clear hu0 hu4
      obtain ⟨x, rfl⟩ := hx
      simp only [upd, reduceIte, Nat.reduceEqDiff]
      go_simp
      refine (ipHeadFn id fi ti ttl pr ld (check x1) w.heap.size w3 hid hfi hti (by have := check_le x1; omega) hl2 (hpa.keep hG0 (fun x => x))).mono ?_
      rintro e w4 ⟨rfl, hf4⟩
      rw [← Hx2.out]
      exact hK _ _ v5.symm ⟨(hG0.none hf4), AlS.quiet s3 hf4⟩ (fun _ _ _ h => h)
    | 6, ho =>
      simp at ho; subst ho
      clear hΦ hd
      go_simp
      exact hK _ _ v6.symm hG (fun _ _ _ h => h)
    | 7, ho =>
      simp at ho; subst ho
      have hu6 : u 6 = V 6 := hΦ 6 (hd ⟨6, .data⟩ (by simp) (by rfl))
      rw [v6] at hu6
      clear hΦ hd
      obtain ⟨hG0, s3⟩ := hG
      have hx : ∃ x, u = (upd x 6 (.pointer (some ⟨w.heap.size, 5, none⟩))) := ⟨u, by rw [← upd_self hu6]⟩
      clear hu6
      obtain ⟨x, rfl⟩ := hx
      simp only [upd, reduceIte, Nat.reduceEqDiff]
      have hc0 := ((hpa).keep hG0 (fun x => x)).cells
      go_simp
      exact hK _ _ v7.symm ⟨hG0, s3⟩ (fun _ _ _ h => h)
    | 8, ho =>
      simp at ho; subst ho
      have hu5 : u 5 = V 5 := hΦ 5 (hd ⟨5, .data⟩ (by simp) (by rfl))
      rw [v5] at hu5
      have hu7 : u 7 = V 7 := hΦ 7 (hd ⟨7, .data⟩ (by simp) (by rfl))
      rw [v7] at hu7
      clear hΦ hd
      have hx : ∃ x, u = (upd (upd x 5 (.string (bs x2))) 7 (.string (bs ld))) := ⟨u, by rw [← upd_self hu5, ← upd_self hu7]⟩
      clear hu5 hu7
      obtain ⟨x, rfl⟩ := hx
      simp only [upd, reduceIte, Nat.reduceEqDiff]
      have hln : ¬ 9223372036854775807 < x2.length + ld.length := by have l1 := Lx2.out; have l2 := Lld.out; omega
      go_simp
      rw [← Hs1.out]
      exact hK _ _ v8.symm hG (fun _ _ _ h => h)
    | 9, ho =>
      simp at ho; subst ho
      have hu8 : u 8 = V 8 := hΦ 8 (hd ⟨8, .data⟩ (by simp) (by rfl))
      rw [v8] at hu8
      clear hΦ hd
      have hx : ∃ x, u = (upd x 8 (.string (bs s1))) := ⟨u, by rw [← upd_self hu8]⟩
      clear hu8
      obtain ⟨x, rfl⟩ := hx
      simp only [upd, reduceIte, Nat.reduceEqDiff]
      go_simp
      exact hK _ _ v9.symm hG (fun _ _ _ h => h)
    | 10, ho =>
      simp at ho; subst ho
      clear hΦ hd
      go_simp
      exact hK _ _ v10.symm hG (fun _ _ _ h => h)
  · rintro u w3 hu L hall hG
    obtain ⟨hG0, s3⟩ := hG
    have h9 : u 9 = V 9 := hu 9 (by simp)
    rw [v9] at h9
    have h10 : u 10 = V 10 := hu 10 (by simp)
    rw [v10] at h10
    clear hu hall
    rw [h9, h10]
    have hfr := hf0.none hG0
    have hR : s1 = ipBytes id ttl pr fi ti ld := by rw [Hs1.out, Hx2.out, Hx1.out]; rfl
    rw [hR]
    clear hR
    generalize ipBytes id ttl pr fi ti ld = R at *
    go_wp2_with fail
    go_ret2
    exact ⟨by rw [hs.out]; rfl, hfr⟩
end Go.Proofs.YtcbkaiakdhiloacGreatDoor
namespace Go.Proofs.YtcbkaiakdhiloacGreatDoor
open Go.RowKit Go.Proofs
attribute [local go_sem] bs_size bs_append bs_sub bs_toList
def besideB (fi ti n : Nat) : List UInt8 := big 4 fi ++ big 4 ti ++ [0, 17] ++ big 2 n
theorem beside_length (fi ti n : Nat) : (besideB fi ti n).length = 12 := by simp [besideB, big_length]
theorem beside_lst (fi ti : Nat) (n : Int) : ([] ++ bigs 4 [(fi : Int), (ti : Int)] ++ [0, 17] ++ bigs 2 [n]) = besideB fi ti n.toNat := by
  simp only [bigs, List.flatMap_cons, List.flatMap_nil, List.append_nil, Int.toNat_natCast, List.nil_append, besideB, List.append_assoc]
theorem hashCheck_two (A : Option Addr) (c : Nat) (p q : List UInt8) (w : World) (hr : SlR w noB 1 A 2 (strs [p, q])) (hz : p.length ≤ 9223372036854775807) (hy : q.length ≤ 9223372036854775807) :
    Calls Tryz.prog 92 #[.slice A 2 c] w fun e w' => e = .returned (.int .u16 (check (p ++ q))) ∧ w = w' := by
  have h := hashCheck_any A 2 c [p, q] w noB hr (by omega) (by intro x hx; simp at hx; rcases hx with rfl | rfl <;> assumption)
  simpa using h
theorem pseudoFn (fi ti : Nat) (n : Int) (w : World) (hfi : fi < 4294967296) (hti : ti < 4294967296) (hn0 : 0 ≤ n) (hn1 : n ≤ 65535) :
    Calls Tryz.prog 96 #[.int .u32 (fi : Int), .int .u32 (ti : Int), .int .i64 n] w (fun e w' => e = .returned (.string (bs (besideB fi ti n.toNat))) ∧ Fr noB w w') := by
  have hbw := Bk.new w 226 #[.slice none 0 0]
  have hf0 : Fr noB w (w.alloc (.cells #[.slice none 0 0] 226)) := (Fr.refl _ _).alloc _
  have hsz : (w.alloc (.cells #[.slice none 0 0] 226)).heap.size = w.heap.size + 1 := by simp
  go_enter Tryz.func96, Tryz.ntmps96
  go_upto_region 2 with fail
  generalize w.alloc (.cells #[.slice none 0 0] 226) = w1 at *
  have hwr0 := Wr.zero hbw
  obtain ⟨lst, Q0, Q1, Q2, Q3⟩ : ∃ lst : Nat → List UInt8, Hid (lst 0 = ([] : List UInt8)) ∧ Hid (lst 1 = lst 0 ++ bigs 4 [(fi : Int), (ti : Int)]) ∧ Hid (lst 2 = lst 1 ++ [0, 17]) ∧ Hid (lst 3 = lst 2 ++ bigs 2 [n]) := by
    exact ⟨fun k => match k with | 0 => ([] : List UInt8) | 1 => (([] : List UInt8) ++ bigs 4 [(fi : Int), (ti : Int)]) | 2 => ((([] : List UInt8) ++ bigs 4 [(fi : Int), (ti : Int)]) ++ [0, 17]) | _ => (((([] : List UInt8) ++ bigs 4 [(fi : Int), (ti : Int)]) ++ [0, 17]) ++ bigs 2 [n]), rfl, rfl, rfl, rfl⟩
  have N0 : Hid ((lst 0).length ≤ 0) := by unfold Hid; rw [Q0.out]; simp
  have N1 : Hid ((lst 1).length ≤ 0 + (8)) := by have h0 := N0.out; have h1 : ((bigs 4 [(fi : Int), (ti : Int)] : List UInt8)).length ≤ 8 := (by simp [bigs_length, macB, big_length] <;> omega); unfold Hid; rw [Q1.out, List.length_append]; omega
  have N2 : Hid ((lst 2).length ≤ 0 + (8) + (2)) := by have h0 := N1.out; have h1 : (([0, 17] : List UInt8)).length ≤ 2 := (by simp [bigs_length, macB, big_length] <;> omega); unfold Hid; rw [Q2.out, List.length_append]; omega
  have N3 : Hid ((lst 3).length ≤ 0 + (8) + (2) + (2)) := by have h0 := N2.out; have h1 : ((bigs 2 [n] : List UInt8)).length ≤ 2 := (by simp [bigs_length, macB, big_length] <;> omega); unfold Hid; rw [Q3.out, List.length_append]; omega
  obtain ⟨V, hV⟩ : ∃ V : Nat → Value, V = (fun j => match j with | 0 => .pointer (some ⟨w.heap.size, 0, none⟩) | 1 => .int .u32 (fi : Int) | 2 => .int .u32 (ti : Int) | 4 => .pointer (some ⟨w.heap.size, 0, none⟩) | 6 => .pointer (some ⟨w.heap.size, 0, none⟩) | 7 => .int .i64 n | 8 => .int .u16 n | 10 => .pointer (some ⟨w.heap.size, 0, none⟩) | 11 => .string (bs (lst 3)) | 12 => .string (bs (lst 3)) | _ => undef) := ⟨_, rfl⟩
  have v0 : V 0 = .pointer (some ⟨w.heap.size, 0, none⟩) := congrFun hV 0
  have v1 : V 1 = .int .u32 (fi : Int) := congrFun hV 1
  have v2 : V 2 = .int .u32 (ti : Int) := congrFun hV 2
  have v4 : V 4 = .pointer (some ⟨w.heap.size, 0, none⟩) := congrFun hV 4
  have v6 : V 6 = .pointer (some ⟨w.heap.size, 0, none⟩) := congrFun hV 6
  have v7 : V 7 = .int .i64 n := congrFun hV 7
  have v8 : V 8 = .int .u16 n := congrFun hV 8
  have v10 : V 10 = .pointer (some ⟨w.heap.size, 0, none⟩) := congrFun hV 10
  have v11 : V 11 = .string (bs (lst 3)) := congrFun hV 11
  have v12 : V 12 = .string (bs (lst 3)) := congrFun hV 12
  clear hV
  refine wp_region_ssau_plain (by kernel_rfl) (by kernel_rfl) (by kernel_rfl)
    (fun u => ⟨#[.int .u32 (fi : Int), .int .u32 (ti : Int), .int .i64 n, undef, undef, undef, u 12, .pointer (some ⟨w.heap.size, 0, none⟩), .agg #[.slice none 0 0], .pointer (some ⟨w.heap.size, 0, none⟩), u 0, u 1, u 2, u 3, u 4, u 5, u 6, u 7, u 8, u 9, u 10, u 11], []⟩)
    (fun j v w3 => if j = 3 then True else if j = 5 then True else if j = 9 then True else v = V j)
    (fun L u w3 => ∃ (c : Nat) (A : Option Addr), (L 4 = decide (0 < c) ∧ L 6 = decide (1 < c) ∧ L 10 = decide (2 < c)) ∧ c ≤ 3 ∧ Chn w1 w.heap.size w1.heap.size A (lst c) w3 ∧ AlS (L 3) (u 3) 2 38 #[.int .u32 (fi : Int), .int .u32 (ti : Int)] w1.heap.size A w3 ∧ AlS (L 5) (u 5) 2 5 #[.int .u8 0, .int .u8 17] w1.heap.size A w3 ∧ AlS (L 9) (u 9) 1 47 #[.int .u16 n] w1.heap.size A w3) (fun j => if j = 12 then .string ⟨#[]⟩ else undef) ⟨0, none, ⟨rfl, rfl, rfl⟩, by omega, by rw [Q0.out]; exact Chn.start0 hwr0 rfl, AlS.false, AlS.false, AlS.false⟩ ?_ ?_
  · rintro L u w3 i o hG hΦ ho hL hd K hK
    match i, ho with
    | 0, ho =>
      simp at ho; subst ho
      clear hΦ hd
      go_simp
      exact hK _ _ v0.symm hG (fun _ _ _ h => h)
    | 1, ho =>
      simp at ho; subst ho
      clear hΦ hd
      go_simp
      exact hK _ _ v1.symm hG (fun _ _ _ h => h)
    | 2, ho =>
      simp at ho; subst ho
      clear hΦ hd
      go_simp
      exact hK _ _ v2.symm hG (fun _ _ _ h => h)
    | 3, ho =>
      simp at ho; subst ho
      have hu1 : u 1 = V 1 := hΦ 1 (hd ⟨1, .data⟩ (by simp) (by rfl))
      rw [v1] at hu1
      have hu2 : u 2 = V 2 := hΦ 2 (hd ⟨2, .data⟩ (by simp) (by rfl))
      rw [v2] at hu2
      clear hΦ hd
      obtain ⟨c, A, ⟨e0, e1, e2⟩, hcn, hch, s3, s5, s9⟩ := hG
      have hx : ∃ x, u = (upd (upd x 1 (.int .u32 (fi : Int))) 2 (.int .u32 (ti : Int))) := ⟨u, by rw [← upd_self hu1, ← upd_self hu2]⟩
      clear hu1 hu2
      obtain ⟨x, rfl⟩ := hx
      simp only [upd, reduceIte, Nat.reduceEqDiff]
      go_simp
      exact hK _ _ trivial ⟨c, A, ⟨e0, e1, e2⟩, hcn, hch.alloc _, AlS.new hch 2 38 #[.int .u32 (fi : Int), .int .u32 (ti : Int)], AlS.alloc s5 _, AlS.alloc s9 _⟩ (fun _ _ _ h => h)
    | 4, ho =>
      simp at ho; subst ho
      have hu0 : u 0 = V 0 := hΦ 0 (hd ⟨0, .data⟩ (by simp) (by rfl))
      rw [v0] at hu0
      have hl3 : L 3 = true := hd ⟨3, .data⟩ (by simp) (by rfl)
      clear hΦ hd
      obtain ⟨c, A, ⟨e0, e1, e2⟩, hcn, hch, s3, s5, s9⟩ := hG
      have hck : c = 0 := by
        have h1 := hL.symm.trans e0
        simp at h1; omega
      subst hck
      obtain ⟨g3, hg3, hb3, hB3, hn3⟩ := s3 hl3
      have hx : ∃ x, u = (upd (upd x 0 (.pointer (some ⟨w.heap.size, 0, none⟩))) 3 (.slice (some ⟨g3, 0, none⟩) 2 2)) := ⟨u, by rw [← upd_self hu0, ← upd_self hg3]⟩
      clear hu0 hg3
      obtain ⟨x, rfl⟩ := hx
      simp only [upd, reduceIte, Nat.reduceEqDiff]
      go_simp
      refine (wIP w.heap.size A _ w3 _ 2 2 [(fi : Int), (ti : Int)] hch.wr (SlR.of_bk (n := 2) (size := 1) hb3 (AlS.not hch hB3 hn3) rfl) (by intro x hx; simp at hx; omega) (by omega) (by have := N0.out; first | omega | (simp; omega))).mono ?_
      rintro e w4 ⟨rfl, hw4⟩
      obtain ⟨A', hch', hal⟩ := hch.call hw4
      exact hK _ _ v4.symm ⟨1, A', ⟨rfl, e1, e2⟩, by omega, by rw [Q1.out]; exact hch', hal _ _ _ _ _ s3, hal _ _ _ _ _ s5, hal _ _ _ _ _ s9⟩ (fun _ _ _ h => h)
    | 5, ho =>
      simp at ho; subst ho
      clear hΦ hd
      obtain ⟨c, A, ⟨e0, e1, e2⟩, hcn, hch, s3, s5, s9⟩ := hG
      go_simp
      exact hK _ _ trivial ⟨c, A, ⟨e0, e1, e2⟩, hcn, hch.alloc _, AlS.alloc s3 _, AlS.new hch 2 5 #[.int .u8 0, .int .u8 17], AlS.alloc s9 _⟩ (fun _ _ _ h => h)
    | 6, ho =>
      simp at ho; subst ho
      have hu4 : u 4 = V 4 := hΦ 4 (hd ⟨4, .data⟩ (by simp) (by rfl))
      rw [v4] at hu4
      have hl5 : L 5 = true := hd ⟨5, .data⟩ (by simp) (by rfl)
      have hlc : L 4 = true := hd ⟨4, .chain⟩ (by simp) (by rfl)
      clear hΦ hd
      obtain ⟨c, A, ⟨e0, e1, e2⟩, hcn, hch, s3, s5, s9⟩ := hG
      have hck : c = 1 := by
        have h1 := hL.symm.trans e1
        have h2 := hlc.symm.trans e0
        simp at h1 h2; omega
      subst hck
      obtain ⟨g5, hg5, hb5, hB5, hn5⟩ := s5 hl5
      have hx : ∃ x, u = (upd (upd x 4 (.pointer (some ⟨w.heap.size, 0, none⟩))) 5 (.slice (some ⟨g5, 0, none⟩) 2 2)) := ⟨u, by rw [← upd_self hu4, ← upd_self hg5]⟩
      clear hu4 hg5
      obtain ⟨x, rfl⟩ := hx
      simp only [upd, reduceIte, Nat.reduceEqDiff]
      go_simp
      refine (wU8 w.heap.size A _ w3 _ 2 2 [0, 17] (wrS w.heap.size A) hch.wr (SlR.of_bk (n := 2) (size := 1) hb5 (AlS.not hch hB5 hn5) rfl) (by have := N1.out; first | omega | (simp; omega))).mono ?_
      rintro e w4 ⟨rfl, hw4⟩
      obtain ⟨A', hch', hal⟩ := hch.call hw4
      exact hK _ _ v6.symm ⟨2, A', ⟨e0, rfl, e2⟩, by omega, by rw [Q2.out]; exact hch', hal _ _ _ _ _ s3, hal _ _ _ _ _ s5, hal _ _ _ _ _ s9⟩ (fun _ _ _ h => h)
    | 7, ho =>
      simp at ho; subst ho
      clear hΦ hd
      go_simp
      exact hK _ _ v7.symm hG (fun _ _ _ h => h)
    | 8, ho =>
      simp at ho; subst ho
      have hu7 : u 7 = V 7 := hΦ 7 (hd ⟨7, .data⟩ (by simp) (by rfl))
      rw [v7] at hu7
      clear hΦ hd
      have hx : ∃ x, u = (upd x 7 (.int .i64 n)) := ⟨u, by rw [← upd_self hu7]⟩
      clear hu7
      obtain ⟨x, rfl⟩ := hx
      simp only [upd, reduceIte, Nat.reduceEqDiff]
      have e8 : IntKind.u16.wrap n = n := by rw [IntKind.wrap_u16]; omega
      have e8' : n % 65536 = n := by omega
      go_simp
      exact hK _ _ v8.symm hG (fun _ _ _ h => h)
    | 9, ho =>
      simp at ho; subst ho
      have hu8 : u 8 = V 8 := hΦ 8 (hd ⟨8, .data⟩ (by simp) (by rfl))
      rw [v8] at hu8
      clear hΦ hd
      obtain ⟨c, A, ⟨e0, e1, e2⟩, hcn, hch, s3, s5, s9⟩ := hG
      have hx : ∃ x, u = (upd x 8 (.int .u16 n)) := ⟨u, by rw [← upd_self hu8]⟩
      clear hu8
      obtain ⟨x, rfl⟩ := hx
      simp only [upd, reduceIte, Nat.reduceEqDiff]
      go_simp
      exact hK _ _ trivial ⟨c, A, ⟨e0, e1, e2⟩, hcn, hch.alloc _, AlS.alloc s3 _, AlS.alloc s5 _, AlS.new hch 1 47 #[.int .u16 n]⟩ (fun _ _ _ h => h)
    | 10, ho =>
      simp at ho; subst ho
      have hu6 : u 6 = V 6 := hΦ 6 (hd ⟨6, .data⟩ (by simp) (by rfl))
      rw [v6] at hu6
      have hl9 : L 9 = true := hd ⟨9, .data⟩ (by simp) (by rfl)
      have hlc : L 6 = true := hd ⟨6, .chain⟩ (by simp) (by rfl)
      clear hΦ hd
      obtain ⟨c, A, ⟨e0, e1, e2⟩, hcn, hch, s3, s5, s9⟩ := hG
      have hck : c = 2 := by
        have h1 := hL.symm.trans e2
        have h2 := hlc.symm.trans e1
        simp at h1 h2; omega
      subst hck
      obtain ⟨g9, hg9, hb9, hB9, hn9⟩ := s9 hl9
      have hx : ∃ x, u = (upd (upd x 6 (.pointer (some ⟨w.heap.size, 0, none⟩))) 9 (.slice (some ⟨g9, 0, none⟩) 1 1)) := ⟨u, by rw [← upd_self hu6, ← upd_self hg9]⟩
      clear hu6 hg9
      obtain ⟨x, rfl⟩ := hx
      simp only [upd, reduceIte, Nat.reduceEqDiff]
      go_simp
      refine (wU16 w.heap.size A _ w3 _ 1 1 [n] hch.wr (SlR.of_bk (n := 1) (size := 1) hb9 (AlS.not hch hB9 hn9) rfl) (by intro x hx; simp at hx; omega) (by omega) (by have := N2.out; first | omega | (simp; omega))).mono ?_
      rintro e w4 ⟨rfl, hw4⟩
      obtain ⟨A', hch', hal⟩ := hch.call hw4
      exact hK _ _ v10.symm ⟨3, A', ⟨e0, e1, rfl⟩, by omega, by rw [Q3.out]; exact hch', hal _ _ _ _ _ s3, hal _ _ _ _ _ s5, hal _ _ _ _ _ s9⟩ (fun _ _ _ h => h)
    | 11, ho =>
      simp at ho; subst ho
      have hu10 : u 10 = V 10 := hΦ 10 (hd ⟨10, .data⟩ (by simp) (by rfl))
      rw [v10] at hu10
      have hlc : L 10 = true := hd ⟨10, .chain⟩ (by simp) (by rfl)
      clear hΦ hd
      obtain ⟨c, A, ⟨e0, e1, e2⟩, hcn, hch, s3, s5, s9⟩ := hG
      have hck : c = 3 := by
        have h2 := hlc.symm.trans e2
        simp at h2; omega
      subst hck
      have hx : ∃ x, u = (upd x 10 (.pointer (some ⟨w.heap.size, 0, none⟩))) := ⟨u, by rw [← upd_self hu10]⟩
      clear hu10
      obtain ⟨x, rfl⟩ := hx
      simp only [upd, reduceIte, Nat.reduceEqDiff]
      go_simp
      refine (wString w.heap.size _ _ _ hch.wr).mono ?_
      rintro e w4 ⟨rfl, rfl⟩
      exact hK _ _ v11.symm ⟨3, A, ⟨e0, e1, e2⟩, hcn, hch, s3, s5, s9⟩ (fun _ _ _ h => h)
    | 12, ho =>
      simp at ho; subst ho
      have hu11 : u 11 = V 11 := hΦ 11 (hd ⟨11, .data⟩ (by simp) (by rfl))
      rw [v11] at hu11
      clear hΦ hd
      have hx : ∃ x, u = (upd x 11 (.string (bs (lst 3)))) := ⟨u, by rw [← upd_self hu11]⟩
      clear hu11
      obtain ⟨x, rfl⟩ := hx
      simp only [upd, reduceIte, Nat.reduceEqDiff]
      go_simp
      exact hK _ _ v12.symm hG (fun _ _ _ h => h)
  · rintro u w3 hu L hall hG
    obtain ⟨c, A, ⟨e0, e1, e2⟩, hcn, hch, s3, s5, s9⟩ := hG
    have h12 : u 12 = V 12 := hu 12 (by simp)
    rw [v12] at h12
    clear hu
    rw [h12]
    have hby : lst 3 = besideB fi ti n.toNat := by rw [Q3.out, Q2.out, Q1.out, Q0.out]; exact beside_lst _ _ _
    rw [hby]
    have hfr := hf0.trans' hch.fr (fun b hb e => by unfold oneB at e; omega)
    generalize hR : besideB fi ti n.toNat = R at *
    have HR := Lib.hid hR
    clear hR
    go_wp2_with fail
    go_ret
    exact ⟨by rw [HR.out]; rfl, hfr⟩
end Go.Proofs.YtcbkaiakdhiloacGreatDoor
