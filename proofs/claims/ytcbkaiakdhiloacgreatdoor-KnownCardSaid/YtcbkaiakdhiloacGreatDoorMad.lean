/- Parts of the walk; written by programs, merged. -/
import Derived.Test.YtcbkaiakdhiloacGreatDoorMac
import Derived.Lib.ConvBytes
import Derived.Lib.LazyBuf
import Derived.Recover
set_option linter.unusedSimpArgs false
set_option linter.unusedVariables false
set_option maxRecDepth 20000
set_option maxHeartbeats 8000000
namespace Go.Proofs.YtcbkaiakdhiloacGreatDoor
open Go.RowKit Go.Proofs
attribute [local go_sem] bs_size bs_append bs_sub bs_toList
def udpA (fm tp n : Nat) : List UInt8 := big 2 fm ++ big 2 tp ++ big 2 n
def udpWith (fm tp : Nat) (ld : List UInt8) (sum : Nat) : List UInt8 := udpA fm tp (8 + ld.length) ++ big 2 sum ++ ld
def udpSum0 (fm tp fi ti : Nat) (ld : List UInt8) : Nat := check (besideB fi ti (8 + ld.length) ++ udpA fm tp (8 + ld.length) ++ [0, 0] ++ ld)
def udpSum (fm tp fi ti : Nat) (ld : List UInt8) : Nat := if udpSum0 fm tp fi ti ld = 0 then 65535 else udpSum0 fm tp fi ti ld
def wrUDP (fm tp fi ti : Nat) (ld : List UInt8) : List UInt8 × Nat := if 1480 < 8 + ld.length then ([], 7) else (udpWith fm tp ld (udpSum fm tp fi ti ld), 0)
theorem udpSum_le (fm tp fi ti : Nat) (ld : List UInt8) : udpSum fm tp fi ti ld ≤ 65535 := by
  unfold udpSum; split
  · omega
  · exact check_le _
theorem udpWith_length (fm tp : Nat) (ld : List UInt8) (sum : Nat) : (udpWith fm tp ld sum).length = 8 + ld.length := by simp [udpWith, udpA, big_length]; omega
theorem udpSum0_eq (fm tp fi ti : Nat) (ld : List UInt8) : check (besideB fi ti (8 + ld.length) ++ udpWith fm tp ld 0) = udpSum0 fm tp fi ti ld := by
  have e : big 2 0 = [0, 0] := by decide
  unfold udpSum0 udpWith; rw [e]; simp only [List.append_assoc]
theorem udp_lst (fm tp sum : Nat) (ld : List UInt8) : ([] ++ bigs 2 [(fm : Int), (tp : Int), (8 + (ld.length : Int)), (sum : Int)] ++ List.flatten [ld]) = udpWith fm tp ld sum := by
  have e1 : (8 + (ld.length : Int)).toNat = 8 + ld.length := by omega
  simp only [bigs, List.flatMap_cons, List.flatMap_nil, List.append_nil, e1, Int.toNat_natCast, List.nil_append, List.flatten_cons, List.flatten_nil, udpWith, udpA, List.append_assoc]
theorem udpWithFn (fm tp : Nat) (ld : List UInt8) (sum q qn : Nat) (w : World) (hfm : fm < 65536) (htp : tp < 65536) (hsum : sum < 65536) (hl2 : ld.length ≤ 1480) (hq : Bk w q 57 #[.int .u16 (fm : Int), .int .u16 (tp : Int), .string (bs ld)]) (hqn : Bk w qn 3 #[.int .i64 (8 + (ld.length : Int))]) :
    Calls Tryz.prog 250 #[.int .u16 (sum : Int), .pointer (some ⟨q, 0, none⟩), .pointer (some ⟨qn, 0, none⟩)] w (fun e w' => e = .returned (.string (bs (udpWith fm tp ld sum))) ∧ Fr noB w w') := by
  have hql := hq.lt
  have hqnl := hqn.lt
  have hpa := hq.alloc (.cells #[.slice none 0 0] 226)
  have hpn := hqn.alloc (.cells #[.slice none 0 0] 226)
  have hbw := Bk.new w 226 #[.slice none 0 0]
  have hf0 : Fr noB w (w.alloc (.cells #[.slice none 0 0] 226)) := (Fr.refl _ _).alloc _
  have hsz : (w.alloc (.cells #[.slice none 0 0] 226)).heap.size = w.heap.size + 1 := by simp
  go_enter Tryz.func250, Tryz.ntmps250
  go_upto_region 2 with fail
  generalize w.alloc (.cells #[.slice none 0 0] 226) = w1 at *
  have hwr0 := Wr.zero hbw
  obtain ⟨lst, Q0, Q1, Q2⟩ : ∃ lst : Nat → List UInt8, Hid (lst 0 = ([] : List UInt8)) ∧ Hid (lst 1 = lst 0 ++ bigs 2 [(fm : Int), (tp : Int), (8 + (ld.length : Int)), (sum : Int)]) ∧ Hid (lst 2 = lst 1 ++ List.flatten [ld]) := by
    exact ⟨fun k => match k with | 0 => ([] : List UInt8) | 1 => (([] : List UInt8) ++ bigs 2 [(fm : Int), (tp : Int), (8 + (ld.length : Int)), (sum : Int)]) | _ => ((([] : List UInt8) ++ bigs 2 [(fm : Int), (tp : Int), (8 + (ld.length : Int)), (sum : Int)]) ++ List.flatten [ld]), rfl, rfl, rfl⟩
  have N0 : Hid ((lst 0).length ≤ 0) := by unfold Hid; rw [Q0.out]; simp
  have N1 : Hid ((lst 1).length ≤ 0 + (8)) := by have h0 := N0.out; have h1 : ((bigs 2 [(fm : Int), (tp : Int), (8 + (ld.length : Int)), (sum : Int)] : List UInt8)).length ≤ 8 := (by simp [bigs_length, macB, big_length] <;> omega); unfold Hid; rw [Q1.out, List.length_append]; omega
  have N2 : Hid ((lst 2).length ≤ 0 + (8) + ((ld).length)) := by have h0 := N1.out; have h1 : ((List.flatten [ld] : List UInt8)).length ≤ (ld).length := (by simp [bigs_length, macB, big_length] <;> omega); unfold Hid; rw [Q2.out, List.length_append]; omega
  obtain ⟨V, hV⟩ : ∃ V : Nat → Value, V = (fun j => match j with | 0 => .pointer (some ⟨w.heap.size, 0, none⟩) | 1 => .pointer (some ⟨q, 0, none⟩) | 2 => .int .u16 (fm : Int) | 3 => .pointer (some ⟨q, 1, none⟩) | 4 => .int .u16 (tp : Int) | 5 => .int .i64 (8 + (ld.length : Int)) | 6 => .int .u16 (8 + (ld.length : Int)) | 7 => .int .u16 (sum : Int) | 9 => .pointer (some ⟨w.heap.size, 0, none⟩) | 10 => .pointer (some ⟨q, 2, none⟩) | 11 => .string (bs ld) | 13 => .pointer (some ⟨w.heap.size, 0, none⟩) | 14 => .string (bs (lst 2)) | 15 => .string (bs (lst 2)) | _ => undef) := ⟨_, rfl⟩
  have v0 : V 0 = .pointer (some ⟨w.heap.size, 0, none⟩) := congrFun hV 0
  have v1 : V 1 = .pointer (some ⟨q, 0, none⟩) := congrFun hV 1
  have v2 : V 2 = .int .u16 (fm : Int) := congrFun hV 2
  have v3 : V 3 = .pointer (some ⟨q, 1, none⟩) := congrFun hV 3
  have v4 : V 4 = .int .u16 (tp : Int) := congrFun hV 4
  have v5 : V 5 = .int .i64 (8 + (ld.length : Int)) := congrFun hV 5
  have v6 : V 6 = .int .u16 (8 + (ld.length : Int)) := congrFun hV 6
  have v7 : V 7 = .int .u16 (sum : Int) := congrFun hV 7
  have v9 : V 9 = .pointer (some ⟨w.heap.size, 0, none⟩) := congrFun hV 9
  have v10 : V 10 = .pointer (some ⟨q, 2, none⟩) := congrFun hV 10
  have v11 : V 11 = .string (bs ld) := congrFun hV 11
  have v13 : V 13 = .pointer (some ⟨w.heap.size, 0, none⟩) := congrFun hV 13
  have v14 : V 14 = .string (bs (lst 2)) := congrFun hV 14
  have v15 : V 15 = .string (bs (lst 2)) := congrFun hV 15
  clear hV
  refine wp_region_ssau (by kernel_rfl) (by kernel_rfl) (by kernel_rfl)
    (fun u => ⟨#[.int .u16 (sum : Int), .pointer (some ⟨q, 0, none⟩), .pointer (some ⟨qn, 0, none⟩), undef, u 15, .pointer (some ⟨w.heap.size, 0, none⟩), .agg #[.slice none 0 0], .pointer (some ⟨w.heap.size, 0, none⟩), u 0, u 1, u 2, u 3, u 4, u 5, u 6, u 7, u 8, u 9, u 10, u 11, u 12, u 13, u 14], []⟩)
    (fun j v w3 => if j = 8 then True else if j = 12 then True else v = V j)
    (fun L u w3 => ∃ (c : Nat) (A : Option Addr), (L 9 = decide (0 < c) ∧ L 13 = decide (1 < c)) ∧ c ≤ 2 ∧ Chn w1 w.heap.size w1.heap.size A (lst c) w3 ∧ AlS (L 8) (u 8) 4 47 #[.int .u16 (fm : Int), .int .u16 (tp : Int), .int .u16 (8 + (ld.length : Int)), .int .u16 (sum : Int)] w1.heap.size A w3 ∧ AlS (L 12) (u 12) 1 9 #[.string (bs ld)] w1.heap.size A w3) (fun j => if j = 15 then .string ⟨#[]⟩ else undef) ⟨0, none, ⟨rfl, rfl⟩, by omega, by rw [Q0.out]; exact Chn.start hwr0 rfl, AlS.false, AlS.false⟩ ?_ ?_
  · rintro L u w3 i o hG hΦ ho hL hd K hK
    match i, ho with
    | 0, ho =>
      simp at ho; subst ho
      clear hΦ hd
      go_simp
      exact hK _ _ v0.symm hG (fun _ _ _ h => h)
    | 1, ho =>
      simp at ho; subst ho
      clear hΦ hd
      go_simp
      exact hK _ _ v1.symm hG (fun _ _ _ h => h)
    | 2, ho =>
      simp at ho; subst ho
      have hu1 : u 1 = V 1 := hΦ 1 (hd ⟨1, .data⟩ (by simp) (by rfl))
      rw [v1] at hu1
      clear hΦ hd
      obtain ⟨c, A, ⟨e0, e1⟩, hcn, hch, s8, s12⟩ := hG
      have hx : ∃ x, u = (upd x 1 (.pointer (some ⟨q, 0, none⟩))) := ⟨u, by rw [← upd_self hu1]⟩
      clear hu1
      obtain ⟨x, rfl⟩ := hx
      simp only [upd, reduceIte, Nat.reduceEqDiff]
      have hc0 := ((hpa).keep hch.fr (by unfold oneB; omega)).cells
      go_simp
      exact hK _ _ v2.symm ⟨c, A, ⟨e0, e1⟩, hcn, hch, s8, s12⟩ (fun _ _ _ h => h)
    | 3, ho =>
      simp at ho; subst ho
      clear hΦ hd
      go_simp
      exact hK _ _ v3.symm hG (fun _ _ _ h => h)
    | 4, ho =>
      simp at ho; subst ho
      have hu3 : u 3 = V 3 := hΦ 3 (hd ⟨3, .data⟩ (by simp) (by rfl))
      rw [v3] at hu3
      clear hΦ hd
      obtain ⟨c, A, ⟨e0, e1⟩, hcn, hch, s8, s12⟩ := hG
      have hx : ∃ x, u = (upd x 3 (.pointer (some ⟨q, 1, none⟩))) := ⟨u, by rw [← upd_self hu3]⟩
      clear hu3
      obtain ⟨x, rfl⟩ := hx
      simp only [upd, reduceIte, Nat.reduceEqDiff]
      have hc0 := ((hpa).keep hch.fr (by unfold oneB; omega)).cells
      go_simp
      exact hK _ _ v4.symm ⟨c, A, ⟨e0, e1⟩, hcn, hch, s8, s12⟩ (fun _ _ _ h => h)
    | 5, ho =>
      simp at ho; subst ho
      clear hΦ hd
      obtain ⟨c, A, ⟨e0, e1⟩, hcn, hch, s8, s12⟩ := hG
      have hc0 := ((hpn).keep hch.fr (by unfold oneB; omega)).cells
      go_simp
      exact hK _ _ v5.symm ⟨c, A, ⟨e0, e1⟩, hcn, hch, s8, s12⟩ (fun _ _ _ h => h)
    | 6, ho =>
      simp at ho; subst ho
      have hu5 : u 5 = V 5 := hΦ 5 (hd ⟨5, .data⟩ (by simp) (by rfl))
      rw [v5] at hu5
      clear hΦ hd
      have hx : ∃ x, u = (upd x 5 (.int .i64 (8 + (ld.length : Int)))) := ⟨u, by rw [← upd_self hu5]⟩
      clear hu5
      obtain ⟨x, rfl⟩ := hx
      simp only [upd, reduceIte, Nat.reduceEqDiff]
      have e7 : IntKind.u16.wrap (8 + (ld.length : Int)) = 8 + (ld.length : Int) := by rw [IntKind.wrap_u16]; omega
      have e7' : (8 + (ld.length : Int)) % 65536 = 8 + (ld.length : Int) := by omega
      go_simp
      exact hK _ _ v6.symm hG (fun _ _ _ h => h)
    | 7, ho =>
      simp at ho; subst ho
      clear hΦ hd
      go_simp
      exact hK _ _ v7.symm hG (fun _ _ _ h => h)
    | 8, ho =>
      simp at ho; subst ho
      have hu2 : u 2 = V 2 := hΦ 2 (hd ⟨2, .data⟩ (by simp) (by rfl))
      rw [v2] at hu2
      have hu4 : u 4 = V 4 := hΦ 4 (hd ⟨4, .data⟩ (by simp) (by rfl))
      rw [v4] at hu4
      have hu6 : u 6 = V 6 := hΦ 6 (hd ⟨6, .data⟩ (by simp) (by rfl))
      rw [v6] at hu6
      have hu7 : u 7 = V 7 := hΦ 7 (hd ⟨7, .data⟩ (by simp) (by rfl))
      rw [v7] at hu7
      clear hΦ hd
      obtain ⟨c, A, ⟨e0, e1⟩, hcn, hch, s8, s12⟩ := hG
      have hx : ∃ x, u = (upd (upd (upd (upd x 2 (.int .u16 (fm : Int))) 4 (.int .u16 (tp : Int))) 6 (.int .u16 (8 + (ld.length : Int)))) 7 (.int .u16 (sum : Int))) := ⟨u, by rw [← upd_self hu2, ← upd_self hu4, ← upd_self hu6, ← upd_self hu7]⟩
      clear hu2 hu4 hu6 hu7
      obtain ⟨x, rfl⟩ := hx
      simp only [upd, reduceIte, Nat.reduceEqDiff]
      go_simp
      exact hK _ _ trivial ⟨c, A, ⟨e0, e1⟩, hcn, hch.alloc _, AlS.new hch 4 47 #[.int .u16 (fm : Int), .int .u16 (tp : Int), .int .u16 (8 + (ld.length : Int)), .int .u16 (sum : Int)], AlS.alloc s12 _⟩ (fun _ _ _ h => h)
    | 9, ho =>
      simp at ho; subst ho
      have hu0 : u 0 = V 0 := hΦ 0 (hd ⟨0, .data⟩ (by simp) (by rfl))
      rw [v0] at hu0
      have hl8 : L 8 = true := hd ⟨8, .data⟩ (by simp) (by rfl)
      clear hΦ hd
      obtain ⟨c, A, ⟨e0, e1⟩, hcn, hch, s8, s12⟩ := hG
      have hck : c = 0 := by
        have h1 := hL.symm.trans e0
        simp at h1; omega
      subst hck
      obtain ⟨g8, hg8, hb8, hB8, hn8⟩ := s8 hl8
      have hx : ∃ x, u = (upd (upd x 0 (.pointer (some ⟨w.heap.size, 0, none⟩))) 8 (.slice (some ⟨g8, 0, none⟩) 4 4)) := ⟨u, by rw [← upd_self hu0, ← upd_self hg8]⟩
      clear hu0 hg8
      obtain ⟨x, rfl⟩ := hx
      simp only [upd, reduceIte, Nat.reduceEqDiff]
      go_simp
      refine (wU16 w.heap.size A _ w3 _ 4 4 [(fm : Int), (tp : Int), (8 + (ld.length : Int)), (sum : Int)] hch.wr (SlR.of_bk (n := 4) (size := 1) hb8 (AlS.not hch hB8 hn8) rfl) (by intro x hx; simp at hx; omega) (by omega) (by have := N0.out; first | omega | (simp; omega))).mono ?_
      rintro e w4 ⟨rfl, hw4⟩
      obtain ⟨A', hch', hal⟩ := hch.call hw4
      exact hK _ _ v9.symm ⟨1, A', ⟨rfl, e1⟩, by omega, by rw [Q1.out]; exact hch', hal _ _ _ _ _ s8, hal _ _ _ _ _ s12⟩ (fun _ _ _ h => h)
    | 10, ho =>
      simp at ho; subst ho
      clear hΦ hd
      go_simp
      exact hK _ _ v10.symm hG (fun _ _ _ h => h)
    | 11, ho =>
      simp at ho; subst ho
      have hu10 : u 10 = V 10 := hΦ 10 (hd ⟨10, .data⟩ (by simp) (by rfl))
      rw [v10] at hu10
      clear hΦ hd
      obtain ⟨c, A, ⟨e0, e1⟩, hcn, hch, s8, s12⟩ := hG
      have hx : ∃ x, u = (upd x 10 (.pointer (some ⟨q, 2, none⟩))) := ⟨u, by rw [← upd_self hu10]⟩
      clear hu10
      obtain ⟨x, rfl⟩ := hx
      simp only [upd, reduceIte, Nat.reduceEqDiff]
      have hc0 := ((hpa).keep hch.fr (by unfold oneB; omega)).cells
      go_simp
      exact hK _ _ v11.symm ⟨c, A, ⟨e0, e1⟩, hcn, hch, s8, s12⟩ (fun _ _ _ h => h)
    | 12, ho =>
      simp at ho; subst ho
      have hu11 : u 11 = V 11 := hΦ 11 (hd ⟨11, .data⟩ (by simp) (by rfl))
      rw [v11] at hu11
      clear hΦ hd
      obtain ⟨c, A, ⟨e0, e1⟩, hcn, hch, s8, s12⟩ := hG
      have hx : ∃ x, u = (upd x 11 (.string (bs ld))) := ⟨u, by rw [← upd_self hu11]⟩
      clear hu11
      obtain ⟨x, rfl⟩ := hx
      simp only [upd, reduceIte, Nat.reduceEqDiff]
      go_simp
      exact hK _ _ trivial ⟨c, A, ⟨e0, e1⟩, hcn, hch.alloc _, AlS.alloc s8 _, AlS.new hch 1 9 #[.string (bs ld)]⟩ (fun _ _ _ h => h)
    | 13, ho =>
      simp at ho; subst ho
      have hu9 : u 9 = V 9 := hΦ 9 (hd ⟨9, .data⟩ (by simp) (by rfl))
      rw [v9] at hu9
      have hl12 : L 12 = true := hd ⟨12, .data⟩ (by simp) (by rfl)
      have hlc : L 9 = true := hd ⟨9, .chain⟩ (by simp) (by rfl)
      clear hΦ hd
      obtain ⟨c, A, ⟨e0, e1⟩, hcn, hch, s8, s12⟩ := hG
      have hck : c = 1 := by
        have h1 := hL.symm.trans e1
        have h2 := hlc.symm.trans e0
        simp at h1 h2; omega
      subst hck
      obtain ⟨g12, hg12, hb12, hB12, hn12⟩ := s12 hl12
      have hx : ∃ x, u = (upd (upd x 9 (.pointer (some ⟨w.heap.size, 0, none⟩))) 12 (.slice (some ⟨g12, 0, none⟩) 1 1)) := ⟨u, by rw [← upd_self hu9, ← upd_self hg12]⟩
      clear hu9 hg12
      obtain ⟨x, rfl⟩ := hx
      simp only [upd, reduceIte, Nat.reduceEqDiff]
      go_simp
      refine (wText w.heap.size A _ w3 _ 1 1 [ld] hch.wr (SlR.of_bk (n := 1) (size := 1) hb12 (AlS.not hch hB12 hn12) rfl) (by omega) (by have := N1.out; first | omega | (simp; omega))).mono ?_
      rintro e w4 ⟨rfl, hw4⟩
      obtain ⟨A', hch', hal⟩ := hch.call hw4
      exact hK _ _ v13.symm ⟨2, A', ⟨e0, rfl⟩, by omega, by rw [Q2.out]; exact hch', hal _ _ _ _ _ s8, hal _ _ _ _ _ s12⟩ (fun _ _ _ h => h)
    | 14, ho =>
      simp at ho; subst ho
      have hu13 : u 13 = V 13 := hΦ 13 (hd ⟨13, .data⟩ (by simp) (by rfl))
      rw [v13] at hu13
      have hlc : L 13 = true := hd ⟨13, .chain⟩ (by simp) (by rfl)
      clear hΦ hd
      obtain ⟨c, A, ⟨e0, e1⟩, hcn, hch, s8, s12⟩ := hG
      have hck : c = 2 := by
        have h2 := hlc.symm.trans e1
        simp at h2; omega
      subst hck
      have hx : ∃ x, u = (upd x 13 (.pointer (some ⟨w.heap.size, 0, none⟩))) := ⟨u, by rw [← upd_self hu13]⟩
      clear hu13
      obtain ⟨x, rfl⟩ := hx
      simp only [upd, reduceIte, Nat.reduceEqDiff]
      go_simp
      refine (wString w.heap.size _ _ _ hch.wr).mono ?_
      rintro e w4 ⟨rfl, rfl⟩
      exact hK _ _ v14.symm ⟨2, A, ⟨e0, e1⟩, hcn, hch, s8, s12⟩ (fun _ _ _ h => h)
    | 15, ho =>
      simp at ho; subst ho
      have hu14 : u 14 = V 14 := hΦ 14 (hd ⟨14, .data⟩ (by simp) (by rfl))
      rw [v14] at hu14
      clear hΦ hd
      have hx : ∃ x, u = (upd x 14 (.string (bs (lst 2)))) := ⟨u, by rw [← upd_self hu14]⟩
      clear hu14
      obtain ⟨x, rfl⟩ := hx
      simp only [upd, reduceIte, Nat.reduceEqDiff]
      go_simp
      exact hK _ _ v15.symm hG (fun _ _ _ h => h)
  · rintro u w3 hu L hall hG
    obtain ⟨c, A, ⟨e0, e1⟩, hcn, hch, s8, s12⟩ := hG
    have h15 : u 15 = V 15 := hu 15 (by simp)
    rw [v15] at h15
    clear hu
    rw [h15]
    have hby : lst 2 = udpWith fm tp ld sum := by rw [Q2.out, Q1.out, Q0.out]; exact udp_lst _ _ _ _
    rw [hby]
    have hfr := hf0.trans' hch.fr (fun b hb e => by unfold oneB at e; omega)
    generalize hR : udpWith fm tp ld sum = R at *
    have HR := Lib.hid hR
    clear hR
    go_wp2_with fail
    go_ret
    exact ⟨by rw [HR.out]; rfl, hfr⟩
theorem packetWriteUDP (fm tp fi ti : Nat) (ld : List UInt8) (w : World) (hfm : fm < 65536) (htp : tp < 65536) (hfi : fi < 4294967296) (hti : ti < 4294967296) (hld : ld.length ≤ 4611686018427387000) :
    Calls Tryz.prog 198 #[.agg #[.int .u16 (fm : Int), .int .u16 (tp : Int), .string (bs ld)], .int .u32 (fi : Int), .int .u32 (ti : Int)] w (strPost (wrUDP fm tp fi ti ld) w) := by
  have hpa := (Bk.new w 57 #[.int .u16 (fm : Int), .int .u16 (tp : Int), .string (bs ld)]).alloc (.cells #[.int .i64 (8 + (ld.length : Int))] 3)
  have hpn := Bk.new (w.alloc (.cells #[.int .u16 (fm : Int), .int .u16 (tp : Int), .string (bs ld)] 57)) 3 #[.int .i64 (8 + (ld.length : Int))]
  rw [show (w.alloc (.cells #[.int .u16 (fm : Int), .int .u16 (tp : Int), .string (bs ld)] 57)).heap.size = w.heap.size + 1 by simp] at hpn
  have hpa0 := (Bk.new w 57 #[.int .u16 (fm : Int), .int .u16 (tp : Int), .string (bs ld)]).cells
  have hpn0 := hpn.cells
  have hpa1 := hpa.cells
  have e8 : IntKind.i64.wrap (8 + (ld.length : Int)) = 8 + (ld.length : Int) := IntWalk.i64_in _ (by omega)
  have hmf : ∀ (fn : Fn) (first cap : Array Value) (w : World), (Instr.makeFunc fn first cap).run Tryz.prog w = .ok (.func fn first cap) w := fun _ _ _ _ => rfl
  have hf0 : Fr noB w ((w.alloc (.cells #[.int .u16 (fm : Int), .int .u16 (tp : Int), .string (bs ld)] 57)).alloc (.cells #[.int .i64 (8 + (ld.length : Int))] 3)) := ((Fr.refl _ _).alloc _).alloc _
  go_enter Tryz.func198, Tryz.ntmps198
  by_cases h1 : 1480 < 8 + ld.length
  · have hs : Hid (wrUDP fm tp fi ti ld = ([], 7)) := by unfold Hid wrUDP; rw [if_pos h1]
    have b1 : 1480 < 8 + (ld.length : Int) := by omega
    clear h1
    go_wp2_with fail
    go_ret2
    exact ⟨by rw [hs.out]; rfl, hf0⟩
  have b1 : ¬ 1480 < 8 + (ld.length : Int) := by omega
  have hs : Hid (wrUDP fm tp fi ti ld = (udpWith fm tp ld (udpSum fm tp fi ti ld), 0)) := by unfold Hid wrUDP; rw [if_neg h1]
  have hl2 : ld.length ≤ 1480 := by omega
  clear h1
  go_upto_region 4 with fail
  go_cut [9] from 11 to 17 (fun q wx => q = .func (.func 250) #[] #[.pointer (some ⟨w.heap.size, 0, none⟩), .pointer (some ⟨(w.heap.size + 1), 0, none⟩)] ∧ wx = (w.alloc (.cells #[.int .u16 (fm : Int), .int .u16 (tp : Int), .string (bs ld)] 57)).alloc (.cells #[.int .i64 (8 + (ld.length : Int))] 3))
  case first =>
    go_wp2_with fail
    go_meet
    case rel => exact ⟨rfl, rfl⟩
  case rest =>
  obtain ⟨rfl, rfl⟩ := hcut
  clear hpa0 hpn0 hpa1
  have Lld := Lib.hid hl2
  go_upto_region 5 with fail
  generalize (w.alloc (.cells #[.int .u16 (fm : Int), .int .u16 (tp : Int), .string (bs ld)] 57)).alloc (.cells #[.int .i64 (8 + (ld.length : Int))] 3) = w1 at *
  go_cut [10] from 11 to 25 (fun a wx => a = .int .u16 (udpSum0 fm tp fi ti ld : Int) ∧ Fr noB w wx ∧ Bk wx w.heap.size 57 #[.int .u16 (fm : Int), .int .u16 (tp : Int), .string (bs ld)] ∧ Bk wx (w.heap.size + 1) 3 #[.int .i64 (8 + (ld.length : Int))])
  case first =>
    obtain ⟨x1, Hx1⟩ : ∃ s : List UInt8, Hid (s = besideB fi ti (8 + ld.length)) := ⟨besideB fi ti (8 + ld.length), Lib.hid rfl⟩
    obtain ⟨x2, Hx2⟩ : ∃ s : List UInt8, Hid (s = udpWith fm tp ld 0) := ⟨udpWith fm tp ld 0, Lib.hid rfl⟩
    have Lx1 : Hid (x1.length ≤ 12) := by have lld := Lld.out; unfold Hid; rw [Hx1.out]; first | (rw [beside_length]; omega) | (rw [udpA_length]; omega) | (rw [udpWith_length]; omega) | (simp [big_length, macB, bigs_length] <;> omega)
    have Lx2 : Hid (x2.length ≤ 1488) := by have lld := Lld.out; have l_x1 := Lx1.out; unfold Hid; rw [Hx2.out]; first | (rw [beside_length]; omega) | (rw [udpA_length]; omega) | (rw [udpWith_length]; omega) | (simp [big_length, macB, bigs_length] <;> omega)
    obtain ⟨V, hV⟩ : ∃ V : Nat → Value, V = (fun j => match j with | 0 => .int .u32 (fi : Int) | 1 => .int .u32 (ti : Int) | 2 => .int .i64 (8 + (ld.length : Int)) | 3 => .string (bs x1) | 4 => .func (.func 250) #[] #[.pointer (some ⟨w.heap.size, 0, none⟩), .pointer (some ⟨(w.heap.size + 1), 0, none⟩)] | 5 => .string (bs x2) | 7 => .int .u16 (check (x1 ++ x2) : Int) | 8 => .int .u16 (check (x1 ++ x2) : Int) | _ => undef) := ⟨_, rfl⟩
    have v0 : V 0 = .int .u32 (fi : Int) := congrFun hV 0
    have v1 : V 1 = .int .u32 (ti : Int) := congrFun hV 1
    have v2 : V 2 = .int .i64 (8 + (ld.length : Int)) := congrFun hV 2
    have v3 : V 3 = .string (bs x1) := congrFun hV 3
    have v4 : V 4 = .func (.func 250) #[] #[.pointer (some ⟨w.heap.size, 0, none⟩), .pointer (some ⟨(w.heap.size + 1), 0, none⟩)] := congrFun hV 4
    have v5 : V 5 = .string (bs x2) := congrFun hV 5
    have v7 : V 7 = .int .u16 (check (x1 ++ x2) : Int) := congrFun hV 7
    have v8 : V 8 = .int .u16 (check (x1 ++ x2) : Int) := congrFun hV 8
    clear hV
    refine wp_region_ssau_plain (by kernel_rfl) (by kernel_rfl) (by kernel_rfl)
      (fun u => ⟨#[.agg #[.int .u16 (fm : Int), .int .u16 (tp : Int), .string (bs ld)], .int .u32 (fi : Int), .int .u32 (ti : Int), .pointer (some ⟨w.heap.size, 0, none⟩), undef, undef, .string ⟨#[]⟩, .int .i64 0, .pointer (some ⟨(w.heap.size + 1), 0, none⟩), .func (.func 250) #[] #[.pointer (some ⟨w.heap.size, 0, none⟩), .pointer (some ⟨(w.heap.size + 1), 0, none⟩)], u 8, u11, u12, u13, u14, u15, u16, u17, u 0, u 1, u 2, u 3, u 4, u 5, u 6, u 7, undef, undef, undef, undef, undef], []⟩)
      (fun j v w3 => if j = 6 then True else v = V j)
      (fun L u w3 => Fr noB w1 w3 ∧ AlS (L 6) (u 6) 2 9 #[.string (bs x1), .string (bs x2)] 0 none w3) (fun j => undef) ⟨(Fr.refl _ _), AlS.false⟩ ?_ ?_
    · rintro L u w3 i o hG hΦ ho hL hd K hK
      match i, ho with
      | 0, ho =>
        simp at ho; subst ho
        clear hΦ hd
        go_simp
        exact hK _ _ v0.symm hG (fun _ _ _ h => h)
      | 1, ho =>
        simp at ho; subst ho
        clear hΦ hd
        go_simp
        exact hK _ _ v1.symm hG (fun _ _ _ h => h)
      | 2, ho =>
        simp at ho; subst ho
        clear hΦ hd
        obtain ⟨hG0, s6⟩ := hG
        have hc0 := ((hpn).keep hG0 (fun x => x)).cells
        go_simp
        exact hK _ _ v2.symm ⟨hG0, s6⟩ (fun _ _ _ h => h)
      | 3, ho =>
        simp at ho; subst ho
        have hu0 : u 0 = V 0 := hΦ 0 (hd ⟨0, .data⟩ (by simp) (by rfl))
        rw [v0] at hu0
        have hu1 : u 1 = V 1 := hΦ 1 (hd ⟨1, .data⟩ (by simp) (by rfl))
        rw [v1] at hu1
        have hu2 : u 2 = V 2 := hΦ 2 (hd ⟨2, .data⟩ (by simp) (by rfl))
        rw [v2] at hu2
        clear hΦ hd
        obtain ⟨hG0, s6⟩ := hG
        have hx : ∃ x, u = (upd (upd (upd x 0 (.int .u32 (fi : Int))) 1 (.int .u32 (ti : Int))) 2 (.int .i64 (8 + (ld.length : Int)))) := ⟨u, by rw [← upd_self hu0, ← upd_self hu1, ← upd_self hu2]⟩
        clear hu0 hu1 hu2
        obtain ⟨x, rfl⟩ := hx
        simp only [upd, reduceIte, Nat.reduceEqDiff]
        go_simp
        refine (pseudoFn fi ti (8 + (ld.length : Int)) w3 hfi hti (by omega) (by omega)).mono ?_
        rintro e w4 ⟨rfl, hf4⟩
        rw [show (8 + (ld.length : Int)).toNat = 8 + ld.length by omega, ← Hx1.out]
        exact hK _ _ v3.symm ⟨(hG0.none hf4), AlS.quiet s6 hf4⟩ (fun _ _ _ h => h)
      | 4, ho =>
        simp at ho; subst ho
        clear hΦ hd
        go_simp
        exact hK _ _ v4.symm hG (fun _ _ _ h => h)
      | 5, ho =>
        simp at ho; subst ho
        have hu4 : u 4 = V 4 := hΦ 4 (hd ⟨4, .data⟩ (by simp) (by rfl))
        rw [v4] at hu4
        clear hΦ hd
        obtain ⟨hG0, s6⟩ := hG
        have hx : ∃ x, u = (upd x 4 (.func (.func 250) #[] #[.pointer (some ⟨w.heap.size, 0, none⟩), .pointer (some ⟨(w.heap.size + 1), 0, none⟩)])) := ⟨u, by rw [← upd_self hu4]⟩
        clear hu4
        obtain ⟨x, rfl⟩ := hx
        simp only [upd, reduceIte, Nat.reduceEqDiff]
        go_simp
        refine (udpWithFn fm tp ld 0 w.heap.size (w.heap.size + 1) w3 hfm htp (by omega) hl2 (hpa.keep hG0 (fun x => x)) (hpn.keep hG0 (fun x => x))).mono ?_
        rintro e w4 ⟨rfl, hf4⟩
        rw [← Hx2.out]
        exact hK _ _ v5.symm ⟨(hG0.none hf4), AlS.quiet s6 hf4⟩ (fun _ _ _ h => h)
      | 6, ho =>
        simp at ho; subst ho
        have hu3 : u 3 = V 3 := hΦ 3 (hd ⟨3, .data⟩ (by simp) (by rfl))
        rw [v3] at hu3
        have hu5 : u 5 = V 5 := hΦ 5 (hd ⟨5, .data⟩ (by simp) (by rfl))
        rw [v5] at hu5
        clear hΦ hd
        obtain ⟨hG0, s6⟩ := hG
        have hx : ∃ x, u = (upd (upd x 3 (.string (bs x1))) 5 (.string (bs x2))) := ⟨u, by rw [← upd_self hu3, ← upd_self hu5]⟩
        clear hu3 hu5
        obtain ⟨x, rfl⟩ := hx
        simp only [upd, reduceIte, Nat.reduceEqDiff]
        go_simp
        exact hK _ _ trivial ⟨(hG0.alloc _), AlS.new0 w3 2 9 #[.string (bs x1), .string (bs x2)]⟩ (fun _ _ _ h => h)
      | 7, ho =>
        simp at ho; subst ho
        have hl6 : L 6 = true := hd ⟨6, .data⟩ (by simp) (by rfl)
        clear hΦ hd
        obtain ⟨hG0, s6⟩ := hG
        obtain ⟨g6, hg6, hb6, -, -⟩ := s6 hl6
        have hx : ∃ x, u = (upd x 6 (.slice (some ⟨g6, 0, none⟩) 2 2)) := ⟨u, by rw [← upd_self hg6]⟩
        clear hg6
        obtain ⟨x, rfl⟩ := hx
        simp only [upd, reduceIte, Nat.reduceEqDiff]
        go_simp
        refine (hashCheck_two _ 2 x1 x2 w3 (SlR.of_bk (n := 2) (size := 1) hb6 (fun x => x) rfl) (by have := Lx1.out; omega) (by have := Lx2.out; omega)).mono ?_
        rintro e w4 ⟨rfl, rfl⟩
        exact hK _ _ v7.symm ⟨hG0, s6⟩ (fun _ _ _ h => h)
      | 8, ho =>
        simp at ho; subst ho
        have hu7 : u 7 = V 7 := hΦ 7 (hd ⟨7, .data⟩ (by simp) (by rfl))
        rw [v7] at hu7
        clear hΦ hd
        have hx : ∃ x, u = (upd x 7 (.int .u16 (check (x1 ++ x2) : Int))) := ⟨u, by rw [← upd_self hu7]⟩
        clear hu7
        obtain ⟨x, rfl⟩ := hx
        simp only [upd, reduceIte, Nat.reduceEqDiff]
        go_simp
        exact hK _ _ v8.symm hG (fun _ _ _ h => h)
    · rintro u w3 hu L hall hG
      obtain ⟨hG0, s6⟩ := hG
      have h8 : u 8 = V 8 := hu 8 (by simp)
      rw [v8] at h8
      clear hu hall
      rw [h8]
      have hA : check (x1 ++ x2) = udpSum0 fm tp fi ti ld := by rw [Hx1.out, Hx2.out]; exact udpSum0_eq _ _ _ _ _
      rw [hA]
      generalize udpSum0 fm tp fi ti ld = R at *
      go_wp2_with fail
      go_meet
      case rel => exact ⟨rfl, hf0.none hG0, hpa.keep hG0 (fun x => x), hpn.keep hG0 (fun x => x)⟩
  case rest =>
  obtain ⟨rfl, hf5, hpa5, hpn5⟩ := hcut
  clear hf0 hpa hpn w1
  have hu0 : Hid (udpSum fm tp fi ti ld = if udpSum0 fm tp fi ti ld = 0 then 65535 else udpSum0 fm tp fi ti ld) := rfl
  generalize udpSum0 fm tp fi ti ld = s0 at *
  obtain ⟨sm, Hsm⟩ : ∃ sm, Hid (sm = udpSum fm tp fi ti ld) := ⟨_, Lib.hid rfl⟩
  have Lsm : Hid (sm ≤ 65535) := by unfold Hid; rw [Hsm.out]; exact udpSum_le _ _ _ _ _
  go_upto_if 27 with fail
  go_cut [10] from 11 to 27 (fun a wx => a = .int .u16 (sm : Int) ∧ wx = wc)
  case first =>
    by_cases h0 : s0 = 0
    · have b0 : ((s0 : Int) == 0) = true := by simp; omega
      have hsm : Hid (sm = 65535) := by unfold Hid; rw [Hsm.out, hu0.out, if_pos h0]
      clear h0
      rw [b0]
      go_wp2_with fail
      go_meet
      case rel => exact ⟨by rw [hsm.out]; rfl, rfl⟩
    · have b0 : ((s0 : Int) == 0) = false := by simp; omega
      have hsm : Hid (sm = s0) := by unfold Hid; rw [Hsm.out, hu0.out, if_neg h0]
      clear h0
      rw [b0]
      go_wp2_with fail
      go_meet
      case rel => exact ⟨by rw [hsm.out], rfl⟩
  case rest =>
  obtain ⟨rfl, rfl⟩ := hcut
  obtain ⟨w1, rfl⟩ : ∃ w1, w1 = wc := ⟨_, rfl⟩
  have hf0 := hf5
  have hpa := hpa5
  have hpn := hpn5
  clear hf5 hpa5 hpn5
  go_upto_region 8 with fail
  obtain ⟨x3, Hx3⟩ : ∃ s : List UInt8, Hid (s = udpWith fm tp ld sm) := ⟨udpWith fm tp ld sm, Lib.hid rfl⟩
  have Lx3 : Hid (x3.length ≤ 1488) := by have lld := Lld.out; unfold Hid; rw [Hx3.out]; first | (rw [beside_length]; omega) | (rw [udpA_length]; omega) | (rw [udpWith_length]; omega) | (simp [big_length, macB, bigs_length] <;> omega)
  obtain ⟨V, hV⟩ : ∃ V : Nat → Value, V = (fun j => match j with | 0 => .func (.func 250) #[] #[.pointer (some ⟨w.heap.size, 0, none⟩), .pointer (some ⟨(w.heap.size + 1), 0, none⟩)] | 1 => .int .u16 (sm : Int) | 2 => .string (bs x3) | 3 => .string (bs x3) | 4 => .int .i64 0 | _ => undef) := ⟨_, rfl⟩
  have v0 : V 0 = .func (.func 250) #[] #[.pointer (some ⟨w.heap.size, 0, none⟩), .pointer (some ⟨(w.heap.size + 1), 0, none⟩)] := congrFun hV 0
  have v1 : V 1 = .int .u16 (sm : Int) := congrFun hV 1
  have v2 : V 2 = .string (bs x3) := congrFun hV 2
  have v3 : V 3 = .string (bs x3) := congrFun hV 3
  have v4 : V 4 = .int .i64 0 := congrFun hV 4
  clear hV
  refine wp_region_ssau_plain (by kernel_rfl) (by kernel_rfl) (by kernel_rfl)
    (fun u => ⟨#[.agg #[.int .u16 (fm : Int), .int .u16 (tp : Int), .string (bs ld)], .int .u32 (fi : Int), .int .u32 (ti : Int), .pointer (some ⟨w.heap.size, 0, none⟩), undef, undef, u 3, u 4, .pointer (some ⟨(w.heap.size + 1), 0, none⟩), .func (.func 250) #[] #[.pointer (some ⟨w.heap.size, 0, none⟩), .pointer (some ⟨(w.heap.size + 1), 0, none⟩)], .int .u16 (sm : Int), u11, u12, u13, u14, u15, u16, u17, u18, u19, u20, u21, u22, u23, u24, u25, u26, u27, u 0, u 1, u 2], []⟩)
    (fun j v w3 => v = V j)
    (fun L u w3 => Fr noB w1 w3) (fun j => if j = 3 then .string ⟨#[]⟩ else if j = 4 then .int .i64 0 else undef) ((Fr.refl _ _)) ?_ ?_
  · rintro L u w3 i o hG hΦ ho hL hd K hK
    match i, ho with
    | 0, ho =>
      simp at ho; subst ho
      clear hΦ hd
      go_simp
      exact hK _ _ v0.symm hG (fun _ _ _ h => h)
    | 1, ho =>
      simp at ho; subst ho
      clear hΦ hd
      go_simp
      exact hK _ _ v1.symm hG (fun _ _ _ h => h)
    | 2, ho =>
      simp at ho; subst ho
      have hu0 : u 0 = V 0 := hΦ 0 (hd ⟨0, .data⟩ (by simp) (by rfl))
      rw [v0] at hu0
      have hu1 : u 1 = V 1 := hΦ 1 (hd ⟨1, .data⟩ (by simp) (by rfl))
      rw [v1] at hu1
      clear hΦ hd
      have hG0 := hG
      have hx : ∃ x, u = (upd (upd x 0 (.func (.func 250) #[] #[.pointer (some ⟨w.heap.size, 0, none⟩), .pointer (some ⟨(w.heap.size + 1), 0, none⟩)])) 1 (.int .u16 (sm : Int))) := ⟨u, by rw [← upd_self hu0, ← upd_self hu1]⟩
      clear hu0 hu1
      obtain ⟨x, rfl⟩ := hx
      simp only [upd, reduceIte, Nat.reduceEqDiff]
      go_simp
      refine (udpWithFn fm tp ld sm w.heap.size (w.heap.size + 1) w3 hfm htp (by have := Lsm.out; omega) hl2 (hpa.keep hG0 (fun x => x)) (hpn.keep hG0 (fun x => x))).mono ?_
      rintro e w4 ⟨rfl, hf4⟩
      rw [← Hx3.out]
      exact hK _ _ v2.symm (hG0.none hf4) (fun _ _ _ h => h)
    | 3, ho =>
      simp at ho; subst ho
      have hu2 : u 2 = V 2 := hΦ 2 (hd ⟨2, .data⟩ (by simp) (by rfl))
      rw [v2] at hu2
      clear hΦ hd
      have hx : ∃ x, u = (upd x 2 (.string (bs x3))) := ⟨u, by rw [← upd_self hu2]⟩
      clear hu2
      obtain ⟨x, rfl⟩ := hx
      simp only [upd, reduceIte, Nat.reduceEqDiff]
      go_simp
      exact hK _ _ v3.symm hG (fun _ _ _ h => h)
    | 4, ho =>
      simp at ho; subst ho
      clear hΦ hd
      go_simp
      exact hK _ _ v4.symm hG (fun _ _ _ h => h)
  · rintro u w3 hu L hall hG
    have hG0 := hG
    have h3 : u 3 = V 3 := hu 3 (by simp)
    rw [v3] at h3
    have h4 : u 4 = V 4 := hu 4 (by simp)
    rw [v4] at h4
    clear hu hall
    rw [h3, h4]
    have hfr := hf0.none hG0
    have hA : x3 = udpWith fm tp ld (udpSum fm tp fi ti ld) := by rw [Hx3.out, Hsm.out]
    rw [hA]
    clear hA
    generalize udpWith fm tp ld (udpSum fm tp fi ti ld) = R at *
    go_wp2_with fail
    go_ret2
    exact ⟨by rw [hs.out]; rfl, hfr⟩
end Go.Proofs.YtcbkaiakdhiloacGreatDoor
namespace Go.Proofs.YtcbkaiakdhiloacGreatDoor
open Go.RowKit Go.Proofs
attribute [local go_sem] bs_size bs_append bs_extract
def chrOk (c : UInt8) : Bool := decide (33 ≤ c.toNat) && decide (c.toNat ≤ 126)
def wordB (l : List UInt8) : Bool := l.all chrOk && decide (0 < l.length)
theorem take_all {l : List UInt8} {i : Nat} {c : UInt8} (h : l[i]? = some c) (ha : (l.take i).all chrOk = true) (hc : chrOk c = true) : (l.take (i + 1)).all chrOk = true := by
  rw [List.take_add_one, h]; simp [List.all_append, ha, hc]
end Go.Proofs.YtcbkaiakdhiloacGreatDoor
namespace Go.Proofs.YtcbkaiakdhiloacGreatDoor
open Go.RowKit Go.Proofs
attribute [local go_sem] bs_size bs_append bs_extract
def lowC (c : UInt8) : UInt8 := if 65 ≤ c.toNat ∧ c.toNat ≤ 90 then c + 32 else c
def lowL (l : List UInt8) : List UInt8 := l.map lowC
end Go.Proofs.YtcbkaiakdhiloacGreatDoor
namespace Go.Proofs.YtcbkaiakdhiloacGreatDoor
structure FldD where
  name : List UInt8
  value : List UInt8
structure TftD where
  op : Nat
  block : Nat
  text : List UInt8
  data : List UInt8
  fs : List FldD
def named (fs : List FldD) (n : List UInt8) : Bool := fs.any fun f => f.name == n
end Go.Proofs.YtcbkaiakdhiloacGreatDoor
namespace Go.Proofs.YtcbkaiakdhiloacGreatDoor
def fldOk (b4 : List FldD) (o : FldD) : Bool := wordB o.name && wordB o.value && (o.name == lowL o.name) && !(named b4 o.name)
def fldW : List FldD → List FldD → Option (List UInt8)
  | _, [] => some []
  | b4, o :: r => if fldOk b4 o then (fldW (b4 ++ [o]) r).map fun t => o.name ++ 0 :: o.value ++ 0 :: t else none
def capT (l : List UInt8) : List UInt8 × Nat := if 1472 < l.length then ([], 7) else (l, 0)
def wrTFTP (d : TftD) : List UInt8 × Nat :=
  if d.op = 1 then if wordB d.text then (match fldW [] d.fs with
    | none => ([], 2)
    | some t => capT (big 2 d.op ++ d.text ++ [0, 111, 99, 116, 101, 116, 0] ++ t)) else ([], 2)
  else if d.op = 6 then (match fldW [] d.fs with
    | none => ([], 2)
    | some t => capT (big 2 d.op ++ t))
  else if d.op = 3 then if 1024 < d.data.length then ([], 7) else capT (big 2 d.op ++ big 2 d.block ++ d.data)
  else if d.op = 4 then capT (big 2 d.op ++ big 2 d.block)
  else if d.op = 5 then if d.text.contains 0 then ([], 2) else capT (big 2 d.op ++ big 2 d.block ++ d.text ++ [0])
  else ([], 2)
end Go.Proofs.YtcbkaiakdhiloacGreatDoor
namespace Go.Proofs.YtcbkaiakdhiloacGreatDoor
open Go.RowKit Go.Proofs
attribute [local go_sem] bs_size bs_append bs_extract
def faultC (e : Int) : List PanicEntry := [{ v := .iface 219 (.agg #[.int .i64 e]), recovered := false }]
def Rd (w : World) (p : Nat) (l : List UInt8) : Prop := Bk w p 221 #[.string (bs l)]
def Took (p : Nat) (l : List UInt8) (n : Nat) (w : World) (v : Value) (e : Ending) (w' : World) : Prop :=
  (n ≤ l.length ∧ e = .returned v ∧ Rd w' p (l.drop n) ∧ Fr (oneB p) w w') ∨ (l.length < n ∧ e = .panicked (faultC 1) ∧ Fr (oneB p) w w')
theorem fail_any (e : Int) (w : World) : Calls Tryz.prog 144 #[.int .i64 e] w fun x w' => x = .panicked (faultC e) ∧ w = w' := by
  go_enter Tryz.func144, Tryz.ntmps144
  go_wp2
  exact ⟨rfl, rfl, rfl⟩
theorem must_yes (e : Int) (w : World) : Calls Tryz.prog 85 #[.bool true, .int .i64 e] w fun x w' => x = .returned (.tuple #[]) ∧ w = w' := by
  go_enter Tryz.func85, Tryz.ntmps85
  go_wp2_with fail
  go_end0
  exact ⟨rfl, rfl⟩
theorem must_no (e : Int) (w : World) : Calls Tryz.prog 85 #[.bool false, .int .i64 e] w fun x w' => x = .panicked (faultC e) ∧ w = w' := by
  go_enter Tryz.func85, Tryz.ntmps85
  go_wp2_with fail
  refine (fail_any e _).mono ?_
  rintro x w1 ⟨rfl, rfl⟩
  exact ⟨rfl, rfl, rfl⟩
def MustPost (b : Bool) (e : Int) (w : World) (x : Ending) (w' : World) : Prop := (b = true ∧ x = .returned (.tuple #[]) ∧ w = w') ∨ (b = false ∧ x = .panicked (faultC e) ∧ w = w')
theorem must_any (b : Bool) (e : Int) (w : World) : Calls Tryz.prog 85 #[.bool b, .int .i64 e] w (MustPost b e w) := by
  cases b
  · exact (must_no e w).mono fun x w' h => .inr ⟨rfl, h⟩
  · exact (must_yes e w).mono fun x w' h => .inl ⟨rfl, h⟩
theorem rTake (n : Nat) (p : Nat) (l : List UInt8) (w : World) (hR : Rd w p l) (hn : n ≤ 9223372036854775807) (hl : l.length ≤ 9223372036854775807) :
    Calls Tryz.prog 93 #[.pointer (some ⟨p, 0, none⟩), .int .i64 n] w (Took p l n w (.string (bs (l.take n)))) := by
  have hc0 : w.cell? ⟨p, 0, none⟩ = some (.string (bs l)) := by simpa using Bk.cell hR 0
  have hf0 := Bk.free hR 0
  by_cases h : n ≤ l.length
  · have hd : decide (n ≤ l.length) = true := by simpa using h
    go_enter Tryz.func93, Tryz.ntmps93
    go_wp2_with fail
    refine (must_yes 1 _).mono ?_
    rintro x w1 ⟨rfl, rfl⟩
    go_wp2_with fail
    go_ret
    refine .inl ⟨h, ?_, ?_, ?_⟩
    · simp
    · have hs := Bk.set hR 0 (.string (bs (l.drop n)))
      simpa [Rd] using hs
    · exact (Fr.refl (oneB p) w).setCell (p := ⟨p, 0, none⟩) (fun _ => rfl) _
  · go_enter Tryz.func93, Tryz.ntmps93
    go_wp2_with fail
    refine (must_no 1 _).mono ?_
    rintro x w1 ⟨rfl, rfl⟩
    exact ⟨rfl, .inr ⟨by omega, rfl, Fr.refl _ _⟩⟩
theorem num_gen : ∀ (l : List UInt8) (a : Nat), l.foldl (fun n b => 256 * n + b.toNat) a < (a + 1) * 256 ^ l.length
  | [], a => by simp
  | b :: r, a => by
    have hb := b.toNat_lt
    have h := num_gen r (256 * a + b.toNat)
    rw [List.foldl_cons, List.length_cons, Nat.pow_succ]
    have h2 : (256 * a + b.toNat + 1) * 256 ^ r.length ≤ ((a + 1) * 256) * 256 ^ r.length := Nat.mul_le_mul_right _ (by omega)
    have h3 : (a + 1) * (256 ^ r.length * 256) = ((a + 1) * 256) * 256 ^ r.length := by rw [Nat.mul_comm (256 ^ r.length), Nat.mul_assoc]
    omega
theorem num_le (l : List UInt8) : num l < 256 ^ l.length := by
  have h := num_gen l 0; simpa [num] using h
theorem or_byte (x : Nat) (b : UInt8) (hx : x < 16777216) : bits .or .u32 ((x : Int) * 256) ((b.toNat : Int) % 4294967296) = ((256 * x + b.toNat : Nat) : Int) := by
  have hb := b.toNat_lt
  rw [show (x : Int) * 256 = ((x * 256 : Nat) : Int) by omega, show (b.toNat : Int) % 4294967296 = ((b.toNat : Nat) : Int) by omega, u32_or_nat _ _ (by omega) (by omega),
    nat_join 8 (x * 256) b.toNat (by omega) (by omega)]
  omega
theorem rNum (n : Nat) (p : Nat) (l : List UInt8) (w : World) (hR : Rd w p l) (hn : n ≤ 4) (hl : l.length ≤ 9223372036854775807) :
    Calls Tryz.prog 143 #[.pointer (some ⟨p, 0, none⟩), .int .i64 n] w (Took p l n w (.int .u32 (num (l.take n)))) := by
  have hp := Bk.lt hR
  go_enter Tryz.func143, Tryz.ntmps143
  go_wp2_with fail
  refine (rTake n p l _ hR (by omega) hl).mono ?_
  rintro e w1 (⟨hle, rfl, hR1, hf1⟩ | ⟨hlt, rfl, hf1⟩)
  · have hcv := Go.Lib.run_convert_string_bytes (P := Tryz.prog) w1 9 102 5 (bs (l.take n)) Tryz.underlying9 Tryz.underlying102 Tryz.underlying5
    have hlen : (l.take n).length = n := by rw [List.length_take]; omega
    have hcell : ∀ j, j < n → (Go.Lib.bytesWorld w1 5 (bs (l.take n))).cell? ⟨w1.heap.size, j, none⟩ = some (.int .u8 (((l.take n).getD j 0).toNat : Int)) := by
      intro j hj
      have h := Go.Lib.bytesWorld_cell w1 5 (bs (l.take n)) j (by rw [bs_size]; omega)
      rw [bs_list] at h; exact h
    have hfb : Fr noB w1 (Go.Lib.bytesWorld w1 5 (bs (l.take n))) := by
      refine ⟨rfl, rfl, rfl, ?_, fun k hk _ => Go.Lib.bytesWorld_at_old w1 _ _ k hk⟩
      rw [Go.Lib.bytesWorld_size]; omega
    have Htk : ∀ j, j < n → Hid (num ((l.take n).take (j + 1)) = 256 * num ((l.take n).take j) + ((l.take n).getD j 0).toNat) := by
      intro j hj; unfold Hid
      rw [List.take_succ_eq_append_getElem (by omega), num_snoc]
      simp [List.getD, hlen, hj]
    have Hbd : ∀ j, j < n → num ((l.take n).take j) < 16777216 := by
      intro j hj
      have h := num_le ((l.take n).take j)
      have h2 : ((l.take n).take j).length ≤ 3 := by rw [List.length_take]; omega
      have h3 : 256 ^ ((l.take n).take j).length ≤ 256 ^ 3 := Nat.pow_le_pow_right (by omega) h2
      omega
    have Hl := Lib.hid hlen
    have Hfull : Hid ((l.take n).take n = l.take n) := by unfold Hid; rw [List.take_of_length_le (by omega)]
    have hsz : (bs (l.take n)).size = n := by rw [bs_size]; exact hlen
    clear hlen
    generalize Go.Lib.bytesWorld w1 5 (bs (l.take n)) = w2 at *
    generalize l.take n = t at *
    generalize w1.heap.size = g at *
    go_wp2_with fail
    go_loop [5, 13] (fun x i => ∃ j : Nat, j ≤ n ∧ i = .int .i64 j ∧ x = .int .u32 (num (t.take j) : Int)) (fun _ i => n - (intOf i).toNat)
    case atStart => exact ⟨0, by omega, rfl, rfl⟩
    case round =>
      obtain ⟨j, hj, rfl, rfl⟩ := hrel
      by_cases hlt : j < n
      · have hc := hcell j hlt
        have hbd := Hbd j hlt
        have htk := Htk j hlt
        have hor := or_byte (num (t.take j)) (t.getD j 0) hbd
        clear hcell Hbd Htk
        generalize t.getD j 0 = b at *
        generalize num (t.take j) = x at *
        go_wp2_with fail
        go_round
        case rel => exact ⟨j + 1, by omega, by go_num, by rw [htk.out] <;> go_num⟩
        case measure => simp [intOf]; omega
      · clear hcell Hbd Htk
        go_wp2_with fail
        go_ret
        obtain rfl : j = n := by omega
        rw [Hfull.out]
        exact .inl ⟨hle, rfl, Bk.keep hR1 hfb (fun x => x), hf1.none hfb⟩
  · exact ⟨rfl, .inr ⟨hlt, rfl, hf1⟩⟩
theorem rU8 (p : Nat) (l : List UInt8) (w : World) (hR : Rd w p l) (hl : l.length ≤ 9223372036854775807) :
    Calls Tryz.prog 90 #[.pointer (some ⟨p, 0, none⟩)] w (Took p l 1 w (.int .u8 (num (l.take 1)))) := by
  have hb : num (l.take 1) < 256 := by
    have h := num_le (l.take 1)
    have h2 : (l.take 1).length ≤ 1 := by rw [List.length_take]; omega
    have h3 : 256 ^ (l.take 1).length ≤ 256 ^ 1 := Nat.pow_le_pow_right (by omega) h2
    omega
  go_enter Tryz.func90, Tryz.ntmps90
  go_wp2_with fail
  refine (rNum 1 p l _ hR (by omega) hl).mono ?_
  rintro e w1 (⟨hle, rfl, hR1, hf1⟩ | ⟨hlt, rfl, hf1⟩)
  · generalize num (l.take 1) = x at *
    have hx : IntKind.u8.wrap (x : Int) = x := by rw [IntKind.wrap_u8']; omega
    go_wp2_with fail
    go_ret
    exact .inl ⟨hle, rfl, hR1, hf1⟩
  · exact ⟨rfl, .inr ⟨hlt, rfl, hf1⟩⟩
theorem rU16 (p : Nat) (l : List UInt8) (w : World) (hR : Rd w p l) (hl : l.length ≤ 9223372036854775807) :
    Calls Tryz.prog 84 #[.pointer (some ⟨p, 0, none⟩)] w (Took p l 2 w (.int .u16 (num (l.take 2)))) := by
  have hb : num (l.take 2) < 65536 := by
    have h := num_le (l.take 2)
    have h2 : (l.take 2).length ≤ 2 := by rw [List.length_take]; omega
    have h3 : 256 ^ (l.take 2).length ≤ 256 ^ 2 := Nat.pow_le_pow_right (by omega) h2
    omega
  go_enter Tryz.func84, Tryz.ntmps84
  go_wp2_with fail
  refine (rNum 2 p l _ hR (by omega) hl).mono ?_
  rintro e w1 (⟨hle, rfl, hR1, hf1⟩ | ⟨hlt, rfl, hf1⟩)
  · generalize num (l.take 2) = x at *
    have hx : IntKind.u16.wrap (x : Int) = x := by rw [IntKind.wrap_u16]; omega
    go_wp2_with fail
    go_ret
    exact .inl ⟨hle, rfl, hR1, hf1⟩
  · exact ⟨rfl, .inr ⟨hlt, rfl, hf1⟩⟩
theorem rIP (p : Nat) (l : List UInt8) (w : World) (hR : Rd w p l) (hl : l.length ≤ 9223372036854775807) :
    Calls Tryz.prog 91 #[.pointer (some ⟨p, 0, none⟩)] w (Took p l 4 w (.int .u32 (num (l.take 4)))) := by
  go_enter Tryz.func91, Tryz.ntmps91
  go_wp2_with fail
  refine (rNum 4 p l _ hR (by omega) hl).mono ?_
  rintro e w1 (⟨hle, rfl, hR1, hf1⟩ | ⟨hlt, rfl, hf1⟩)
  · generalize num (l.take 4) = x at *
    go_wp2_with fail
    go_ret
    exact .inl ⟨hle, rfl, hR1, hf1⟩
  · exact ⟨rfl, .inr ⟨hlt, rfl, hf1⟩⟩
theorem rTake_ok (n : Nat) (p : Nat) (l : List UInt8) (w : World) (hR : Rd w p l) (hn : n ≤ l.length) (hl : l.length ≤ 9223372036854775807) :
    Calls Tryz.prog 93 #[.pointer (some ⟨p, 0, none⟩), .int .i64 n] w fun e w' => e = .returned (.string (bs (l.take n))) ∧ Rd w' p (l.drop n) ∧ Fr (oneB p) w w' :=
  (rTake n p l w hR (by omega) hl).mono fun e w' h => by
    rcases h with ⟨_, h⟩ | ⟨h, _⟩
    · exact h
    · omega
theorem rTake_no (n : Nat) (p : Nat) (l : List UInt8) (w : World) (hR : Rd w p l) (hn : l.length < n) (hn2 : n ≤ 9223372036854775807) :
    Calls Tryz.prog 93 #[.pointer (some ⟨p, 0, none⟩), .int .i64 n] w fun e w' => e = .panicked (faultC 1) ∧ Fr (oneB p) w w' :=
  (rTake n p l w hR hn2 (by omega)).mono fun e w' h => by
    rcases h with ⟨h, _⟩ | ⟨_, h⟩
    · omega
    · exact h
def macOf (l : List UInt8) : Mac := (l.getD 0 0, l.getD 1 0, l.getD 2 0, l.getD 3 0, l.getD 4 0, l.getD 5 0)
theorem u8_size (w : World) : (Go.sizeOf 5).run Tryz.prog w = .ok 1 w := by
  obtain ⟨i0, hi0, hz0, hz1, hz2⟩ := info_parts u8_info
  simp [Go.sizeOf, typeInfo, hi0, hz1]
theorem copy6 (w : World) (g : Nat) (t : TypeId) (c0 c1 c2 c3 c4 c5 : Value) (a b c d e f : UInt8) (hb : Bk w g t #[c0, c1, c2, c3, c4, c5]) :
    ∃ w', (Builtin.copy_ #[102, 9] 3 #[.slice (some ⟨g, 0, none⟩) 6 6, .string (bs [a, b, c, d, e, f])]).run Tryz.prog w = .ok (.int .i64 6) w' ∧
      Bk w' g t #[.int .u8 (a.toNat : Int), .int .u8 (b.toNat : Int), .int .u8 (c.toNat : Int), .int .u8 (d.toNat : Int), .int .u8 (e.toNat : Int), .int .u8 (f.toNat : Int)] ∧ Fr (oneB g) w w' := by
  have hz : (bs [a, b, c, d, e, f]).size = 6 := by rw [bs_size]; rfl
  have h := run_copy_string (P := Tryz.prog) w 102 9 3 5 g 0 6 6 (bs [a, b, c, d, e, f]) Tryz.underlying102 u8_size (by rw [hz]; omega)
    (by
      intro j hj; rw [hz] at hj
      have h := hb.cell (0 + j)
      rw [h]
      match j, hj with
      | 0, _ | 1, _ | 2, _ | 3, _ | 4, _ | 5, _ => rfl)
    (fun j _ => hb.free _)
  rw [hz, bs_list] at h
  refine ⟨_, h, ?_, ?_⟩
  · simp only [List.map, World.setCells]
    have h0 := ((((((hb.set 0 (.int .u8 (a.toNat : Int))).set 1 (.int .u8 (b.toNat : Int))).set 2 (.int .u8 (c.toNat : Int))).set 3 (.int .u8 (d.toNat : Int))).set 4 (.int .u8 (e.toNat : Int))).set 5 (.int .u8 (f.toNat : Int)))
    simpa using h0
  · simp only [List.map, World.setCells]
    exact ((((((Fr.refl (oneB g) w).setCell (p := ⟨g, _, none⟩) (fun _ => rfl) _).setCell (p := ⟨g, _, none⟩) (fun _ => rfl) _).setCell (p := ⟨g, _, none⟩) (fun _ => rfl) _).setCell (p := ⟨g, _, none⟩) (fun _ => rfl) _).setCell (p := ⟨g, _, none⟩) (fun _ => rfl) _).setCell (p := ⟨g, _, none⟩) (fun _ => rfl) _
theorem Bk.six {w : World} {g : Nat} {t : TypeId} {c0 c1 c2 c3 c4 c5 : Value} (h : Bk w g t #[c0, c1, c2, c3, c4, c5]) :
    w.cell? ⟨g, 0, none⟩ = some c0 ∧ w.cell? ⟨g, 1, none⟩ = some c1 ∧ w.cell? ⟨g, 2, none⟩ = some c2 ∧ w.cell? ⟨g, 3, none⟩ = some c3 ∧ w.cell? ⟨g, 4, none⟩ = some c4 ∧ w.cell? ⟨g, 5, none⟩ = some c5 :=
  ⟨h.cell 0, h.cell 1, h.cell 2, h.cell 3, h.cell 4, h.cell 5⟩
theorem Bk.free6 {w : World} {g : Nat} {t : TypeId} {cs : Array Value} (h : Bk w g t cs) :
    w.frozen? ⟨g, 0, none⟩ = false ∧ w.frozen? ⟨g, 1, none⟩ = false ∧ w.frozen? ⟨g, 2, none⟩ = false ∧ w.frozen? ⟨g, 3, none⟩ = false ∧ w.frozen? ⟨g, 4, none⟩ = false ∧ w.frozen? ⟨g, 5, none⟩ = false :=
  ⟨h.free 0, h.free 1, h.free 2, h.free 3, h.free 4, h.free 5⟩
def zero6 : Array Value := #[.int .u8 0, .int .u8 0, .int .u8 0, .int .u8 0, .int .u8 0, .int .u8 0]
theorem rMAC (p : Nat) (l : List UInt8) (w : World) (hR : Rd w p l) (hl : l.length ≤ 9223372036854775807) :
    Calls Tryz.prog 83 #[.pointer (some ⟨p, 0, none⟩)] w (Took p l 6 w (macV (macOf l))) := by
  have hp := Bk.lt hR
  by_cases h : 6 ≤ l.length
  · match l, h with
    | a :: b :: c :: d :: e :: f :: r, h =>
      have hR2 : Rd ((w.alloc (.cells zero6 26)).alloc (.cells zero6 26)) p (a :: b :: c :: d :: e :: f :: r) := Bk.alloc (Bk.alloc hR _) _
      have hf2 : Fr noB w ((w.alloc (.cells zero6 26)).alloc (.cells zero6 26)) := ((Fr.refl _ _).alloc _).alloc _
      have hb1 := (Bk.new w 26 zero6).alloc (.cells zero6 26)
      have hb2 := Bk.new (w.alloc (.cells zero6 26)) 26 zero6
      rw [show (w.alloc (.cells zero6 26)).heap.size = w.heap.size + 1 by simp] at hb2
      have hsz2 : ((w.alloc (.cells zero6 26)).alloc (.cells zero6 26)).heap.size = w.heap.size + 2 := by simp
      go_enter Tryz.func83, Tryz.ntmps83
      go_wp2_with fail
      unfold zero6 at hR2 hf2 hb1 hb2 hsz2
      generalize (w.alloc (.cells #[.int .u8 0, .int .u8 0, .int .u8 0, .int .u8 0, .int .u8 0, .int .u8 0] 26)).alloc (.cells #[.int .u8 0, .int .u8 0, .int .u8 0, .int .u8 0, .int .u8 0, .int .u8 0] 26) = w2 at *
      have H2 := Lib.hid hsz2
      clear hsz2
      have HT := Lib.hid (rTake_ok 6 p (a :: b :: c :: d :: e :: f :: r) w2.drew hR2 (by simp) hl)
      go_region_with ((go_at_call 93; refine HT.out.mono ?_; rintro e' w3 ⟨rfl, hR3, hf3⟩; obtain ⟨w4, hcp, hb4, hf4⟩ := copy6 w3 (w.heap.size + 1) _ _ _ _ _ _ _ a b c d e f (hb2.drew.keep hf3 (by unfold oneB; omega))))
      have h0 : Fr (oneB p) w w4 := ((hf2.of_no (oneB p)).drew.trans hf3).trans' hf4 (fun k hk e => by unfold oneB at e; omega)
      have hb1' : Bk w4 w.heap.size 26 #[.int .u8 0, .int .u8 0, .int .u8 0, .int .u8 0, .int .u8 0, .int .u8 0] := by
        refine (hb1.drew.keep hf3 ?_).keep hf4 ?_ <;> unfold oneB <;> omega
      obtain ⟨k0, k1, k2, k3, k4, k5⟩ := hb4.six
      obtain ⟨n0, n1, n2, n3, n4, n5⟩ := hb1'.six
      obtain ⟨z0, z1, z2, z3, z4, z5⟩ := hb1'.free6
      go_wp2_with fail
      refine bodyPost_ret (v := macV (macOf (a :: b :: c :: d :: e :: f :: r))) (by simp [results, Tryz.results83, go_sem, n0, n1, n2, n3, n4, n5, macV, macOf]) rfl ?_
      refine .inl ⟨h, rfl, ?_, ?_⟩
      · have hr4 : Rd w4 p (List.drop 6 (a :: b :: c :: d :: e :: f :: r)) := Bk.keep hR3 hf4 (by unfold oneB; omega)
        have hne : p ≠ w.heap.size := by omega
        exact (((((Bk.far hr4 (p := ⟨w.heap.size, 0, none⟩) hne _).far (p := ⟨w.heap.size, 1, none⟩) hne _).far (p := ⟨w.heap.size, 2, none⟩) hne _).far (p := ⟨w.heap.size, 3, none⟩) hne _).far (p := ⟨w.heap.size, 4, none⟩) hne _).far (p := ⟨w.heap.size, 5, none⟩) hne _
      · exact (((((h0.setCell (p := ⟨w.heap.size, 0, none⟩) (fun x => absurd x (Nat.lt_irrefl _)) _).setCell (p := ⟨w.heap.size, 1, none⟩) (fun x => absurd x (Nat.lt_irrefl _)) _).setCell (p := ⟨w.heap.size, 2, none⟩) (fun x => absurd x (Nat.lt_irrefl _)) _).setCell (p := ⟨w.heap.size, 3, none⟩) (fun x => absurd x (Nat.lt_irrefl _)) _).setCell (p := ⟨w.heap.size, 4, none⟩) (fun x => absurd x (Nat.lt_irrefl _)) _).setCell (p := ⟨w.heap.size, 5, none⟩) (fun x => absurd x (Nat.lt_irrefl _)) _
  · have hR2 : Rd ((w.alloc (.cells zero6 26)).alloc (.cells zero6 26)) p l := Bk.alloc (Bk.alloc hR _) _
    have hf2 : Fr noB w ((w.alloc (.cells zero6 26)).alloc (.cells zero6 26)) := ((Fr.refl _ _).alloc _).alloc _
    go_enter Tryz.func83, Tryz.ntmps83
    go_wp2_with fail
    unfold zero6 at hR2 hf2
    generalize (w.alloc (.cells #[.int .u8 0, .int .u8 0, .int .u8 0, .int .u8 0, .int .u8 0, .int .u8 0] 26)).alloc (.cells #[.int .u8 0, .int .u8 0, .int .u8 0, .int .u8 0, .int .u8 0, .int .u8 0] 26) = w2 at *
    have hend : ∀ w3, Fr (oneB p) w2.drew w3 → Took p l 6 w (macV (macOf l)) (.panicked (faultC 1)) w3 := fun w3 hf3 => .inr ⟨by omega, rfl, (hf2.of_no (oneB p)).drew.trans hf3⟩
    refine wp_region_ssa (by kernel_rfl) (by kernel_rfl) (by kernel_rfl)
      (fun u => ⟨#[.pointer (some ⟨p, 0, none⟩), undef, .pointer (some ⟨w.heap.size, 0, none⟩), .pointer (some ⟨w.heap.size + 1, 0, none⟩), u 0, u 1, u 2, u 3, undef], []⟩)
      (fun j v _ => match j with | 1 => v = .pointer (some ⟨p, 0, none⟩) | _ => True)
      (fun L w3 => L 2 = false ∧ w3 = w2.drew) (fun _ => undef) ⟨rfl, rfl⟩ ?_ ?_
    · rintro L u w3 i o ⟨hL2, rfl⟩ hΦ ho hL hd K hK
      match i, ho with
      | 0, ho =>
        simp at ho; subst ho
        go_simp
        exact hK (.slice (some ⟨w.heap.size + 1, 0, none⟩) 6 6) _ trivial ⟨hL2, rfl⟩ (fun _ _ _ h => h)
      | 1, ho =>
        simp at ho; subst ho
        go_simp
        exact hK (.pointer (some ⟨p, 0, none⟩)) _ rfl ⟨hL2, rfl⟩ (fun _ _ _ h => h)
      | 2, ho =>
        simp at ho; subst ho
        have hL1 : L 1 = true := hd ⟨1, .data⟩ (by simp) (by rfl)
        have hu1 : u 1 = .pointer (some ⟨p, 0, none⟩) := hΦ 1 hL1
        clear hΦ hd hK
        go_simp
        refine (rTake_no 6 p l w2.drew hR2 (by omega) (by omega)).mono ?_
        rintro e w4 ⟨rfl, hf4⟩
        exact ⟨rfl, hend _ hf4⟩
      | 3, ho =>
        simp at ho; subst ho
        have hL1 : L 2 = true := hd ⟨2, .data⟩ (by simp) (by rfl)
        rw [hL2] at hL1; cases hL1
    · rintro u w3 _ L hall ⟨hL2, _⟩
      rw [hall 2 (by simp)] at hL2; cases hL2
/-! The same, with what is read and what is left as letters: so that a long walk's frame stays small. -/
def Cut (l a r : List UInt8) (n : Nat) : Prop := l = a ++ r ∧ a.length = n
def Takes (p : Nat) (l : List UInt8) (n : Nat) (w : World) (v : List UInt8 → Value) (e : Ending) (w' : World) : Prop :=
  (∃ a r, Cut l a r n ∧ r.length ≤ 9223372036854775807 ∧ e = .returned (v a) ∧ Rd w' p r ∧ Fr (oneB p) w w') ∨ (l.length < n ∧ e = .panicked (faultC 1) ∧ Fr (oneB p) w w')
theorem Took.takes {p : Nat} {l : List UInt8} {n : Nat} {w w' : World} {v : List UInt8 → Value} {e : Ending} (hl : l.length ≤ 9223372036854775807) (h : Took p l n w (v (l.take n)) e w') : Takes p l n w v e w' := by
  rcases h with ⟨h1, h2, h3, h4⟩ | h
  · exact .inl ⟨l.take n, l.drop n, ⟨(List.take_append_drop n l).symm, by rw [List.length_take]; omega⟩, by rw [List.length_drop]; omega, h2, h3, h4⟩
  · exact .inr h
theorem tTake (n p : Nat) (l : List UInt8) (w : World) (hR : Rd w p l) (hn : n ≤ 9223372036854775807) (hl : l.length ≤ 9223372036854775807) :
    Calls Tryz.prog 93 #[.pointer (some ⟨p, 0, none⟩), .int .i64 n] w (Takes p l n w fun a => .string (bs a)) :=
  (rTake n p l w hR hn hl).mono fun _ _ h => h.takes hl
theorem tU8 (p : Nat) (l : List UInt8) (w : World) (hR : Rd w p l) (hl : l.length ≤ 9223372036854775807) :
    Calls Tryz.prog 90 #[.pointer (some ⟨p, 0, none⟩)] w (Takes p l 1 w fun a => .int .u8 (num a)) :=
  (rU8 p l w hR hl).mono fun _ _ h => Took.takes (v := fun a => .int .u8 (num a)) hl h
theorem tU16 (p : Nat) (l : List UInt8) (w : World) (hR : Rd w p l) (hl : l.length ≤ 9223372036854775807) :
    Calls Tryz.prog 84 #[.pointer (some ⟨p, 0, none⟩)] w (Takes p l 2 w fun a => .int .u16 (num a)) :=
  (rU16 p l w hR hl).mono fun _ _ h => Took.takes (v := fun a => .int .u16 (num a)) hl h
theorem tIP (p : Nat) (l : List UInt8) (w : World) (hR : Rd w p l) (hl : l.length ≤ 9223372036854775807) :
    Calls Tryz.prog 91 #[.pointer (some ⟨p, 0, none⟩)] w (Takes p l 4 w fun a => .int .u32 (num a)) :=
  (rIP p l w hR hl).mono fun _ _ h => Took.takes (v := fun a => .int .u32 (num a)) hl h
def TakesM (p : Nat) (l : List UInt8) (w : World) (e : Ending) (w' : World) : Prop :=
  (∃ a0 a1 a2 a3 a4 a5 r, Cut l [a0, a1, a2, a3, a4, a5] r 6 ∧ r.length ≤ 9223372036854775807 ∧
    e = .returned (.agg #[.int .u8 (a0.toNat : Int), .int .u8 (a1.toNat : Int), .int .u8 (a2.toNat : Int), .int .u8 (a3.toNat : Int), .int .u8 (a4.toNat : Int), .int .u8 (a5.toNat : Int)]) ∧ Rd w' p r ∧ Fr (oneB p) w w') ∨
  (l.length < 6 ∧ e = .panicked (faultC 1) ∧ Fr (oneB p) w w')
theorem tMAC (p : Nat) (l : List UInt8) (w : World) (hR : Rd w p l) (hl : l.length ≤ 9223372036854775807) :
    Calls Tryz.prog 83 #[.pointer (some ⟨p, 0, none⟩)] w (TakesM p l w) := by
  refine (rMAC p l w hR hl).mono fun e w' h => ?_
  rcases h with ⟨h1, h2, h3, h4⟩ | h
  · match l, h1 with
    | a :: b :: c :: d :: e' :: f :: r, h1 => exact .inl ⟨a, b, c, d, e', f, r, ⟨rfl, rfl⟩, by simp at hl; omega, h2, h3, h4⟩
  · exact .inr h
end Go.Proofs.YtcbkaiakdhiloacGreatDoor
namespace Go.Proofs.YtcbkaiakdhiloacGreatDoor
open Go.RowKit Go.Proofs
def twoB (a b : Nat) : Nat → Prop := fun k => k = a ∨ k = b
theorem fault_is (er : Int) (w : World) : (Instr.typeAssert (.iface 219 (.agg #[.int .i64 er])) 20 219 true).run Tryz.prog w = .ok (.tuple #[.agg #[.int .i64 er], .bool true]) w := by kernel_rfl
def readPost (z : Array Value) (ok : Array Value → Prop) (bad : Int → Prop) (w : World) (e : Ending) (w' : World) : Prop :=
  ((∃ x, ok x ∧ e = .returned (.tuple #[.agg x, .int .i64 0])) ∨ (∃ er, bad er ∧ e = .returned (.tuple #[.agg z, .int .i64 er]))) ∧ Fr noB w w'
def byPost (ok : Array Value → Prop) (bad : Int → Prop) (p : Nat) (w : World) (e : Ending) (w' : World) : Prop :=
  ((∃ x, ok x ∧ e = .returned (.agg x)) ∨ (∃ er, bad er ∧ e = .panicked (faultC er))) ∧ Fr (oneB p) w w'
theorem results_row_int {P : Program} {fn : Func} {p q : Tmp} {ty te : TypeId} (h : fn.results = #[.cell p ty, .cell q te]) (tmps : Array Value) (w : World) (g ge : Nat) (t t2 : TypeId) (cs : Array Value) (n : Int) (d : TypeDesc) (k : IntKind)
    (hp : tmps.getD p undef = .pointer (some ⟨g, 0, none⟩)) (hq : tmps.getD q undef = .pointer (some ⟨ge, 0, none⟩)) (hg : Bk w g t cs) (he : Bk w ge t2 #[.int .i64 n])
    (hu : P.underlying ty = some d) (hd : (match d with | .struct _ | .array _ _ => true | _ => false) = true) (hi : (P.info? ty).map (·.size) = some cs.size) (hue : P.underlying te = some (.int k)) :
    (results fn tmps).run P w = .ok (.tuple #[.agg cs, .int .i64 n]) w := by
  have hp' : tmps[p]?.getD undef = .pointer (some ⟨g, 0, none⟩) := by simpa using hp
  have hq' : tmps[q]?.getD undef = .pointer (some ⟨ge, 0, none⟩) := by simpa using hq
  have hc := he.cells
  have h1 := run_loadVar_row w g t ty cs (0, 0) d hg hu hd hi
  have h2 : (loadVar te ⟨ge, 0, none⟩).run P w = .ok (.int .i64 n) w := by
    have hc0 := hc 0
    simp at hc0
    simp [go_sem, isAgg, run_underlying hue, hc0]
  simp [results, h, hp', hq', asAddr, h1, h2]
theorem results_row_tmp {P : Program} {fn : Func} {p q : Tmp} {ty : TypeId} (h : fn.results = #[.cell p ty, .tmp q]) (tmps : Array Value) (w : World) (g : Nat) (t : TypeId) (cs : Array Value) (v : Value) (d : TypeDesc)
    (hp : tmps.getD p undef = .pointer (some ⟨g, 0, none⟩)) (hq : tmps.getD q undef = v) (hg : Bk w g t cs)
    (hu : P.underlying ty = some d) (hd : (match d with | .struct _ | .array _ _ => true | _ => false) = true) (hi : (P.info? ty).map (·.size) = some cs.size) :
    (results fn tmps).run P w = .ok (.tuple #[.agg cs, v]) w := by
  have hp' : tmps[p]?.getD undef = .pointer (some ⟨g, 0, none⟩) := by simpa using hp
  have hq' : tmps[q]?.getD undef = v := by simpa using hq
  have h1 := run_loadVar_row w g t ty cs (0, 0) d hg hu hd hi
  simp [results, h, hp', hq', asAddr, h1]
end Go.Proofs.YtcbkaiakdhiloacGreatDoor
