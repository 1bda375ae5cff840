/- WriteUDP, the program's and the reference's, and the walk of the law netbootlaw.UDPWrites. -/
import Derived.Test.YtcbkaiakdhiloabPseudo
set_option linter.unusedSimpArgs false
set_option linter.unusedVariables false
namespace Go.Proofs.Ytcbkaiakdhiloab
open Go.RowKit Go.Proofs
attribute [local go_sem] bs_size bs_append bs_sub bs_toList

def udpA (fm tp n : Nat) : List UInt8 := big 2 fm ++ big 2 tp ++ big 2 n
def udpWith (fm tp : Nat) (ld : List UInt8) (sum : Nat) : List UInt8 := udpA fm tp (8 + ld.length) ++ big 2 sum ++ ld
def udpSum0 (fm tp fi ti : Nat) (ld : List UInt8) : Nat := check (besideB fi ti (8 + ld.length) ++ udpA fm tp (8 + ld.length) ++ [0, 0] ++ ld)
def udpSum (fm tp fi ti : Nat) (ld : List UInt8) : Nat := if udpSum0 fm tp fi ti ld = 0 then 65535 else udpSum0 fm tp fi ti ld
def wrUDP (fm tp fi ti : Nat) (ld : List UInt8) : List UInt8 × Nat := if 1480 < 8 + ld.length then ([], 7) else (udpWith fm tp ld (udpSum fm tp fi ti ld), 0)
theorem udpSum_le (fm tp fi ti : Nat) (ld : List UInt8) : udpSum fm tp fi ti ld ≤ 65535 := by
  unfold udpSum; split
  · omega
  · exact check_le _
theorem udpA_length (fm tp n : Nat) : (udpA fm tp n).length = 6 := by simp [udpA, big_length]
theorem udpWith_length (fm tp : Nat) (ld : List UInt8) (sum : Nat) : (udpWith fm tp ld sum).length = 8 + ld.length := by simp [udpWith, udpA, big_length]; omega
theorem udpSum0_eq (fm tp fi ti : Nat) (ld : List UInt8) : check (besideB fi ti (8 + ld.length) ++ udpWith fm tp ld 0) = udpSum0 fm tp fi ti ld := by
  have e : big 2 0 = [0, 0] := by decide
  unfold udpSum0 udpWith; rw [e]; simp only [List.append_assoc]
theorem udp_lst (fm tp sum : Nat) (ld : List UInt8) : ([] ++ bigs 2 [(fm : Int), (tp : Int), (8 + (ld.length : Int)), (sum : Int)] ++ List.flatten [ld]) = udpWith fm tp ld sum := by
  have e1 : (8 + (ld.length : Int)).toNat = 8 + ld.length := by omega
  simp only [bigs, List.flatMap_cons, List.flatMap_nil, List.append_nil, e1, Int.toNat_natCast, List.nil_append, List.flatten_cons, List.flatten_nil, udpWith, udpA, List.append_assoc]

set_option maxRecDepth 20000 in
set_option maxHeartbeats 1000000 in
theorem udpWithFn (fm tp : Nat) (ld : List UInt8) (sum q qn : Nat) (w : World) (hfm : fm < 65536) (htp : tp < 65536) (hsum : sum < 65536) (hl2 : ld.length ≤ 1480) (hq : Bk w q 37 #[.int .u16 (fm : Int), .int .u16 (tp : Int), .string (bs ld)]) (hqn : Bk w qn 3 #[.int .i64 (8 + (ld.length : Int))]) :
    Calls Try.prog 64 #[.int .u16 (sum : Int), .pointer (some ⟨q, 0, none⟩), .pointer (some ⟨qn, 0, none⟩)] w (fun e w' => e = .returned (.string (bs (udpWith fm tp ld sum))) ∧ Fr noB w w') := by
  have hql := hq.lt
  have hqnl := hqn.lt
  have hpa := hq.alloc (.cells #[.slice none 0 0] 73)
  have hpn := hqn.alloc (.cells #[.slice none 0 0] 73)
  have hbw := Bk.new w 73 #[.slice none 0 0]
  have hf0 : Fr noB w (w.alloc (.cells #[.slice none 0 0] 73)) := (Fr.refl _ _).alloc _
  have hsz : (w.alloc (.cells #[.slice none 0 0] 73)).heap.size = w.heap.size + 1 := by simp
  go_enter Try.func64, Try.ntmps64
  go_upto_region 2 with fail
  generalize w.alloc (.cells #[.slice none 0 0] 73) = w1 at *
  have hwr0 := Wr.zero hbw
  obtain ⟨lst, Q0, Q1, Q2⟩ : ∃ lst : Nat → List UInt8, Hid (lst 0 = ([] : List UInt8)) ∧ Hid (lst 1 = lst 0 ++ bigs 2 [(fm : Int), (tp : Int), (8 + (ld.length : Int)), (sum : Int)]) ∧ Hid (lst 2 = lst 1 ++ List.flatten [ld]) := by
    exact ⟨fun k => match k with | 0 => ([] : List UInt8) | 1 => (([] : List UInt8) ++ bigs 2 [(fm : Int), (tp : Int), (8 + (ld.length : Int)), (sum : Int)]) | _ => ((([] : List UInt8) ++ bigs 2 [(fm : Int), (tp : Int), (8 + (ld.length : Int)), (sum : Int)]) ++ List.flatten [ld]), rfl, rfl, rfl⟩
  have N0 : Hid ((lst 0).length ≤ 0) := by unfold Hid; rw [Q0.out]; simp
  have N1 : Hid ((lst 1).length ≤ 0 + (8)) := by have h0 := N0.out; have h1 : ((bigs 2 [(fm : Int), (tp : Int), (8 + (ld.length : Int)), (sum : Int)] : List UInt8)).length ≤ 8 := (by simp [bigs_length, macB, big_length] <;> omega); unfold Hid; rw [Q1.out, List.length_append]; omega
  have N2 : Hid ((lst 2).length ≤ 0 + (8) + ((ld).length)) := by have h0 := N1.out; have h1 : ((List.flatten [ld] : List UInt8)).length ≤ (ld).length := (by simp [bigs_length, macB, big_length] <;> omega); unfold Hid; rw [Q2.out, List.length_append]; omega
  obtain ⟨V, hV⟩ : ∃ V : Nat → Value, V = (fun j => match j with | 0 => .pointer (some ⟨w.heap.size, 0, none⟩) | 1 => .pointer (some ⟨q, 0, none⟩) | 2 => .int .u16 (fm : Int) | 3 => .pointer (some ⟨q, 1, none⟩) | 4 => .int .u16 (tp : Int) | 5 => .int .i64 (8 + (ld.length : Int)) | 6 => .int .u16 (8 + (ld.length : Int)) | 7 => .int .u16 (sum : Int) | 9 => .pointer (some ⟨w.heap.size, 0, none⟩) | 10 => .pointer (some ⟨q, 2, none⟩) | 11 => .string (bs ld) | 13 => .pointer (some ⟨w.heap.size, 0, none⟩) | 14 => .string (bs (lst 2)) | 15 => .string (bs (lst 2)) | _ => undef) := ⟨_, rfl⟩
  have v0 : V 0 = .pointer (some ⟨w.heap.size, 0, none⟩) := congrFun hV 0
  have v1 : V 1 = .pointer (some ⟨q, 0, none⟩) := congrFun hV 1
  have v2 : V 2 = .int .u16 (fm : Int) := congrFun hV 2
  have v3 : V 3 = .pointer (some ⟨q, 1, none⟩) := congrFun hV 3
  have v4 : V 4 = .int .u16 (tp : Int) := congrFun hV 4
  have v5 : V 5 = .int .i64 (8 + (ld.length : Int)) := congrFun hV 5
  have v6 : V 6 = .int .u16 (8 + (ld.length : Int)) := congrFun hV 6
  have v7 : V 7 = .int .u16 (sum : Int) := congrFun hV 7
  have v9 : V 9 = .pointer (some ⟨w.heap.size, 0, none⟩) := congrFun hV 9
  have v10 : V 10 = .pointer (some ⟨q, 2, none⟩) := congrFun hV 10
  have v11 : V 11 = .string (bs ld) := congrFun hV 11
  have v13 : V 13 = .pointer (some ⟨w.heap.size, 0, none⟩) := congrFun hV 13
  have v14 : V 14 = .string (bs (lst 2)) := congrFun hV 14
  have v15 : V 15 = .string (bs (lst 2)) := congrFun hV 15
  clear hV
  refine wp_region_ssau (by kernel_rfl) (by kernel_rfl) (by kernel_rfl)
    (fun u => ⟨#[.int .u16 (sum : Int), .pointer (some ⟨q, 0, none⟩), .pointer (some ⟨qn, 0, none⟩), undef, u 15, .pointer (some ⟨w.heap.size, 0, none⟩), .agg #[.slice none 0 0], .pointer (some ⟨w.heap.size, 0, none⟩), u 0, u 1, u 2, u 3, u 4, u 5, u 6, u 7, u 8, u 9, u 10, u 11, u 12, u 13, u 14], []⟩)
    (fun j v w3 => if j = 8 then True else if j = 12 then True else v = V j)
    (fun L u w3 => ∃ (c : Nat) (A : Option Addr), (L 9 = decide (0 < c) ∧ L 13 = decide (1 < c)) ∧ c ≤ 2 ∧ Chn w1 w.heap.size w1.heap.size A (lst c) w3 ∧ AlS (L 8) (u 8) 4 35 #[.int .u16 (fm : Int), .int .u16 (tp : Int), .int .u16 (8 + (ld.length : Int)), .int .u16 (sum : Int)] w1.heap.size A w3 ∧ AlS (L 12) (u 12) 1 9 #[.string (bs ld)] w1.heap.size A w3) (fun j => if j = 15 then .string ⟨#[]⟩ else undef) ⟨0, none, ⟨rfl, rfl⟩, by omega, by rw [Q0.out]; exact Chn.start hwr0 rfl, AlS.false, AlS.false⟩ ?_ ?_
  · rintro L u w3 i o hG hΦ ho hL hd K hK
    match i, ho with
    | 0, ho =>
      simp at ho; subst ho
      clear hΦ hd
      go_simp
      exact hK _ _ v0.symm hG (fun _ _ _ h => h)
    | 1, ho =>
      simp at ho; subst ho
      clear hΦ hd
      go_simp
      exact hK _ _ v1.symm hG (fun _ _ _ h => h)
    | 2, ho =>
      simp at ho; subst ho
      have hu1 : u 1 = V 1 := hΦ 1 (hd ⟨1, .data⟩ (by simp) (by rfl))
      rw [v1] at hu1
      clear hΦ hd
      obtain ⟨c, A, ⟨e0, e1⟩, hcn, hch, s8, s12⟩ := hG
      have hx : ∃ x, u = (upd x 1 (.pointer (some ⟨q, 0, none⟩))) := ⟨u, by rw [← upd_self hu1]⟩
      clear hu1
      obtain ⟨x, rfl⟩ := hx
      simp only [upd, reduceIte, Nat.reduceEqDiff]
      have hc0 := ((hpa).keep hch.fr (by unfold oneB; omega)).cells
      go_simp
      exact hK _ _ v2.symm ⟨c, A, ⟨e0, e1⟩, hcn, hch, s8, s12⟩ (fun _ _ _ h => h)
    | 3, ho =>
      simp at ho; subst ho
      clear hΦ hd
      go_simp
      exact hK _ _ v3.symm hG (fun _ _ _ h => h)
    | 4, ho =>
      simp at ho; subst ho
      have hu3 : u 3 = V 3 := hΦ 3 (hd ⟨3, .data⟩ (by simp) (by rfl))
      rw [v3] at hu3
      clear hΦ hd
      obtain ⟨c, A, ⟨e0, e1⟩, hcn, hch, s8, s12⟩ := hG
      have hx : ∃ x, u = (upd x 3 (.pointer (some ⟨q, 1, none⟩))) := ⟨u, by rw [← upd_self hu3]⟩
      clear hu3
      obtain ⟨x, rfl⟩ := hx
      simp only [upd, reduceIte, Nat.reduceEqDiff]
      have hc0 := ((hpa).keep hch.fr (by unfold oneB; omega)).cells
      go_simp
      exact hK _ _ v4.symm ⟨c, A, ⟨e0, e1⟩, hcn, hch, s8, s12⟩ (fun _ _ _ h => h)
    | 5, ho =>
      simp at ho; subst ho
      clear hΦ hd
      obtain ⟨c, A, ⟨e0, e1⟩, hcn, hch, s8, s12⟩ := hG
      have hc0 := ((hpn).keep hch.fr (by unfold oneB; omega)).cells
      go_simp
      exact hK _ _ v5.symm ⟨c, A, ⟨e0, e1⟩, hcn, hch, s8, s12⟩ (fun _ _ _ h => h)
    | 6, ho =>
      simp at ho; subst ho
      have hu5 : u 5 = V 5 := hΦ 5 (hd ⟨5, .data⟩ (by simp) (by rfl))
      rw [v5] at hu5
      clear hΦ hd
      have hx : ∃ x, u = (upd x 5 (.int .i64 (8 + (ld.length : Int)))) := ⟨u, by rw [← upd_self hu5]⟩
      clear hu5
      obtain ⟨x, rfl⟩ := hx
      simp only [upd, reduceIte, Nat.reduceEqDiff]
      have e7 : IntKind.u16.wrap (8 + (ld.length : Int)) = 8 + (ld.length : Int) := by rw [IntKind.wrap_u16]; omega
      have e7' : (8 + (ld.length : Int)) % 65536 = 8 + (ld.length : Int) := by omega
      go_simp
      exact hK _ _ v6.symm hG (fun _ _ _ h => h)
    | 7, ho =>
      simp at ho; subst ho
      clear hΦ hd
      go_simp
      exact hK _ _ v7.symm hG (fun _ _ _ h => h)
    | 8, ho =>
      simp at ho; subst ho
      have hu2 : u 2 = V 2 := hΦ 2 (hd ⟨2, .data⟩ (by simp) (by rfl))
      rw [v2] at hu2
      have hu4 : u 4 = V 4 := hΦ 4 (hd ⟨4, .data⟩ (by simp) (by rfl))
      rw [v4] at hu4
      have hu6 : u 6 = V 6 := hΦ 6 (hd ⟨6, .data⟩ (by simp) (by rfl))
      rw [v6] at hu6
      have hu7 : u 7 = V 7 := hΦ 7 (hd ⟨7, .data⟩ (by simp) (by rfl))
      rw [v7] at hu7
      clear hΦ hd
      obtain ⟨c, A, ⟨e0, e1⟩, hcn, hch, s8, s12⟩ := hG
      have hx : ∃ x, u = (upd (upd (upd (upd x 2 (.int .u16 (fm : Int))) 4 (.int .u16 (tp : Int))) 6 (.int .u16 (8 + (ld.length : Int)))) 7 (.int .u16 (sum : Int))) := ⟨u, by rw [← upd_self hu2, ← upd_self hu4, ← upd_self hu6, ← upd_self hu7]⟩
      clear hu2 hu4 hu6 hu7
      obtain ⟨x, rfl⟩ := hx
      simp only [upd, reduceIte, Nat.reduceEqDiff]
      go_simp
      exact hK _ _ trivial ⟨c, A, ⟨e0, e1⟩, hcn, hch.alloc _, AlS.new hch 4 35 #[.int .u16 (fm : Int), .int .u16 (tp : Int), .int .u16 (8 + (ld.length : Int)), .int .u16 (sum : Int)], AlS.alloc s12 _⟩ (fun _ _ _ h => h)
    | 9, ho =>
      simp at ho; subst ho
      have hu0 : u 0 = V 0 := hΦ 0 (hd ⟨0, .data⟩ (by simp) (by rfl))
      rw [v0] at hu0
      have hl8 : L 8 = true := hd ⟨8, .data⟩ (by simp) (by rfl)
      clear hΦ hd
      obtain ⟨c, A, ⟨e0, e1⟩, hcn, hch, s8, s12⟩ := hG
      have hck : c = 0 := by
        have h1 := hL.symm.trans e0
        simp at h1; omega
      subst hck
      obtain ⟨g8, hg8, hb8, hB8, hn8⟩ := s8 hl8
      have hx : ∃ x, u = (upd (upd x 0 (.pointer (some ⟨w.heap.size, 0, none⟩))) 8 (.slice (some ⟨g8, 0, none⟩) 4 4)) := ⟨u, by rw [← upd_self hu0, ← upd_self hg8]⟩
      clear hu0 hg8
      obtain ⟨x, rfl⟩ := hx
      simp only [upd, reduceIte, Nat.reduceEqDiff]
      go_simp
      refine (wU16 w.heap.size A _ w3 _ 4 4 [(fm : Int), (tp : Int), (8 + (ld.length : Int)), (sum : Int)] hch.wr (SlR.of_bk (n := 4) (size := 1) hb8 (AlS.not hch hB8 hn8) rfl) (by intro x hx; simp at hx; omega) (by omega) (by have := N0.out; first | omega | (simp; omega))).mono ?_
      rintro e w4 ⟨rfl, hw4⟩
      obtain ⟨A', hch', hal⟩ := hch.call hw4
      exact hK _ _ v9.symm ⟨1, A', ⟨rfl, e1⟩, by omega, by rw [Q1.out]; exact hch', hal _ _ _ _ _ s8, hal _ _ _ _ _ s12⟩ (fun _ _ _ h => h)
    | 10, ho =>
      simp at ho; subst ho
      clear hΦ hd
      go_simp
      exact hK _ _ v10.symm hG (fun _ _ _ h => h)
    | 11, ho =>
      simp at ho; subst ho
      have hu10 : u 10 = V 10 := hΦ 10 (hd ⟨10, .data⟩ (by simp) (by rfl))
      rw [v10] at hu10
      clear hΦ hd
      obtain ⟨c, A, ⟨e0, e1⟩, hcn, hch, s8, s12⟩ := hG
      have hx : ∃ x, u = (upd x 10 (.pointer (some ⟨q, 2, none⟩))) := ⟨u, by rw [← upd_self hu10]⟩
      clear hu10
      obtain ⟨x, rfl⟩ := hx
      simp only [upd, reduceIte, Nat.reduceEqDiff]
      have hc0 := ((hpa).keep hch.fr (by unfold oneB; omega)).cells
      go_simp
      exact hK _ _ v11.symm ⟨c, A, ⟨e0, e1⟩, hcn, hch, s8, s12⟩ (fun _ _ _ h => h)
    | 12, ho =>
      simp at ho; subst ho
      have hu11 : u 11 = V 11 := hΦ 11 (hd ⟨11, .data⟩ (by simp) (by rfl))
      rw [v11] at hu11
      clear hΦ hd
      obtain ⟨c, A, ⟨e0, e1⟩, hcn, hch, s8, s12⟩ := hG
      have hx : ∃ x, u = (upd x 11 (.string (bs ld))) := ⟨u, by rw [← upd_self hu11]⟩
      clear hu11
      obtain ⟨x, rfl⟩ := hx
      simp only [upd, reduceIte, Nat.reduceEqDiff]
      go_simp
      exact hK _ _ trivial ⟨c, A, ⟨e0, e1⟩, hcn, hch.alloc _, AlS.alloc s8 _, AlS.new hch 1 9 #[.string (bs ld)]⟩ (fun _ _ _ h => h)
    | 13, ho =>
      simp at ho; subst ho
      have hu9 : u 9 = V 9 := hΦ 9 (hd ⟨9, .data⟩ (by simp) (by rfl))
      rw [v9] at hu9
      have hl12 : L 12 = true := hd ⟨12, .data⟩ (by simp) (by rfl)
      have hlc : L 9 = true := hd ⟨9, .chain⟩ (by simp) (by rfl)
      clear hΦ hd
      obtain ⟨c, A, ⟨e0, e1⟩, hcn, hch, s8, s12⟩ := hG
      have hck : c = 1 := by
        have h1 := hL.symm.trans e1
        have h2 := hlc.symm.trans e0
        simp at h1 h2; omega
      subst hck
      obtain ⟨g12, hg12, hb12, hB12, hn12⟩ := s12 hl12
      have hx : ∃ x, u = (upd (upd x 9 (.pointer (some ⟨w.heap.size, 0, none⟩))) 12 (.slice (some ⟨g12, 0, none⟩) 1 1)) := ⟨u, by rw [← upd_self hu9, ← upd_self hg12]⟩
      clear hu9 hg12
      obtain ⟨x, rfl⟩ := hx
      simp only [upd, reduceIte, Nat.reduceEqDiff]
      go_simp
      refine (wText w.heap.size A _ w3 _ 1 1 [ld] hch.wr (SlR.of_bk (n := 1) (size := 1) hb12 (AlS.not hch hB12 hn12) rfl) (by omega) (by have := N1.out; first | omega | (simp; omega))).mono ?_
      rintro e w4 ⟨rfl, hw4⟩
      obtain ⟨A', hch', hal⟩ := hch.call hw4
      exact hK _ _ v13.symm ⟨2, A', ⟨e0, rfl⟩, by omega, by rw [Q2.out]; exact hch', hal _ _ _ _ _ s8, hal _ _ _ _ _ s12⟩ (fun _ _ _ h => h)
    | 14, ho =>
      simp at ho; subst ho
      have hu13 : u 13 = V 13 := hΦ 13 (hd ⟨13, .data⟩ (by simp) (by rfl))
      rw [v13] at hu13
      have hlc : L 13 = true := hd ⟨13, .chain⟩ (by simp) (by rfl)
      clear hΦ hd
      obtain ⟨c, A, ⟨e0, e1⟩, hcn, hch, s8, s12⟩ := hG
      have hck : c = 2 := by
        have h2 := hlc.symm.trans e1
        simp at h2; omega
      subst hck
      have hx : ∃ x, u = (upd x 13 (.pointer (some ⟨w.heap.size, 0, none⟩))) := ⟨u, by rw [← upd_self hu13]⟩
      clear hu13
      obtain ⟨x, rfl⟩ := hx
      simp only [upd, reduceIte, Nat.reduceEqDiff]
      go_simp
      refine (wString w.heap.size _ _ _ hch.wr).mono ?_
      rintro e w4 ⟨rfl, rfl⟩
      exact hK _ _ v14.symm ⟨2, A, ⟨e0, e1⟩, hcn, hch, s8, s12⟩ (fun _ _ _ h => h)
    | 15, ho =>
      simp at ho; subst ho
      have hu14 : u 14 = V 14 := hΦ 14 (hd ⟨14, .data⟩ (by simp) (by rfl))
      rw [v14] at hu14
      clear hΦ hd
      have hx : ∃ x, u = (upd x 14 (.string (bs (lst 2)))) := ⟨u, by rw [← upd_self hu14]⟩
      clear hu14
      obtain ⟨x, rfl⟩ := hx
      simp only [upd, reduceIte, Nat.reduceEqDiff]
      go_simp
      exact hK _ _ v15.symm hG (fun _ _ _ h => h)
  · rintro u w3 hu L hall hG
    obtain ⟨c, A, ⟨e0, e1⟩, hcn, hch, s8, s12⟩ := hG
    have h15 : u 15 = V 15 := hu 15 (by simp)
    rw [v15] at h15
    clear hu
    rw [h15]
    have hby : lst 2 = udpWith fm tp ld sum := by rw [Q2.out, Q1.out, Q0.out]; exact udp_lst _ _ _ _
    rw [hby]
    have hfr := hf0.trans' hch.fr (fun b hb e => by unfold oneB at e; omega)
    generalize hR : udpWith fm tp ld sum = R at *
    have HR := Lib.hid hR
    clear hR
    go_wp2_with fail
    go_ret
    exact ⟨by rw [HR.out]; rfl, hfr⟩

set_option maxRecDepth 20000 in
set_option maxHeartbeats 1000000 in
theorem packetWriteUDP (fm tp fi ti : Nat) (ld : List UInt8) (w : World) (hfm : fm < 65536) (htp : tp < 65536) (hfi : fi < 4294967296) (hti : ti < 4294967296) (hld : ld.length ≤ 4611686018427387000) :
    Calls Try.prog 36 #[.agg #[.int .u16 (fm : Int), .int .u16 (tp : Int), .string (bs ld)], .int .u32 (fi : Int), .int .u32 (ti : Int)] w (strPost (wrUDP fm tp fi ti ld) w) := by
  have hpa := (Bk.new w 37 #[.int .u16 (fm : Int), .int .u16 (tp : Int), .string (bs ld)]).alloc (.cells #[.int .i64 (8 + (ld.length : Int))] 3)
  have hpn := Bk.new (w.alloc (.cells #[.int .u16 (fm : Int), .int .u16 (tp : Int), .string (bs ld)] 37)) 3 #[.int .i64 (8 + (ld.length : Int))]
  rw [show (w.alloc (.cells #[.int .u16 (fm : Int), .int .u16 (tp : Int), .string (bs ld)] 37)).heap.size = w.heap.size + 1 by simp] at hpn
  have hpa0 := (Bk.new w 37 #[.int .u16 (fm : Int), .int .u16 (tp : Int), .string (bs ld)]).cells
  have hpn0 := hpn.cells
  have hpa1 := hpa.cells
  have e8 : IntKind.i64.wrap (8 + (ld.length : Int)) = 8 + (ld.length : Int) := IntWalk.i64_in _ (by omega)
  have hmf : ∀ (fn : Fn) (first cap : Array Value) (w : World), (Instr.makeFunc fn first cap).run Try.prog w = .ok (.func fn first cap) w := fun _ _ _ _ => rfl
  have hf0 : Fr noB w ((w.alloc (.cells #[.int .u16 (fm : Int), .int .u16 (tp : Int), .string (bs ld)] 37)).alloc (.cells #[.int .i64 (8 + (ld.length : Int))] 3)) := ((Fr.refl _ _).alloc _).alloc _
  go_enter Try.func36, Try.ntmps36
  by_cases h1 : 1480 < 8 + ld.length
  · have hs : Hid (wrUDP fm tp fi ti ld = ([], 7)) := by unfold Hid wrUDP; rw [if_pos h1]
    have b1 : 1480 < 8 + (ld.length : Int) := by omega
    clear h1
    go_wp2_with fail
    go_ret2
    exact ⟨by rw [hs.out]; rfl, hf0⟩
  have b1 : ¬ 1480 < 8 + (ld.length : Int) := by omega
  have hs : Hid (wrUDP fm tp fi ti ld = (udpWith fm tp ld (udpSum fm tp fi ti ld), 0)) := by unfold Hid wrUDP; rw [if_neg h1]
  have hl2 : ld.length ≤ 1480 := by omega
  clear h1
  go_upto_region 4 with fail
  go_cut [9] from 11 to 17 (fun q wx => q = .func (.func 64) #[] #[.pointer (some ⟨w.heap.size, 0, none⟩), .pointer (some ⟨(w.heap.size + 1), 0, none⟩)] ∧ wx = (w.alloc (.cells #[.int .u16 (fm : Int), .int .u16 (tp : Int), .string (bs ld)] 37)).alloc (.cells #[.int .i64 (8 + (ld.length : Int))] 3))
  case first =>
    go_wp2_with fail
    go_meet
    case rel => exact ⟨rfl, rfl⟩
  case rest =>
  obtain ⟨rfl, rfl⟩ := hcut
  clear hpa0 hpn0 hpa1
  have Lld := Lib.hid hl2
  go_upto_region 5 with fail
  generalize (w.alloc (.cells #[.int .u16 (fm : Int), .int .u16 (tp : Int), .string (bs ld)] 37)).alloc (.cells #[.int .i64 (8 + (ld.length : Int))] 3) = w1 at *
  go_cut [10] from 11 to 25 (fun a wx => a = .int .u16 (udpSum0 fm tp fi ti ld : Int) ∧ Fr noB w wx ∧ Bk wx w.heap.size 37 #[.int .u16 (fm : Int), .int .u16 (tp : Int), .string (bs ld)] ∧ Bk wx (w.heap.size + 1) 3 #[.int .i64 (8 + (ld.length : Int))])
  case first =>
    obtain ⟨x1, Hx1⟩ : ∃ s : List UInt8, Hid (s = besideB fi ti (8 + ld.length)) := ⟨besideB fi ti (8 + ld.length), Lib.hid rfl⟩
    obtain ⟨x2, Hx2⟩ : ∃ s : List UInt8, Hid (s = udpWith fm tp ld 0) := ⟨udpWith fm tp ld 0, Lib.hid rfl⟩
    have Lx1 : Hid (x1.length ≤ 12) := by have lld := Lld.out; unfold Hid; rw [Hx1.out]; first | (rw [beside_length]; omega) | (rw [udpA_length]; omega) | (rw [udpWith_length]; omega) | (simp [big_length, macB, bigs_length] <;> omega)
    have Lx2 : Hid (x2.length ≤ 1488) := by have lld := Lld.out; have l_x1 := Lx1.out; unfold Hid; rw [Hx2.out]; first | (rw [beside_length]; omega) | (rw [udpA_length]; omega) | (rw [udpWith_length]; omega) | (simp [big_length, macB, bigs_length] <;> omega)
    obtain ⟨V, hV⟩ : ∃ V : Nat → Value, V = (fun j => match j with | 0 => .int .u32 (fi : Int) | 1 => .int .u32 (ti : Int) | 2 => .int .i64 (8 + (ld.length : Int)) | 3 => .string (bs x1) | 4 => .func (.func 64) #[] #[.pointer (some ⟨w.heap.size, 0, none⟩), .pointer (some ⟨(w.heap.size + 1), 0, none⟩)] | 5 => .string (bs x2) | 7 => .int .u16 (check (x1 ++ x2) : Int) | 8 => .int .u16 (check (x1 ++ x2) : Int) | _ => undef) := ⟨_, rfl⟩
    have v0 : V 0 = .int .u32 (fi : Int) := congrFun hV 0
    have v1 : V 1 = .int .u32 (ti : Int) := congrFun hV 1
    have v2 : V 2 = .int .i64 (8 + (ld.length : Int)) := congrFun hV 2
    have v3 : V 3 = .string (bs x1) := congrFun hV 3
    have v4 : V 4 = .func (.func 64) #[] #[.pointer (some ⟨w.heap.size, 0, none⟩), .pointer (some ⟨(w.heap.size + 1), 0, none⟩)] := congrFun hV 4
    have v5 : V 5 = .string (bs x2) := congrFun hV 5
    have v7 : V 7 = .int .u16 (check (x1 ++ x2) : Int) := congrFun hV 7
    have v8 : V 8 = .int .u16 (check (x1 ++ x2) : Int) := congrFun hV 8
    clear hV
    refine wp_region_ssau_plain (by kernel_rfl) (by kernel_rfl) (by kernel_rfl)
      (fun u => ⟨#[.agg #[.int .u16 (fm : Int), .int .u16 (tp : Int), .string (bs ld)], .int .u32 (fi : Int), .int .u32 (ti : Int), .pointer (some ⟨w.heap.size, 0, none⟩), undef, undef, .string ⟨#[]⟩, .int .i64 0, .pointer (some ⟨(w.heap.size + 1), 0, none⟩), .func (.func 64) #[] #[.pointer (some ⟨w.heap.size, 0, none⟩), .pointer (some ⟨(w.heap.size + 1), 0, none⟩)], u 8, u11, u12, u13, u14, u15, u16, u17, u 0, u 1, u 2, u 3, u 4, u 5, u 6, u 7, undef, undef, undef, undef, undef], []⟩)
      (fun j v w3 => if j = 6 then True else v = V j)
      (fun L u w3 => Fr noB w1 w3 ∧ AlS (L 6) (u 6) 2 9 #[.string (bs x1), .string (bs x2)] 0 none w3) (fun j => undef) ⟨(Fr.refl _ _), AlS.false⟩ ?_ ?_
    · rintro L u w3 i o hG hΦ ho hL hd K hK
      match i, ho with
      | 0, ho =>
        simp at ho; subst ho
        clear hΦ hd
        go_simp
        exact hK _ _ v0.symm hG (fun _ _ _ h => h)
      | 1, ho =>
        simp at ho; subst ho
        clear hΦ hd
        go_simp
        exact hK _ _ v1.symm hG (fun _ _ _ h => h)
      | 2, ho =>
        simp at ho; subst ho
        clear hΦ hd
        obtain ⟨hG0, s6⟩ := hG
        have hc0 := ((hpn).keep hG0 (fun x => x)).cells
        go_simp
        exact hK _ _ v2.symm ⟨hG0, s6⟩ (fun _ _ _ h => h)
      | 3, ho =>
        simp at ho; subst ho
        have hu0 : u 0 = V 0 := hΦ 0 (hd ⟨0, .data⟩ (by simp) (by rfl))
        rw [v0] at hu0
        have hu1 : u 1 = V 1 := hΦ 1 (hd ⟨1, .data⟩ (by simp) (by rfl))
        rw [v1] at hu1
        have hu2 : u 2 = V 2 := hΦ 2 (hd ⟨2, .data⟩ (by simp) (by rfl))
        rw [v2] at hu2
        clear hΦ hd
        obtain ⟨hG0, s6⟩ := hG
        have hx : ∃ x, u = (upd (upd (upd x 0 (.int .u32 (fi : Int))) 1 (.int .u32 (ti : Int))) 2 (.int .i64 (8 + (ld.length : Int)))) := ⟨u, by rw [← upd_self hu0, ← upd_self hu1, ← upd_self hu2]⟩
        clear hu0 hu1 hu2
        obtain ⟨x, rfl⟩ := hx
        simp only [upd, reduceIte, Nat.reduceEqDiff]
        go_simp
        refine (pseudoFn fi ti (8 + (ld.length : Int)) w3 hfi hti (by omega) (by omega)).mono ?_
        rintro e w4 ⟨rfl, hf4⟩
        rw [show (8 + (ld.length : Int)).toNat = 8 + ld.length by omega, ← Hx1.out]
        exact hK _ _ v3.symm ⟨(hG0.none hf4), AlS.quiet s6 hf4⟩ (fun _ _ _ h => h)
      | 4, ho =>
        simp at ho; subst ho
        clear hΦ hd
        go_simp
        exact hK _ _ v4.symm hG (fun _ _ _ h => h)
      | 5, ho =>
        simp at ho; subst ho
        have hu4 : u 4 = V 4 := hΦ 4 (hd ⟨4, .data⟩ (by simp) (by rfl))
        rw [v4] at hu4
        clear hΦ hd
        obtain ⟨hG0, s6⟩ := hG
        have hx : ∃ x, u = (upd x 4 (.func (.func 64) #[] #[.pointer (some ⟨w.heap.size, 0, none⟩), .pointer (some ⟨(w.heap.size + 1), 0, none⟩)])) := ⟨u, by rw [← upd_self hu4]⟩
        clear hu4
        obtain ⟨x, rfl⟩ := hx
        simp only [upd, reduceIte, Nat.reduceEqDiff]
        go_simp
        refine (udpWithFn fm tp ld 0 w.heap.size (w.heap.size + 1) w3 hfm htp (by omega) hl2 (hpa.keep hG0 (fun x => x)) (hpn.keep hG0 (fun x => x))).mono ?_
        rintro e w4 ⟨rfl, hf4⟩
        rw [← Hx2.out]
        exact hK _ _ v5.symm ⟨(hG0.none hf4), AlS.quiet s6 hf4⟩ (fun _ _ _ h => h)
      | 6, ho =>
        simp at ho; subst ho
        have hu3 : u 3 = V 3 := hΦ 3 (hd ⟨3, .data⟩ (by simp) (by rfl))
        rw [v3] at hu3
        have hu5 : u 5 = V 5 := hΦ 5 (hd ⟨5, .data⟩ (by simp) (by rfl))
        rw [v5] at hu5
        clear hΦ hd
        obtain ⟨hG0, s6⟩ := hG
        have hx : ∃ x, u = (upd (upd x 3 (.string (bs x1))) 5 (.string (bs x2))) := ⟨u, by rw [← upd_self hu3, ← upd_self hu5]⟩
        clear hu3 hu5
        obtain ⟨x, rfl⟩ := hx
        simp only [upd, reduceIte, Nat.reduceEqDiff]
        go_simp
        exact hK _ _ trivial ⟨(hG0.alloc _), AlS.new0 w3 2 9 #[.string (bs x1), .string (bs x2)]⟩ (fun _ _ _ h => h)
      | 7, ho =>
        simp at ho; subst ho
        have hl6 : L 6 = true := hd ⟨6, .data⟩ (by simp) (by rfl)
        clear hΦ hd
        obtain ⟨hG0, s6⟩ := hG
        obtain ⟨g6, hg6, hb6, -, -⟩ := s6 hl6
        have hx : ∃ x, u = (upd x 6 (.slice (some ⟨g6, 0, none⟩) 2 2)) := ⟨u, by rw [← upd_self hg6]⟩
        clear hg6
        obtain ⟨x, rfl⟩ := hx
        simp only [upd, reduceIte, Nat.reduceEqDiff]
        go_simp
        refine (hashCheck_two _ 2 x1 x2 w3 (SlR.of_bk (n := 2) (size := 1) hb6 (fun x => x) rfl) (by have := Lx1.out; omega) (by have := Lx2.out; omega)).mono ?_
        rintro e w4 ⟨rfl, rfl⟩
        exact hK _ _ v7.symm ⟨hG0, s6⟩ (fun _ _ _ h => h)
      | 8, ho =>
        simp at ho; subst ho
        have hu7 : u 7 = V 7 := hΦ 7 (hd ⟨7, .data⟩ (by simp) (by rfl))
        rw [v7] at hu7
        clear hΦ hd
        have hx : ∃ x, u = (upd x 7 (.int .u16 (check (x1 ++ x2) : Int))) := ⟨u, by rw [← upd_self hu7]⟩
        clear hu7
        obtain ⟨x, rfl⟩ := hx
        simp only [upd, reduceIte, Nat.reduceEqDiff]
        go_simp
        exact hK _ _ v8.symm hG (fun _ _ _ h => h)
    · rintro u w3 hu L hall hG
      obtain ⟨hG0, s6⟩ := hG
      have h8 : u 8 = V 8 := hu 8 (by simp)
      rw [v8] at h8
      clear hu hall
      rw [h8]
      have hA : check (x1 ++ x2) = udpSum0 fm tp fi ti ld := by rw [Hx1.out, Hx2.out]; exact udpSum0_eq _ _ _ _ _
      rw [hA]
      generalize udpSum0 fm tp fi ti ld = R at *
      go_wp2_with fail
      go_meet
      case rel => exact ⟨rfl, hf0.none hG0, hpa.keep hG0 (fun x => x), hpn.keep hG0 (fun x => x)⟩
  case rest =>
  obtain ⟨rfl, hf5, hpa5, hpn5⟩ := hcut
  clear hf0 hpa hpn w1
  have hu0 : Hid (udpSum fm tp fi ti ld = if udpSum0 fm tp fi ti ld = 0 then 65535 else udpSum0 fm tp fi ti ld) := rfl
  generalize udpSum0 fm tp fi ti ld = s0 at *
  obtain ⟨sm, Hsm⟩ : ∃ sm, Hid (sm = udpSum fm tp fi ti ld) := ⟨_, Lib.hid rfl⟩
  have Lsm : Hid (sm ≤ 65535) := by unfold Hid; rw [Hsm.out]; exact udpSum_le _ _ _ _ _
  go_upto_if 27 with fail
  go_cut [10] from 11 to 27 (fun a wx => a = .int .u16 (sm : Int) ∧ wx = wc)
  case first =>
    by_cases h0 : s0 = 0
    · have b0 : ((s0 : Int) == 0) = true := by simp; omega
      have hsm : Hid (sm = 65535) := by unfold Hid; rw [Hsm.out, hu0.out, if_pos h0]
      clear h0
      rw [b0]
      go_wp2_with fail
      go_meet
      case rel => exact ⟨by rw [hsm.out]; rfl, rfl⟩
    · have b0 : ((s0 : Int) == 0) = false := by simp; omega
      have hsm : Hid (sm = s0) := by unfold Hid; rw [Hsm.out, hu0.out, if_neg h0]
      clear h0
      rw [b0]
      go_wp2_with fail
      go_meet
      case rel => exact ⟨by rw [hsm.out], rfl⟩
  case rest =>
  obtain ⟨rfl, rfl⟩ := hcut
  obtain ⟨w1, rfl⟩ : ∃ w1, w1 = wc := ⟨_, rfl⟩
  have hf0 := hf5
  have hpa := hpa5
  have hpn := hpn5
  clear hf5 hpa5 hpn5
  go_upto_region 8 with fail
  obtain ⟨x3, Hx3⟩ : ∃ s : List UInt8, Hid (s = udpWith fm tp ld sm) := ⟨udpWith fm tp ld sm, Lib.hid rfl⟩
  have Lx3 : Hid (x3.length ≤ 1488) := by have lld := Lld.out; unfold Hid; rw [Hx3.out]; first | (rw [beside_length]; omega) | (rw [udpA_length]; omega) | (rw [udpWith_length]; omega) | (simp [big_length, macB, bigs_length] <;> omega)
  obtain ⟨V, hV⟩ : ∃ V : Nat → Value, V = (fun j => match j with | 0 => .func (.func 64) #[] #[.pointer (some ⟨w.heap.size, 0, none⟩), .pointer (some ⟨(w.heap.size + 1), 0, none⟩)] | 1 => .int .u16 (sm : Int) | 2 => .string (bs x3) | 3 => .string (bs x3) | 4 => .int .i64 0 | _ => undef) := ⟨_, rfl⟩
  have v0 : V 0 = .func (.func 64) #[] #[.pointer (some ⟨w.heap.size, 0, none⟩), .pointer (some ⟨(w.heap.size + 1), 0, none⟩)] := congrFun hV 0
  have v1 : V 1 = .int .u16 (sm : Int) := congrFun hV 1
  have v2 : V 2 = .string (bs x3) := congrFun hV 2
  have v3 : V 3 = .string (bs x3) := congrFun hV 3
  have v4 : V 4 = .int .i64 0 := congrFun hV 4
  clear hV
  refine wp_region_ssau_plain (by kernel_rfl) (by kernel_rfl) (by kernel_rfl)
    (fun u => ⟨#[.agg #[.int .u16 (fm : Int), .int .u16 (tp : Int), .string (bs ld)], .int .u32 (fi : Int), .int .u32 (ti : Int), .pointer (some ⟨w.heap.size, 0, none⟩), undef, undef, u 3, u 4, .pointer (some ⟨(w.heap.size + 1), 0, none⟩), .func (.func 64) #[] #[.pointer (some ⟨w.heap.size, 0, none⟩), .pointer (some ⟨(w.heap.size + 1), 0, none⟩)], .int .u16 (sm : Int), u11, u12, u13, u14, u15, u16, u17, u18, u19, u20, u21, u22, u23, u24, u25, u26, u27, u 0, u 1, u 2], []⟩)
    (fun j v w3 => v = V j)
    (fun L u w3 => Fr noB w1 w3) (fun j => if j = 3 then .string ⟨#[]⟩ else if j = 4 then .int .i64 0 else undef) ((Fr.refl _ _)) ?_ ?_
  · rintro L u w3 i o hG hΦ ho hL hd K hK
    match i, ho with
    | 0, ho =>
      simp at ho; subst ho
      clear hΦ hd
      go_simp
      exact hK _ _ v0.symm hG (fun _ _ _ h => h)
    | 1, ho =>
      simp at ho; subst ho
      clear hΦ hd
      go_simp
      exact hK _ _ v1.symm hG (fun _ _ _ h => h)
    | 2, ho =>
      simp at ho; subst ho
      have hu0 : u 0 = V 0 := hΦ 0 (hd ⟨0, .data⟩ (by simp) (by rfl))
      rw [v0] at hu0
      have hu1 : u 1 = V 1 := hΦ 1 (hd ⟨1, .data⟩ (by simp) (by rfl))
      rw [v1] at hu1
      clear hΦ hd
      have hG0 := hG
      have hx : ∃ x, u = (upd (upd x 0 (.func (.func 64) #[] #[.pointer (some ⟨w.heap.size, 0, none⟩), .pointer (some ⟨(w.heap.size + 1), 0, none⟩)])) 1 (.int .u16 (sm : Int))) := ⟨u, by rw [← upd_self hu0, ← upd_self hu1]⟩
      clear hu0 hu1
      obtain ⟨x, rfl⟩ := hx
      simp only [upd, reduceIte, Nat.reduceEqDiff]
      go_simp
      refine (udpWithFn fm tp ld sm w.heap.size (w.heap.size + 1) w3 hfm htp (by have := Lsm.out; omega) hl2 (hpa.keep hG0 (fun x => x)) (hpn.keep hG0 (fun x => x))).mono ?_
      rintro e w4 ⟨rfl, hf4⟩
      rw [← Hx3.out]
      exact hK _ _ v2.symm (hG0.none hf4) (fun _ _ _ h => h)
    | 3, ho =>
      simp at ho; subst ho
      have hu2 : u 2 = V 2 := hΦ 2 (hd ⟨2, .data⟩ (by simp) (by rfl))
      rw [v2] at hu2
      clear hΦ hd
      have hx : ∃ x, u = (upd x 2 (.string (bs x3))) := ⟨u, by rw [← upd_self hu2]⟩
      clear hu2
      obtain ⟨x, rfl⟩ := hx
      simp only [upd, reduceIte, Nat.reduceEqDiff]
      go_simp
      exact hK _ _ v3.symm hG (fun _ _ _ h => h)
    | 4, ho =>
      simp at ho; subst ho
      clear hΦ hd
      go_simp
      exact hK _ _ v4.symm hG (fun _ _ _ h => h)
  · rintro u w3 hu L hall hG
    have hG0 := hG
    have h3 : u 3 = V 3 := hu 3 (by simp)
    rw [v3] at h3
    have h4 : u 4 = V 4 := hu 4 (by simp)
    rw [v4] at h4
    clear hu hall
    rw [h3, h4]
    have hfr := hf0.none hG0
    have hA : x3 = udpWith fm tp ld (udpSum fm tp fi ti ld) := by rw [Hx3.out, Hsm.out]
    rw [hA]
    clear hA
    generalize udpWith fm tp ld (udpSum fm tp fi ti ld) = R at *
    go_wp2_with fail
    go_ret2
    exact ⟨by rw [hs.out]; rfl, hfr⟩
theorem bootWriteUDP (fm tp fi ti : Nat) (ld : List UInt8) (w : World) (hfm : fm < 65536) (htp : tp < 65536) (hfi : fi < 4294967296) (hti : ti < 4294967296) (hld : ld.length ≤ 4611686018427387000) :
    Calls Try.prog 19 #[.agg #[.int .u16 (fm : Int), .int .u16 (tp : Int), .string (bs ld)], .int .u32 (fi : Int), .int .u32 (ti : Int)] w (strPost (wrUDP fm tp fi ti ld) w) := by
  have hpa := (Bk.new w 37 #[.int .u16 (fm : Int), .int .u16 (tp : Int), .string (bs ld)]).cells
  have hf0 : Fr noB w (w.alloc (.cells #[.int .u16 (fm : Int), .int .u16 (tp : Int), .string (bs ld)] 37)) := (Fr.refl _ _).alloc _
  go_enter Try.func19, Try.ntmps19
  go_wp2_with fail
  refine (packetWriteUDP fm tp fi ti ld _ hfm htp hfi hti hld).mono ?_
  rintro e w2 ⟨rfl, hf2⟩
  generalize wrUDP fm tp fi ti ld = R at *
  go_wp2_with fail
  go_ret2
  exact ⟨rfl, hf0.none hf2⟩

end Go.Proofs.Ytcbkaiakdhiloab
