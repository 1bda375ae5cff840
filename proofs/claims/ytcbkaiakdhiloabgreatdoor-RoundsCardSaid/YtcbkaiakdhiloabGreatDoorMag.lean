/- WriteUDP, the program's and the reference's, and the walk of the law netbootlaw.UDPWrites. -/
import Derived.Test.YtcbkaiakdhiloabGreatDoorMaf
import Derived.Test.YtcbkaiakdhiloabGreatDoorMaa
import Derived.Test.YtcbkaiakdhiloabGreatDoorMae
import Derived.Test.YtcbkaiakdhiloabGreatDoorReadUDPZ
import Derived.Test.YtcbkaiakdhiloabGreatDoorWrIPZ
set_option linter.unusedSimpArgs false
set_option linter.unusedVariables false
namespace Go.Proofs.YtcbkaiakdhiloabGreatDoor
open Go.RowKit Go.Proofs
attribute [local go_sem] bs_size bs_append bs_sub bs_toList

def udpA (fm tp n : Nat) : List UInt8 := big 2 fm ++ big 2 tp ++ big 2 n
def udpWith (fm tp : Nat) (ld : List UInt8) (sum : Nat) : List UInt8 := udpA fm tp (8 + ld.length) ++ big 2 sum ++ ld
def udpSum0 (fm tp fi ti : Nat) (ld : List UInt8) : Nat := check (besideB fi ti (8 + ld.length) ++ udpA fm tp (8 + ld.length) ++ [0, 0] ++ ld)
def udpSum (fm tp fi ti : Nat) (ld : List UInt8) : Nat := if udpSum0 fm tp fi ti ld = 0 then 65535 else udpSum0 fm tp fi ti ld
def wrUDP (fm tp fi ti : Nat) (ld : List UInt8) : List UInt8 × Nat := if 1480 < 8 + ld.length then ([], 7) else (udpWith fm tp ld (udpSum fm tp fi ti ld), 0)
theorem udpSum_le (fm tp fi ti : Nat) (ld : List UInt8) : udpSum fm tp fi ti ld ≤ 65535 := by
  unfold udpSum; split
  · omega
  · exact check_le _
theorem udpA_length (fm tp n : Nat) : (udpA fm tp n).length = 6 := by simp [udpA, big_length]
theorem udpWith_length (fm tp : Nat) (ld : List UInt8) (sum : Nat) : (udpWith fm tp ld sum).length = 8 + ld.length := by simp [udpWith, udpA, big_length]; omega
theorem udpSum0_eq (fm tp fi ti : Nat) (ld : List UInt8) : check (besideB fi ti (8 + ld.length) ++ udpWith fm tp ld 0) = udpSum0 fm tp fi ti ld := by
  have e : big 2 0 = [0, 0] := by decide
  unfold udpSum0 udpWith; rw [e]; simp only [List.append_assoc]
theorem udp_lst (fm tp sum : Nat) (ld : List UInt8) : ([] ++ bigs 2 [(fm : Int), (tp : Int), (8 + (ld.length : Int)), (sum : Int)] ++ List.flatten [ld]) = udpWith fm tp ld sum := by
  have e1 : (8 + (ld.length : Int)).toNat = 8 + ld.length := by omega
  simp only [bigs, List.flatMap_cons, List.flatMap_nil, List.append_nil, e1, Int.toNat_natCast, List.nil_append, List.flatten_cons, List.flatten_nil, udpWith, udpA, List.append_assoc]

set_option maxRecDepth 20000 in
set_option maxHeartbeats 1000000 in
theorem udpWithFn (fm tp : Nat) (ld : List UInt8) (sum q qn : Nat) (w : World) (hfm : fm < 65536) (htp : tp < 65536) (hsum : sum < 65536) (hl2 : ld.length ≤ 1480) (hq : Bk w q 42 #[.int .u16 (fm : Int), .int .u16 (tp : Int), .string (bs ld)]) (hqn : Bk w qn 3 #[.int .i64 (8 + (ld.length : Int))]) :
    Calls Tryz.prog 75 #[.int .u16 (sum : Int), .pointer (some ⟨q, 0, none⟩), .pointer (some ⟨qn, 0, none⟩)] w (fun e w' => e = .returned (.string (bs (udpWith fm tp ld sum))) ∧ Fr noB w w') := by
  have hql := hq.lt
  have hqnl := hqn.lt
  have hpa := hq.alloc (.cells #[.slice none 0 0] 125)
  have hpn := hqn.alloc (.cells #[.slice none 0 0] 125)
  have hbw := Bk.new w 125 #[.slice none 0 0]
  have hf0 : Fr noB w (w.alloc (.cells #[.slice none 0 0] 125)) := (Fr.refl _ _).alloc _
  have hsz : (w.alloc (.cells #[.slice none 0 0] 125)).heap.size = w.heap.size + 1 := by simp
  go_enter Tryz.func75, Tryz.ntmps75
  go_upto_region 2 with fail
  generalize w.alloc (.cells #[.slice none 0 0] 125) = w1 at *
  have hwr0 := Wr.zero hbw
  obtain ⟨lst, Q0, Q1, Q2⟩ : ∃ lst : Nat → List UInt8, Hid (lst 0 = ([] : List UInt8)) ∧ Hid (lst 1 = lst 0 ++ bigs 2 [(fm : Int), (tp : Int), (8 + (ld.length : Int)), (sum : Int)]) ∧ Hid (lst 2 = lst 1 ++ List.flatten [ld]) := by
    exact ⟨fun k => match k with | 0 => ([] : List UInt8) | 1 => (([] : List UInt8) ++ bigs 2 [(fm : Int), (tp : Int), (8 + (ld.length : Int)), (sum : Int)]) | _ => ((([] : List UInt8) ++ bigs 2 [(fm : Int), (tp : Int), (8 + (ld.length : Int)), (sum : Int)]) ++ List.flatten [ld]), rfl, rfl, rfl⟩
  have N0 : Hid ((lst 0).length ≤ 0) := by unfold Hid; rw [Q0.out]; simp
  have N1 : Hid ((lst 1).length ≤ 0 + (8)) := by have h0 := N0.out; have h1 : ((bigs 2 [(fm : Int), (tp : Int), (8 + (ld.length : Int)), (sum : Int)] : List UInt8)).length ≤ 8 := (by simp [bigs_length, macB, big_length] <;> omega); unfold Hid; rw [Q1.out, List.length_append]; omega
  have N2 : Hid ((lst 2).length ≤ 0 + (8) + ((ld).length)) := by have h0 := N1.out; have h1 : ((List.flatten [ld] : List UInt8)).length ≤ (ld).length := (by simp [bigs_length, macB, big_length] <;> omega); unfold Hid; rw [Q2.out, List.length_append]; omega
  obtain ⟨V, hV⟩ : ∃ V : Nat → Value, V = (fun j => match j with | 0 => .pointer (some ⟨w.heap.size, 0, none⟩) | 1 => .pointer (some ⟨q, 0, none⟩) | 2 => .int .u16 (fm : Int) | 3 => .pointer (some ⟨q, 1, none⟩) | 4 => .int .u16 (tp : Int) | 5 => .int .i64 (8 + (ld.length : Int)) | 6 => .int .u16 (8 + (ld.length : Int)) | 7 => .int .u16 (sum : Int) | 9 => .pointer (some ⟨w.heap.size, 0, none⟩) | 10 => .pointer (some ⟨q, 2, none⟩) | 11 => .string (bs ld) | 13 => .pointer (some ⟨w.heap.size, 0, none⟩) | 14 => .string (bs (lst 2)) | 15 => .string (bs (lst 2)) | _ => undef) := ⟨_, rfl⟩
  have v0 : V 0 = .pointer (some ⟨w.heap.size, 0, none⟩) := congrFun hV 0
  have v1 : V 1 = .pointer (some ⟨q, 0, none⟩) := congrFun hV 1
  have v2 : V 2 = .int .u16 (fm : Int) := congrFun hV 2
  have v3 : V 3 = .pointer (some ⟨q, 1, none⟩) := congrFun hV 3
  have v4 : V 4 = .int .u16 (tp : Int) := congrFun hV 4
  have v5 : V 5 = .int .i64 (8 + (ld.length : Int)) := congrFun hV 5
  have v6 : V 6 = .int .u16 (8 + (ld.length : Int)) := congrFun hV 6
  have v7 : V 7 = .int .u16 (sum : Int) := congrFun hV 7
  have v9 : V 9 = .pointer (some ⟨w.heap.size, 0, none⟩) := congrFun hV 9
  have v10 : V 10 = .pointer (some ⟨q, 2, none⟩) := congrFun hV 10
  have v11 : V 11 = .string (bs ld) := congrFun hV 11
  have v13 : V 13 = .pointer (some ⟨w.heap.size, 0, none⟩) := congrFun hV 13
  have v14 : V 14 = .string (bs (lst 2)) := congrFun hV 14
  have v15 : V 15 = .string (bs (lst 2)) := congrFun hV 15
  clear hV
  refine wp_region_ssau (by kernel_rfl) (by kernel_rfl) (by kernel_rfl)
    (fun u => ⟨#[.int .u16 (sum : Int), .pointer (some ⟨q, 0, none⟩), .pointer (some ⟨qn, 0, none⟩), undef, u 15, .pointer (some ⟨w.heap.size, 0, none⟩), .agg #[.slice none 0 0], .pointer (some ⟨w.heap.size, 0, none⟩), u 0, u 1, u 2, u 3, u 4, u 5, u 6, u 7, u 8, u 9, u 10, u 11, u 12, u 13, u 14], []⟩)
    (fun j v w3 => if j = 8 then True else if j = 12 then True else v = V j)
    (fun L u w3 => ∃ (c : Nat) (A : Option Addr), (L 9 = decide (0 < c) ∧ L 13 = decide (1 < c)) ∧ c ≤ 2 ∧ Chn w1 w.heap.size w1.heap.size A (lst c) w3 ∧ AlS (L 8) (u 8) 4 24 #[.int .u16 (fm : Int), .int .u16 (tp : Int), .int .u16 (8 + (ld.length : Int)), .int .u16 (sum : Int)] w1.heap.size A w3 ∧ AlS (L 12) (u 12) 1 9 #[.string (bs ld)] w1.heap.size A w3) (fun j => if j = 15 then .string ⟨#[]⟩ else undef) ⟨0, none, ⟨rfl, rfl⟩, by omega, by rw [Q0.out]; exact Chn.start hwr0 rfl, AlS.false, AlS.false⟩ ?_ ?_
  · rintro L u w3 i o hG hΦ ho hL hd K hK
    match i, ho with
    | 0, ho =>
      simp at ho; subst ho
      clear hΦ hd
      go_simp
      exact hK _ _ v0.symm hG (fun _ _ _ h => h)
    | 1, ho =>
      simp at ho; subst ho
      clear hΦ hd
      go_simp
      exact hK _ _ v1.symm hG (fun _ _ _ h => h)
    | 2, ho =>
      simp at ho; subst ho
      have hu1 : u 1 = V 1 := hΦ 1 (hd ⟨1, .data⟩ (by simp) (by rfl))
      rw [v1] at hu1
      clear hΦ hd
      obtain ⟨c, A, ⟨e0, e1⟩, hcn, hch, s8, s12⟩ := hG
      have hx : ∃ x, u = (upd x 1 (.pointer (some ⟨q, 0, none⟩))) := ⟨u, by rw [← upd_self hu1]⟩
      clear hu1
      obtain ⟨x, rfl⟩ := hx
      simp only [upd, reduceIte, Nat.reduceEqDiff]
      have hc0 := ((hpa).keep hch.fr (by unfold oneB; omega)).cells
      go_simp
      exact hK _ _ v2.symm ⟨c, A, ⟨e0, e1⟩, hcn, hch, s8, s12⟩ (fun _ _ _ h => h)
    | 3, ho =>
      simp at ho; subst ho
      clear hΦ hd
      go_simp
      exact hK _ _ v3.symm hG (fun _ _ _ h => h)
    | 4, ho =>
      simp at ho; subst ho
      have hu3 : u 3 = V 3 := hΦ 3 (hd ⟨3, .data⟩ (by simp) (by rfl))
      rw [v3] at hu3
      clear hΦ hd
      obtain ⟨c, A, ⟨e0, e1⟩, hcn, hch, s8, s12⟩ := hG
      have hx : ∃ x, u = (upd x 3 (.pointer (some ⟨q, 1, none⟩))) := ⟨u, by rw [← upd_self hu3]⟩
      clear hu3
      obtain ⟨x, rfl⟩ := hx
      simp only [upd, reduceIte, Nat.reduceEqDiff]
      have hc0 := ((hpa).keep hch.fr (by unfold oneB; omega)).cells
      go_simp
      exact hK _ _ v4.symm ⟨c, A, ⟨e0, e1⟩, hcn, hch, s8, s12⟩ (fun _ _ _ h => h)
    | 5, ho =>
      simp at ho; subst ho
      clear hΦ hd
      obtain ⟨c, A, ⟨e0, e1⟩, hcn, hch, s8, s12⟩ := hG
      have hc0 := ((hpn).keep hch.fr (by unfold oneB; omega)).cells
      go_simp
      exact hK _ _ v5.symm ⟨c, A, ⟨e0, e1⟩, hcn, hch, s8, s12⟩ (fun _ _ _ h => h)
    | 6, ho =>
      simp at ho; subst ho
      have hu5 : u 5 = V 5 := hΦ 5 (hd ⟨5, .data⟩ (by simp) (by rfl))
      rw [v5] at hu5
      clear hΦ hd
      have hx : ∃ x, u = (upd x 5 (.int .i64 (8 + (ld.length : Int)))) := ⟨u, by rw [← upd_self hu5]⟩
      clear hu5
      obtain ⟨x, rfl⟩ := hx
      simp only [upd, reduceIte, Nat.reduceEqDiff]
      have e7 : IntKind.u16.wrap (8 + (ld.length : Int)) = 8 + (ld.length : Int) := by rw [IntKind.wrap_u16]; omega
      have e7' : (8 + (ld.length : Int)) % 65536 = 8 + (ld.length : Int) := by omega
      go_simp
      exact hK _ _ v6.symm hG (fun _ _ _ h => h)
    | 7, ho =>
      simp at ho; subst ho
      clear hΦ hd
      go_simp
      exact hK _ _ v7.symm hG (fun _ _ _ h => h)
    | 8, ho =>
      simp at ho; subst ho
      have hu2 : u 2 = V 2 := hΦ 2 (hd ⟨2, .data⟩ (by simp) (by rfl))
      rw [v2] at hu2
      have hu4 : u 4 = V 4 := hΦ 4 (hd ⟨4, .data⟩ (by simp) (by rfl))
      rw [v4] at hu4
      have hu6 : u 6 = V 6 := hΦ 6 (hd ⟨6, .data⟩ (by simp) (by rfl))
      rw [v6] at hu6
      have hu7 : u 7 = V 7 := hΦ 7 (hd ⟨7, .data⟩ (by simp) (by rfl))
      rw [v7] at hu7
      clear hΦ hd
      obtain ⟨c, A, ⟨e0, e1⟩, hcn, hch, s8, s12⟩ := hG
      have hx : ∃ x, u = (upd (upd (upd (upd x 2 (.int .u16 (fm : Int))) 4 (.int .u16 (tp : Int))) 6 (.int .u16 (8 + (ld.length : Int)))) 7 (.int .u16 (sum : Int))) := ⟨u, by rw [← upd_self hu2, ← upd_self hu4, ← upd_self hu6, ← upd_self hu7]⟩
      clear hu2 hu4 hu6 hu7
      obtain ⟨x, rfl⟩ := hx
      simp only [upd, reduceIte, Nat.reduceEqDiff]
      go_simp
      exact hK _ _ trivial ⟨c, A, ⟨e0, e1⟩, hcn, hch.alloc _, AlS.new hch 4 24 #[.int .u16 (fm : Int), .int .u16 (tp : Int), .int .u16 (8 + (ld.length : Int)), .int .u16 (sum : Int)], AlS.alloc s12 _⟩ (fun _ _ _ h => h)
    | 9, ho =>
      simp at ho; subst ho
      have hu0 : u 0 = V 0 := hΦ 0 (hd ⟨0, .data⟩ (by simp) (by rfl))
      rw [v0] at hu0
      have hl8 : L 8 = true := hd ⟨8, .data⟩ (by simp) (by rfl)
      clear hΦ hd
      obtain ⟨c, A, ⟨e0, e1⟩, hcn, hch, s8, s12⟩ := hG
      have hck : c = 0 := by
        have h1 := hL.symm.trans e0
        simp at h1; omega
      subst hck
      obtain ⟨g8, hg8, hb8, hB8, hn8⟩ := s8 hl8
      have hx : ∃ x, u = (upd (upd x 0 (.pointer (some ⟨w.heap.size, 0, none⟩))) 8 (.slice (some ⟨g8, 0, none⟩) 4 4)) := ⟨u, by rw [← upd_self hu0, ← upd_self hg8]⟩
      clear hu0 hg8
      obtain ⟨x, rfl⟩ := hx
      simp only [upd, reduceIte, Nat.reduceEqDiff]
      go_simp
      refine (wU16 w.heap.size A _ w3 _ 4 4 [(fm : Int), (tp : Int), (8 + (ld.length : Int)), (sum : Int)] hch.wr (SlR.of_bk (n := 4) (size := 1) hb8 (AlS.not hch hB8 hn8) rfl) (by intro x hx; simp at hx; omega) (by omega) (by have := N0.out; first | omega | (simp; omega))).mono ?_
      rintro e w4 ⟨rfl, hw4⟩
      obtain ⟨A', hch', hal⟩ := hch.call hw4
      exact hK _ _ v9.symm ⟨1, A', ⟨rfl, e1⟩, by omega, by rw [Q1.out]; exact hch', hal _ _ _ _ _ s8, hal _ _ _ _ _ s12⟩ (fun _ _ _ h => h)
    | 10, ho =>
      simp at ho; subst ho
      clear hΦ hd
      go_simp
      exact hK _ _ v10.symm hG (fun _ _ _ h => h)
    | 11, ho =>
      simp at ho; subst ho
      have hu10 : u 10 = V 10 := hΦ 10 (hd ⟨10, .data⟩ (by simp) (by rfl))
      rw [v10] at hu10
      clear hΦ hd
      obtain ⟨c, A, ⟨e0, e1⟩, hcn, hch, s8, s12⟩ := hG
      have hx : ∃ x, u = (upd x 10 (.pointer (some ⟨q, 2, none⟩))) := ⟨u, by rw [← upd_self hu10]⟩
      clear hu10
      obtain ⟨x, rfl⟩ := hx
      simp only [upd, reduceIte, Nat.reduceEqDiff]
      have hc0 := ((hpa).keep hch.fr (by unfold oneB; omega)).cells
      go_simp
      exact hK _ _ v11.symm ⟨c, A, ⟨e0, e1⟩, hcn, hch, s8, s12⟩ (fun _ _ _ h => h)
    | 12, ho =>
      simp at ho; subst ho
      have hu11 : u 11 = V 11 := hΦ 11 (hd ⟨11, .data⟩ (by simp) (by rfl))
      rw [v11] at hu11
      clear hΦ hd
      obtain ⟨c, A, ⟨e0, e1⟩, hcn, hch, s8, s12⟩ := hG
      have hx : ∃ x, u = (upd x 11 (.string (bs ld))) := ⟨u, by rw [← upd_self hu11]⟩
      clear hu11
      obtain ⟨x, rfl⟩ := hx
      simp only [upd, reduceIte, Nat.reduceEqDiff]
      go_simp
      exact hK _ _ trivial ⟨c, A, ⟨e0, e1⟩, hcn, hch.alloc _, AlS.alloc s8 _, AlS.new hch 1 9 #[.string (bs ld)]⟩ (fun _ _ _ h => h)
    | 13, ho =>
      simp at ho; subst ho
      have hu9 : u 9 = V 9 := hΦ 9 (hd ⟨9, .data⟩ (by simp) (by rfl))
      rw [v9] at hu9
      have hl12 : L 12 = true := hd ⟨12, .data⟩ (by simp) (by rfl)
      have hlc : L 9 = true := hd ⟨9, .chain⟩ (by simp) (by rfl)
      clear hΦ hd
      obtain ⟨c, A, ⟨e0, e1⟩, hcn, hch, s8, s12⟩ := hG
      have hck : c = 1 := by
        have h1 := hL.symm.trans e1
        have h2 := hlc.symm.trans e0
        simp at h1 h2; omega
      subst hck
      obtain ⟨g12, hg12, hb12, hB12, hn12⟩ := s12 hl12
      have hx : ∃ x, u = (upd (upd x 9 (.pointer (some ⟨w.heap.size, 0, none⟩))) 12 (.slice (some ⟨g12, 0, none⟩) 1 1)) := ⟨u, by rw [← upd_self hu9, ← upd_self hg12]⟩
      clear hu9 hg12
      obtain ⟨x, rfl⟩ := hx
      simp only [upd, reduceIte, Nat.reduceEqDiff]
      go_simp
      refine (wText w.heap.size A _ w3 _ 1 1 [ld] hch.wr (SlR.of_bk (n := 1) (size := 1) hb12 (AlS.not hch hB12 hn12) rfl) (by omega) (by have := N1.out; first | omega | (simp; omega))).mono ?_
      rintro e w4 ⟨rfl, hw4⟩
      obtain ⟨A', hch', hal⟩ := hch.call hw4
      exact hK _ _ v13.symm ⟨2, A', ⟨e0, rfl⟩, by omega, by rw [Q2.out]; exact hch', hal _ _ _ _ _ s8, hal _ _ _ _ _ s12⟩ (fun _ _ _ h => h)
    | 14, ho =>
      simp at ho; subst ho
      have hu13 : u 13 = V 13 := hΦ 13 (hd ⟨13, .data⟩ (by simp) (by rfl))
      rw [v13] at hu13
      have hlc : L 13 = true := hd ⟨13, .chain⟩ (by simp) (by rfl)
      clear hΦ hd
      obtain ⟨c, A, ⟨e0, e1⟩, hcn, hch, s8, s12⟩ := hG
      have hck : c = 2 := by
        have h2 := hlc.symm.trans e1
        simp at h2; omega
      subst hck
      have hx : ∃ x, u = (upd x 13 (.pointer (some ⟨w.heap.size, 0, none⟩))) := ⟨u, by rw [← upd_self hu13]⟩
      clear hu13
      obtain ⟨x, rfl⟩ := hx
      simp only [upd, reduceIte, Nat.reduceEqDiff]
      go_simp
      refine (wString w.heap.size _ _ _ hch.wr).mono ?_
      rintro e w4 ⟨rfl, rfl⟩
      exact hK _ _ v14.symm ⟨2, A, ⟨e0, e1⟩, hcn, hch, s8, s12⟩ (fun _ _ _ h => h)
    | 15, ho =>
      simp at ho; subst ho
      have hu14 : u 14 = V 14 := hΦ 14 (hd ⟨14, .data⟩ (by simp) (by rfl))
      rw [v14] at hu14
      clear hΦ hd
      have hx : ∃ x, u = (upd x 14 (.string (bs (lst 2)))) := ⟨u, by rw [← upd_self hu14]⟩
      clear hu14
      obtain ⟨x, rfl⟩ := hx
      simp only [upd, reduceIte, Nat.reduceEqDiff]
      go_simp
      exact hK _ _ v15.symm hG (fun _ _ _ h => h)
  · rintro u w3 hu L hall hG
    obtain ⟨c, A, ⟨e0, e1⟩, hcn, hch, s8, s12⟩ := hG
    have h15 : u 15 = V 15 := hu 15 (by simp)
    rw [v15] at h15
    clear hu
    rw [h15]
    have hby : lst 2 = udpWith fm tp ld sum := by rw [Q2.out, Q1.out, Q0.out]; exact udp_lst _ _ _ _
    rw [hby]
    have hfr := hf0.trans' hch.fr (fun b hb e => by unfold oneB at e; omega)
    generalize hR : udpWith fm tp ld sum = R at *
    have HR := Lib.hid hR
    clear hR
    go_wp2_with fail
    go_ret
    exact ⟨by rw [HR.out]; rfl, hfr⟩

set_option maxRecDepth 20000 in
set_option maxHeartbeats 1000000 in
theorem packetWriteUDP (fm tp fi ti : Nat) (ld : List UInt8) (w : World) (hfm : fm < 65536) (htp : tp < 65536) (hfi : fi < 4294967296) (hti : ti < 4294967296) (hld : ld.length ≤ 4611686018427387000) :
    Calls Tryz.prog 29 #[.agg #[.int .u16 (fm : Int), .int .u16 (tp : Int), .string (bs ld)], .int .u32 (fi : Int), .int .u32 (ti : Int)] w (strPost (wrUDP fm tp fi ti ld) w) := by
  have hpa := (Bk.new w 42 #[.int .u16 (fm : Int), .int .u16 (tp : Int), .string (bs ld)]).alloc (.cells #[.int .i64 (8 + (ld.length : Int))] 3)
  have hpn := Bk.new (w.alloc (.cells #[.int .u16 (fm : Int), .int .u16 (tp : Int), .string (bs ld)] 42)) 3 #[.int .i64 (8 + (ld.length : Int))]
  rw [show (w.alloc (.cells #[.int .u16 (fm : Int), .int .u16 (tp : Int), .string (bs ld)] 42)).heap.size = w.heap.size + 1 by simp] at hpn
  have hpa0 := (Bk.new w 42 #[.int .u16 (fm : Int), .int .u16 (tp : Int), .string (bs ld)]).cells
  have hpn0 := hpn.cells
  have hpa1 := hpa.cells
  have e8 : IntKind.i64.wrap (8 + (ld.length : Int)) = 8 + (ld.length : Int) := IntWalk.i64_in _ (by omega)
  have hmf : ∀ (fn : Fn) (first cap : Array Value) (w : World), (Instr.makeFunc fn first cap).run Tryz.prog w = .ok (.func fn first cap) w := fun _ _ _ _ => rfl
  have hf0 : Fr noB w ((w.alloc (.cells #[.int .u16 (fm : Int), .int .u16 (tp : Int), .string (bs ld)] 42)).alloc (.cells #[.int .i64 (8 + (ld.length : Int))] 3)) := ((Fr.refl _ _).alloc _).alloc _
  go_enter Tryz.func29, Tryz.ntmps29
  by_cases h1 : 1480 < 8 + ld.length
  · have hs : Hid (wrUDP fm tp fi ti ld = ([], 7)) := by unfold Hid wrUDP; rw [if_pos h1]
    have b1 : 1480 < 8 + (ld.length : Int) := by omega
    clear h1
    go_wp2_with fail
    go_ret2
    exact ⟨by rw [hs.out]; rfl, hf0⟩
  have b1 : ¬ 1480 < 8 + (ld.length : Int) := by omega
  have hs : Hid (wrUDP fm tp fi ti ld = (udpWith fm tp ld (udpSum fm tp fi ti ld), 0)) := by unfold Hid wrUDP; rw [if_neg h1]
  have hl2 : ld.length ≤ 1480 := by omega
  clear h1
  go_upto_region 4 with fail
  go_cut [9] from 11 to 17 (fun q wx => q = .func (.func 75) #[] #[.pointer (some ⟨w.heap.size, 0, none⟩), .pointer (some ⟨(w.heap.size + 1), 0, none⟩)] ∧ wx = (w.alloc (.cells #[.int .u16 (fm : Int), .int .u16 (tp : Int), .string (bs ld)] 42)).alloc (.cells #[.int .i64 (8 + (ld.length : Int))] 3))
  case first =>
    go_wp2_with fail
    go_meet
    case rel => exact ⟨rfl, rfl⟩
  case rest =>
  obtain ⟨rfl, rfl⟩ := hcut
  clear hpa0 hpn0 hpa1
  have Lld := Lib.hid hl2
  go_upto_region 5 with fail
  generalize (w.alloc (.cells #[.int .u16 (fm : Int), .int .u16 (tp : Int), .string (bs ld)] 42)).alloc (.cells #[.int .i64 (8 + (ld.length : Int))] 3) = w1 at *
  go_cut [10] from 11 to 25 (fun a wx => a = .int .u16 (udpSum0 fm tp fi ti ld : Int) ∧ Fr noB w wx ∧ Bk wx w.heap.size 42 #[.int .u16 (fm : Int), .int .u16 (tp : Int), .string (bs ld)] ∧ Bk wx (w.heap.size + 1) 3 #[.int .i64 (8 + (ld.length : Int))])
  case first =>
    obtain ⟨x1, Hx1⟩ : ∃ s : List UInt8, Hid (s = besideB fi ti (8 + ld.length)) := ⟨besideB fi ti (8 + ld.length), Lib.hid rfl⟩
    obtain ⟨x2, Hx2⟩ : ∃ s : List UInt8, Hid (s = udpWith fm tp ld 0) := ⟨udpWith fm tp ld 0, Lib.hid rfl⟩
    have Lx1 : Hid (x1.length ≤ 12) := by have lld := Lld.out; unfold Hid; rw [Hx1.out]; first | (rw [beside_length]; omega) | (rw [udpA_length]; omega) | (rw [udpWith_length]; omega) | (simp [big_length, macB, bigs_length] <;> omega)
    have Lx2 : Hid (x2.length ≤ 1488) := by have lld := Lld.out; have l_x1 := Lx1.out; unfold Hid; rw [Hx2.out]; first | (rw [beside_length]; omega) | (rw [udpA_length]; omega) | (rw [udpWith_length]; omega) | (simp [big_length, macB, bigs_length] <;> omega)
    obtain ⟨V, hV⟩ : ∃ V : Nat → Value, V = (fun j => match j with | 0 => .int .u32 (fi : Int) | 1 => .int .u32 (ti : Int) | 2 => .int .i64 (8 + (ld.length : Int)) | 3 => .string (bs x1) | 4 => .func (.func 75) #[] #[.pointer (some ⟨w.heap.size, 0, none⟩), .pointer (some ⟨(w.heap.size + 1), 0, none⟩)] | 5 => .string (bs x2) | 7 => .int .u16 (check (x1 ++ x2) : Int) | 8 => .int .u16 (check (x1 ++ x2) : Int) | _ => undef) := ⟨_, rfl⟩
    have v0 : V 0 = .int .u32 (fi : Int) := congrFun hV 0
    have v1 : V 1 = .int .u32 (ti : Int) := congrFun hV 1
    have v2 : V 2 = .int .i64 (8 + (ld.length : Int)) := congrFun hV 2
    have v3 : V 3 = .string (bs x1) := congrFun hV 3
    have v4 : V 4 = .func (.func 75) #[] #[.pointer (some ⟨w.heap.size, 0, none⟩), .pointer (some ⟨(w.heap.size + 1), 0, none⟩)] := congrFun hV 4
    have v5 : V 5 = .string (bs x2) := congrFun hV 5
    have v7 : V 7 = .int .u16 (check (x1 ++ x2) : Int) := congrFun hV 7
    have v8 : V 8 = .int .u16 (check (x1 ++ x2) : Int) := congrFun hV 8
    clear hV
    refine wp_region_ssau_plain (by kernel_rfl) (by kernel_rfl) (by kernel_rfl)
      (fun u => ⟨#[.agg #[.int .u16 (fm : Int), .int .u16 (tp : Int), .string (bs ld)], .int .u32 (fi : Int), .int .u32 (ti : Int), .pointer (some ⟨w.heap.size, 0, none⟩), undef, undef, .string ⟨#[]⟩, .int .i64 0, .pointer (some ⟨(w.heap.size + 1), 0, none⟩), .func (.func 75) #[] #[.pointer (some ⟨w.heap.size, 0, none⟩), .pointer (some ⟨(w.heap.size + 1), 0, none⟩)], u 8, u11, u12, u13, u14, u15, u16, u17, u 0, u 1, u 2, u 3, u 4, u 5, u 6, u 7, undef, undef, undef, undef, undef], []⟩)
      (fun j v w3 => if j = 6 then True else v = V j)
      (fun L u w3 => Fr noB w1 w3 ∧ AlS (L 6) (u 6) 2 9 #[.string (bs x1), .string (bs x2)] 0 none w3) (fun j => undef) ⟨(Fr.refl _ _), AlS.false⟩ ?_ ?_
    · rintro L u w3 i o hG hΦ ho hL hd K hK
      match i, ho with
      | 0, ho =>
        simp at ho; subst ho
        clear hΦ hd
        go_simp
        exact hK _ _ v0.symm hG (fun _ _ _ h => h)
      | 1, ho =>
        simp at ho; subst ho
        clear hΦ hd
        go_simp
        exact hK _ _ v1.symm hG (fun _ _ _ h => h)
      | 2, ho =>
        simp at ho; subst ho
        clear hΦ hd
        obtain ⟨hG0, s6⟩ := hG
        have hc0 := ((hpn).keep hG0 (fun x => x)).cells
        go_simp
        exact hK _ _ v2.symm ⟨hG0, s6⟩ (fun _ _ _ h => h)
      | 3, ho =>
        simp at ho; subst ho
        have hu0 : u 0 = V 0 := hΦ 0 (hd ⟨0, .data⟩ (by simp) (by rfl))
        rw [v0] at hu0
        have hu1 : u 1 = V 1 := hΦ 1 (hd ⟨1, .data⟩ (by simp) (by rfl))
        rw [v1] at hu1
        have hu2 : u 2 = V 2 := hΦ 2 (hd ⟨2, .data⟩ (by simp) (by rfl))
        rw [v2] at hu2
        clear hΦ hd
        obtain ⟨hG0, s6⟩ := hG
        have hx : ∃ x, u = (upd (upd (upd x 0 (.int .u32 (fi : Int))) 1 (.int .u32 (ti : Int))) 2 (.int .i64 (8 + (ld.length : Int)))) := ⟨u, by rw [← upd_self hu0, ← upd_self hu1, ← upd_self hu2]⟩
        clear hu0 hu1 hu2
        obtain ⟨x, rfl⟩ := hx
        simp only [upd, reduceIte, Nat.reduceEqDiff]
        go_simp
        refine (pseudoFn fi ti (8 + (ld.length : Int)) w3 hfi hti (by omega) (by omega)).mono ?_
        rintro e w4 ⟨rfl, hf4⟩
        rw [show (8 + (ld.length : Int)).toNat = 8 + ld.length by omega, ← Hx1.out]
        exact hK _ _ v3.symm ⟨(hG0.none hf4), AlS.quiet s6 hf4⟩ (fun _ _ _ h => h)
      | 4, ho =>
        simp at ho; subst ho
        clear hΦ hd
        go_simp
        exact hK _ _ v4.symm hG (fun _ _ _ h => h)
      | 5, ho =>
        simp at ho; subst ho
        have hu4 : u 4 = V 4 := hΦ 4 (hd ⟨4, .data⟩ (by simp) (by rfl))
        rw [v4] at hu4
        clear hΦ hd
        obtain ⟨hG0, s6⟩ := hG
        have hx : ∃ x, u = (upd x 4 (.func (.func 75) #[] #[.pointer (some ⟨w.heap.size, 0, none⟩), .pointer (some ⟨(w.heap.size + 1), 0, none⟩)])) := ⟨u, by rw [← upd_self hu4]⟩
        clear hu4
        obtain ⟨x, rfl⟩ := hx
        simp only [upd, reduceIte, Nat.reduceEqDiff]
        go_simp
        refine (udpWithFn fm tp ld 0 w.heap.size (w.heap.size + 1) w3 hfm htp (by omega) hl2 (hpa.keep hG0 (fun x => x)) (hpn.keep hG0 (fun x => x))).mono ?_
        rintro e w4 ⟨rfl, hf4⟩
        rw [← Hx2.out]
        exact hK _ _ v5.symm ⟨(hG0.none hf4), AlS.quiet s6 hf4⟩ (fun _ _ _ h => h)
      | 6, ho =>
        simp at ho; subst ho
        have hu3 : u 3 = V 3 := hΦ 3 (hd ⟨3, .data⟩ (by simp) (by rfl))
        rw [v3] at hu3
        have hu5 : u 5 = V 5 := hΦ 5 (hd ⟨5, .data⟩ (by simp) (by rfl))
        rw [v5] at hu5
        clear hΦ hd
        obtain ⟨hG0, s6⟩ := hG
        have hx : ∃ x, u = (upd (upd x 3 (.string (bs x1))) 5 (.string (bs x2))) := ⟨u, by rw [← upd_self hu3, ← upd_self hu5]⟩
        clear hu3 hu5
        obtain ⟨x, rfl⟩ := hx
        simp only [upd, reduceIte, Nat.reduceEqDiff]
        go_simp
        exact hK _ _ trivial ⟨(hG0.alloc _), AlS.new0 w3 2 9 #[.string (bs x1), .string (bs x2)]⟩ (fun _ _ _ h => h)
      | 7, ho =>
        simp at ho; subst ho
        have hl6 : L 6 = true := hd ⟨6, .data⟩ (by simp) (by rfl)
        clear hΦ hd
        obtain ⟨hG0, s6⟩ := hG
        obtain ⟨g6, hg6, hb6, -, -⟩ := s6 hl6
        have hx : ∃ x, u = (upd x 6 (.slice (some ⟨g6, 0, none⟩) 2 2)) := ⟨u, by rw [← upd_self hg6]⟩
        clear hg6
        obtain ⟨x, rfl⟩ := hx
        simp only [upd, reduceIte, Nat.reduceEqDiff]
        go_simp
        refine (hashCheck_two _ 2 x1 x2 w3 (SlR.of_bk (n := 2) (size := 1) hb6 (fun x => x) rfl) (by have := Lx1.out; omega) (by have := Lx2.out; omega)).mono ?_
        rintro e w4 ⟨rfl, rfl⟩
        exact hK _ _ v7.symm ⟨hG0, s6⟩ (fun _ _ _ h => h)
      | 8, ho =>
        simp at ho; subst ho
        have hu7 : u 7 = V 7 := hΦ 7 (hd ⟨7, .data⟩ (by simp) (by rfl))
        rw [v7] at hu7
        clear hΦ hd
        have hx : ∃ x, u = (upd x 7 (.int .u16 (check (x1 ++ x2) : Int))) := ⟨u, by rw [← upd_self hu7]⟩
        clear hu7
        obtain ⟨x, rfl⟩ := hx
        simp only [upd, reduceIte, Nat.reduceEqDiff]
        go_simp
        exact hK _ _ v8.symm hG (fun _ _ _ h => h)
    · rintro u w3 hu L hall hG
      obtain ⟨hG0, s6⟩ := hG
      have h8 : u 8 = V 8 := hu 8 (by simp)
      rw [v8] at h8
      clear hu hall
      rw [h8]
      have hA : check (x1 ++ x2) = udpSum0 fm tp fi ti ld := by rw [Hx1.out, Hx2.out]; exact udpSum0_eq _ _ _ _ _
      rw [hA]
      generalize udpSum0 fm tp fi ti ld = R at *
      go_wp2_with fail
      go_meet
      case rel => exact ⟨rfl, hf0.none hG0, hpa.keep hG0 (fun x => x), hpn.keep hG0 (fun x => x)⟩
  case rest =>
  obtain ⟨rfl, hf5, hpa5, hpn5⟩ := hcut
  clear hf0 hpa hpn w1
  have hu0 : Hid (udpSum fm tp fi ti ld = if udpSum0 fm tp fi ti ld = 0 then 65535 else udpSum0 fm tp fi ti ld) := rfl
  generalize udpSum0 fm tp fi ti ld = s0 at *
  obtain ⟨sm, Hsm⟩ : ∃ sm, Hid (sm = udpSum fm tp fi ti ld) := ⟨_, Lib.hid rfl⟩
  have Lsm : Hid (sm ≤ 65535) := by unfold Hid; rw [Hsm.out]; exact udpSum_le _ _ _ _ _
  go_upto_if 27 with fail
  go_cut [10] from 11 to 27 (fun a wx => a = .int .u16 (sm : Int) ∧ wx = wc)
  case first =>
    by_cases h0 : s0 = 0
    · have b0 : ((s0 : Int) == 0) = true := by simp; omega
      have hsm : Hid (sm = 65535) := by unfold Hid; rw [Hsm.out, hu0.out, if_pos h0]
      clear h0
      rw [b0]
      go_wp2_with fail
      go_meet
      case rel => exact ⟨by rw [hsm.out]; rfl, rfl⟩
    · have b0 : ((s0 : Int) == 0) = false := by simp; omega
      have hsm : Hid (sm = s0) := by unfold Hid; rw [Hsm.out, hu0.out, if_neg h0]
      clear h0
      rw [b0]
      go_wp2_with fail
      go_meet
      case rel => exact ⟨by rw [hsm.out], rfl⟩
  case rest =>
  obtain ⟨rfl, rfl⟩ := hcut
  obtain ⟨w1, rfl⟩ : ∃ w1, w1 = wc := ⟨_, rfl⟩
  have hf0 := hf5
  have hpa := hpa5
  have hpn := hpn5
  clear hf5 hpa5 hpn5
  go_upto_region 8 with fail
  obtain ⟨x3, Hx3⟩ : ∃ s : List UInt8, Hid (s = udpWith fm tp ld sm) := ⟨udpWith fm tp ld sm, Lib.hid rfl⟩
  have Lx3 : Hid (x3.length ≤ 1488) := by have lld := Lld.out; unfold Hid; rw [Hx3.out]; first | (rw [beside_length]; omega) | (rw [udpA_length]; omega) | (rw [udpWith_length]; omega) | (simp [big_length, macB, bigs_length] <;> omega)
  obtain ⟨V, hV⟩ : ∃ V : Nat → Value, V = (fun j => match j with | 0 => .func (.func 75) #[] #[.pointer (some ⟨w.heap.size, 0, none⟩), .pointer (some ⟨(w.heap.size + 1), 0, none⟩)] | 1 => .int .u16 (sm : Int) | 2 => .string (bs x3) | 3 => .string (bs x3) | 4 => .int .i64 0 | _ => undef) := ⟨_, rfl⟩
  have v0 : V 0 = .func (.func 75) #[] #[.pointer (some ⟨w.heap.size, 0, none⟩), .pointer (some ⟨(w.heap.size + 1), 0, none⟩)] := congrFun hV 0
  have v1 : V 1 = .int .u16 (sm : Int) := congrFun hV 1
  have v2 : V 2 = .string (bs x3) := congrFun hV 2
  have v3 : V 3 = .string (bs x3) := congrFun hV 3
  have v4 : V 4 = .int .i64 0 := congrFun hV 4
  clear hV
  refine wp_region_ssau_plain (by kernel_rfl) (by kernel_rfl) (by kernel_rfl)
    (fun u => ⟨#[.agg #[.int .u16 (fm : Int), .int .u16 (tp : Int), .string (bs ld)], .int .u32 (fi : Int), .int .u32 (ti : Int), .pointer (some ⟨w.heap.size, 0, none⟩), undef, undef, u 3, u 4, .pointer (some ⟨(w.heap.size + 1), 0, none⟩), .func (.func 75) #[] #[.pointer (some ⟨w.heap.size, 0, none⟩), .pointer (some ⟨(w.heap.size + 1), 0, none⟩)], .int .u16 (sm : Int), u11, u12, u13, u14, u15, u16, u17, u18, u19, u20, u21, u22, u23, u24, u25, u26, u27, u 0, u 1, u 2], []⟩)
    (fun j v w3 => v = V j)
    (fun L u w3 => Fr noB w1 w3) (fun j => if j = 3 then .string ⟨#[]⟩ else if j = 4 then .int .i64 0 else undef) ((Fr.refl _ _)) ?_ ?_
  · rintro L u w3 i o hG hΦ ho hL hd K hK
    match i, ho with
    | 0, ho =>
      simp at ho; subst ho
      clear hΦ hd
      go_simp
      exact hK _ _ v0.symm hG (fun _ _ _ h => h)
    | 1, ho =>
      simp at ho; subst ho
      clear hΦ hd
      go_simp
      exact hK _ _ v1.symm hG (fun _ _ _ h => h)
    | 2, ho =>
      simp at ho; subst ho
      have hu0 : u 0 = V 0 := hΦ 0 (hd ⟨0, .data⟩ (by simp) (by rfl))
      rw [v0] at hu0
      have hu1 : u 1 = V 1 := hΦ 1 (hd ⟨1, .data⟩ (by simp) (by rfl))
      rw [v1] at hu1
      clear hΦ hd
      have hG0 := hG
      have hx : ∃ x, u = (upd (upd x 0 (.func (.func 75) #[] #[.pointer (some ⟨w.heap.size, 0, none⟩), .pointer (some ⟨(w.heap.size + 1), 0, none⟩)])) 1 (.int .u16 (sm : Int))) := ⟨u, by rw [← upd_self hu0, ← upd_self hu1]⟩
      clear hu0 hu1
      obtain ⟨x, rfl⟩ := hx
      simp only [upd, reduceIte, Nat.reduceEqDiff]
      go_simp
      refine (udpWithFn fm tp ld sm w.heap.size (w.heap.size + 1) w3 hfm htp (by have := Lsm.out; omega) hl2 (hpa.keep hG0 (fun x => x)) (hpn.keep hG0 (fun x => x))).mono ?_
      rintro e w4 ⟨rfl, hf4⟩
      rw [← Hx3.out]
      exact hK _ _ v2.symm (hG0.none hf4) (fun _ _ _ h => h)
    | 3, ho =>
      simp at ho; subst ho
      have hu2 : u 2 = V 2 := hΦ 2 (hd ⟨2, .data⟩ (by simp) (by rfl))
      rw [v2] at hu2
      clear hΦ hd
      have hx : ∃ x, u = (upd x 2 (.string (bs x3))) := ⟨u, by rw [← upd_self hu2]⟩
      clear hu2
      obtain ⟨x, rfl⟩ := hx
      simp only [upd, reduceIte, Nat.reduceEqDiff]
      go_simp
      exact hK _ _ v3.symm hG (fun _ _ _ h => h)
    | 4, ho =>
      simp at ho; subst ho
      clear hΦ hd
      go_simp
      exact hK _ _ v4.symm hG (fun _ _ _ h => h)
  · rintro u w3 hu L hall hG
    have hG0 := hG
    have h3 : u 3 = V 3 := hu 3 (by simp)
    rw [v3] at h3
    have h4 : u 4 = V 4 := hu 4 (by simp)
    rw [v4] at h4
    clear hu hall
    rw [h3, h4]
    have hfr := hf0.none hG0
    have hA : x3 = udpWith fm tp ld (udpSum fm tp fi ti ld) := by rw [Hx3.out, Hsm.out]
    rw [hA]
    clear hA
    generalize udpWith fm tp ld (udpSum fm tp fi ti ld) = R at *
    go_wp2_with fail
    go_ret2
    exact ⟨by rw [hs.out]; rfl, hfr⟩
theorem bootWriteUDP (fm tp fi ti : Nat) (ld : List UInt8) (w : World) (hfm : fm < 65536) (htp : tp < 65536) (hfi : fi < 4294967296) (hti : ti < 4294967296) (hld : ld.length ≤ 4611686018427387000) :
    Calls Tryz.prog 14 #[.agg #[.int .u16 (fm : Int), .int .u16 (tp : Int), .string (bs ld)], .int .u32 (fi : Int), .int .u32 (ti : Int)] w (strPost (wrUDP fm tp fi ti ld) w) := by
  have hpa := (Bk.new w 42 #[.int .u16 (fm : Int), .int .u16 (tp : Int), .string (bs ld)]).cells
  have hf0 : Fr noB w (w.alloc (.cells #[.int .u16 (fm : Int), .int .u16 (tp : Int), .string (bs ld)] 42)) := (Fr.refl _ _).alloc _
  go_enter Tryz.func14, Tryz.ntmps14
  go_wp2_with fail
  refine (packetWriteUDP fm tp fi ti ld _ hfm htp hfi hti hld).mono ?_
  rintro e w2 ⟨rfl, hf2⟩
  generalize wrUDP fm tp fi ti ld = R at *
  go_wp2_with fail
  go_ret2
  exact ⟨rfl, hf0.none hf2⟩

end Go.Proofs.YtcbkaiakdhiloabGreatDoor
namespace Go.Proofs.YtcbkaiakdhiloabGreatDoor

theorem ipHead_zero (id : Nat) (ttl pr : UInt8) (fi ti n : Nat) : check (ipHead id ttl pr fi ti n (check (ipHead id ttl pr fi ti n 0))) = 0 := by
  unfold ipHead
  rw [show big 2 0 = [0, 0] by decide]
  exact check_laid _ _ (by simp [ipHd1, big_length])
theorem take_head {a b : List UInt8} {n : Nat} (h : a.length = n) : sub (a ++ b) 0 n = a := by
  subst h; simp [sub]
theorem readIP_written (id : Nat) (ttl pr : UInt8) (fi ti : Nat) (ld r : List UInt8) (hid : id < 65536) (hfi : fi < 4294967296) (hti : ti < 4294967296) (ht : ttl.toNat ≠ 0) (hl : ld.length ≤ 1480) :
    readIP (ipBytes id ttl pr fi ti ld ++ r) = (⟨id, ttl.toNat, pr.toNat, fi, ti, ld⟩, 0) := by
  have hz := ipHead_zero id ttl pr fi ti ld.length
  have hlen := ipHead_length id ttl pr fi ti ld.length (check (ipHead id ttl pr fi ti ld.length 0))
  have hs : sub (ipBytes id ttl pr fi ti ld ++ r) 0 20 = ipHead id ttl pr fi ti ld.length (check (ipHead id ttl pr fi ti ld.length 0)) := by
    unfold ipBytes; rw [List.append_assoc]; exact take_head hlen
  have hln : (ipBytes id ttl pr fi ti ld ++ r).length = 20 + ld.length + r.length := by unfold ipBytes; simp [hlen]; omega
  rw [readIP_of (ipBytes id ttl pr fi ti ld ++ r) [69] [0] (big 2 (20 + ld.length)) (big 2 id) [64, 0] [ttl] [pr] (big 2 (check (ipHead id ttl pr fi ti ld.length 0))) (big 4 fi) (big 4 ti) (ld ++ r)
    (by unfold ipBytes ipHead ipHd1 ipHd2; simp [List.append_assoc]) rfl rfl (big_length _ _) (big_length _ _) rfl rfl rfl (big_length _ _) (big_length _ _) (big_length _ _), hs, hz, hln,
    num_big 2 _ (by omega), num_big 2 _ (by omega), num_big 4 _ (by omega), num_big 4 _ (by omega)]
  have e1 : num [69] = 69 := by decide
  have e2 : num [64, 0] = 16384 := by decide
  have e3 : num [ttl] = ttl.toNat := by simp [num]
  have e4 : num [pr] = pr.toNat := by simp [num]
  rw [e1, e2, e3, e4, if_neg (by omega), if_neg (by omega), if_neg (by omega), if_neg (by omega), if_neg (by omega), if_neg (by omega), if_neg (by omega)]
  rw [show 20 + ld.length - 20 = ld.length by omega, List.take_left' rfl]
theorem readIP_sum (l : List UInt8) (h : check (sub l 0 20) ≠ 0) : (readIP l).2 ≠ 0 := by
  unfold readIP
  repeat' (first | (split; · simp) | skip)
  all_goals first | simp | (exfalso; contradiction)
theorem readIP_spoilt (id : Nat) (ttl pr : UInt8) (fi ti : Nat) (ld : List UInt8) (k : Nat) (b b' : UInt8) (hk : k < 20) (hb : (ipBytes id ttl pr fi ti ld)[k]? = some b) (hne : b' ≠ b) :
    (readIP ((ipBytes id ttl pr fi ti ld).set k b')).2 ≠ 0 := by
  apply readIP_sum
  have hlen := ipHead_length id ttl pr fi ti ld.length (check (ipHead id ttl pr fi ti ld.length 0))
  have hs : sub ((ipBytes id ttl pr fi ti ld).set k b') 0 20 = (ipHead id ttl pr fi ti ld.length (check (ipHead id ttl pr fi ti ld.length 0))).set k b' := by
    unfold ipBytes
    rw [List.set_append_left _ _ (by omega)]
    exact take_head (by rw [List.length_set]; exact hlen)
  rw [hs]
  refine check_set _ k b b' (ipHead_zero id ttl pr fi ti ld.length) ?_ hne
  unfold ipBytes at hb
  rw [List.getElem?_append_left (by omega)] at hb
  exact hb

theorem udp_zero (fm tp fi ti : Nat) (ld : List UInt8) : check (besideB fi ti (8 + ld.length) ++ udpWith fm tp ld (udpSum fm tp fi ti ld)) = 0 := by
  have he : (besideB fi ti (8 + ld.length) ++ udpA fm tp (8 + ld.length)).length % 2 = 0 := by simp [besideB, udpA, big_length]
  have e : ∀ s, besideB fi ti (8 + ld.length) ++ udpWith fm tp ld s = (besideB fi ti (8 + ld.length) ++ udpA fm tp (8 + ld.length)) ++ big 2 s ++ ld := by
    intro s; unfold udpWith; simp [List.append_assoc]
  rw [e]
  unfold udpSum
  split
  · rename_i h
    exact check_laid' _ _ he (by unfold udpSum0 at h; exact h)
  · unfold udpSum0; exact check_laid _ _ he
theorem udpSum_ne (fm tp fi ti : Nat) (ld : List UInt8) : udpSum fm tp fi ti ld ≠ 0 := by
  unfold udpSum; split <;> omega
theorem readUDP_written (fm tp fi ti : Nat) (ld r : List UInt8) (hfm : fm < 65536) (htp : tp < 65536) (hl : ld.length ≤ 1480) :
    readUDP (udpWith fm tp ld (udpSum fm tp fi ti ld) ++ r) fi ti = (⟨fm, tp, ld⟩, 0) := by
  have hsl := udpSum_le fm tp fi ti ld
  have hln : (udpWith fm tp ld (udpSum fm tp fi ti ld) ++ r).length = 8 + ld.length + r.length := by rw [List.length_append, udpWith_length]
  rw [readUDP_of (udpWith fm tp ld (udpSum fm tp fi ti ld) ++ r) (big 2 fm) (big 2 tp) (big 2 (8 + ld.length)) (big 2 (udpSum fm tp fi ti ld)) (ld ++ r) fi ti
    (by unfold udpWith udpA; simp [List.append_assoc]) (big_length _ _) (big_length _ _) (big_length _ _) (big_length _ _), hln,
    num_big 2 _ (by omega), num_big 2 _ (by omega), num_big 2 _ (by omega), num_big 2 _ (by omega), take_head (udpWith_length _ _ _ _), udp_zero]
  rw [if_neg (by omega), if_neg (by omega), if_neg (by simp), show 8 + ld.length - 8 = ld.length by omega, List.take_left' rfl]
/-- a datagram whose sum is laid in, and is not the sum -/
theorem readUDP_bad (l : List UInt8) (fi ti : Nat) (h8 : 8 ≤ l.length) (hn : num (sub l 4 6) = l.length) (hs : num (sub l 6 8) ≠ 0) (hc : check (besideB fi ti l.length ++ l) ≠ 0) : readUDP l fi ti = (udp0, 6) := by
  unfold readUDP
  rw [hn, if_neg (by omega), if_neg (by omega), if_neg (by omega), sub_all, if_pos ⟨hs, hc⟩]
theorem num2_ne (l : List UInt8) (x y : UInt8) (h6 : l[6]? = some x) (h7 : l[7]? = some y) (h : ¬ (x = 0 ∧ y = 0)) : num (sub l 6 8) ≠ 0 := by
  match l, h6, h7 with
  | a0 :: a1 :: a2 :: a3 :: a4 :: a5 :: x' :: y' :: r, h6, h7 =>
    simp at h6 h7
    subst h6 h7
    have e : sub (a0 :: a1 :: a2 :: a3 :: a4 :: a5 :: x' :: y' :: r) 6 8 = [x', y'] := rfl
    rw [e]
    intro h0
    have h1 : x'.toNat * 256 + y'.toNat = 0 := by simp [num] at h0; omega
    exact h ⟨UInt8.toNat_inj.1 (by simp; omega), UInt8.toNat_inj.1 (by simp; omega)⟩
theorem sub_set (l : List UInt8) (k : Nat) (b : UInt8) (h : k < 4 ∨ 6 ≤ k) : sub (l.set k b) 4 6 = sub l 4 6 := by
  apply List.ext_getElem?
  intro i
  simp only [sub, List.getElem?_drop, List.getElem?_take, List.getElem?_set]
  split
  · rw [if_neg (by omega)]
  · rfl
theorem udp_n (fm tp s : Nat) (ld : List UInt8) (hl : ld.length ≤ 1480) : num (sub (udpWith fm tp ld s) 4 6) = 8 + ld.length := by
  have e : sub (udpWith fm tp ld s) 4 6 = big 2 (8 + ld.length) := by
    unfold udpWith udpA
    have h1 : (big 2 fm ++ big 2 tp).length = 4 := by simp [big_length]
    have h2 : (big 2 (8 + ld.length)).length = 2 := big_length _ _
    rw [show big 2 fm ++ big 2 tp ++ big 2 (8 + ld.length) ++ big 2 s ++ ld = (big 2 fm ++ big 2 tp) ++ (big 2 (8 + ld.length) ++ (big 2 s ++ ld)) by simp [List.append_assoc]]
    unfold sub
    rw [List.take_append, List.drop_append, h1, List.take_of_length_le (by omega), List.drop_of_length_le (by omega), show 6 - 4 = 2 by rfl, List.take_append_of_le_length (by omega), List.take_of_length_le (by omega)]
    simp [big_length]
  rw [e, num_big 2 _ (by omega)]
theorem readUDP_spoilt (fm tp fi ti : Nat) (ld : List UInt8) (k : Nat) (b b' x y : UInt8) (hl : ld.length ≤ 1480) (hk : k < 4 ∨ 6 ≤ k) (hb : (udpWith fm tp ld (udpSum fm tp fi ti ld))[k]? = some b) (hne : b' ≠ b)
    (h6 : ((udpWith fm tp ld (udpSum fm tp fi ti ld)).set k b')[6]? = some x) (h7 : ((udpWith fm tp ld (udpSum fm tp fi ti ld)).set k b')[7]? = some y) (hxy : ¬ (x = 0 ∧ y = 0)) :
    readUDP ((udpWith fm tp ld (udpSum fm tp fi ti ld)).set k b') fi ti = (udp0, 6) := by
  have hlen : ((udpWith fm tp ld (udpSum fm tp fi ti ld)).set k b').length = 8 + ld.length := by rw [List.length_set, udpWith_length]
  refine readUDP_bad _ fi ti (by omega) (by rw [sub_set _ _ _ hk, udp_n _ _ _ _ hl, hlen]) (num2_ne _ x y h6 h7 hxy) ?_
  rw [hlen]
  have e : besideB fi ti (8 + ld.length) ++ (udpWith fm tp ld (udpSum fm tp fi ti ld)).set k b' = (besideB fi ti (8 + ld.length) ++ udpWith fm tp ld (udpSum fm tp fi ti ld)).set (12 + k) b' := by
    rw [List.set_append_right _ _ (by rw [beside_length]; omega), beside_length, show 12 + k - 12 = k by omega]
  rw [e]
  refine check_set _ _ b b' (udp_zero _ _ _ _ _) ?_ hne
  rw [List.getElem?_append_right (by rw [beside_length]; omega), beside_length, show 12 + k - 12 = k by omega]
  exact hb
theorem beside_sum (fi ti n : Nat) (hfi : fi < 4294967296) (hti : ti < 4294967296) (hn : n < 65536) : wsum false (besideB fi ti n) = (fi / 65536 + fi % 65536) + (ti / 65536 + ti % 65536) + 17 + n := by
  unfold besideB
  rw [wsum_even _ _ (by simp [big_length]), wsum_even _ _ (by simp [big_length]), wsum_even _ _ (by simp [big_length]), wsum_big4 _ hfi, wsum_big4 _ hti, wsum_big2 _ hn]
  simp [wsum]
/-- to another address -/
theorem readUDP_other (fm tp fi ti : Nat) (ld : List UInt8) (hl : ld.length ≤ 1480) (hfi : fi < 4294967296) (hti : ti + 1 < 4294967296) (ht : ti % 65536 < 65535) :
    readUDP (udpWith fm tp ld (udpSum fm tp fi ti ld)) fi (ti + 1) = (udp0, 6) := by
  have hlen := udpWith_length fm tp ld (udpSum fm tp fi ti ld)
  have hsl := udpSum_le fm tp fi ti ld
  have hz := udp_zero fm tp fi ti ld
  have hsn : num (sub (udpWith fm tp ld (udpSum fm tp fi ti ld)) 6 8) ≠ 0 := by
    have e : sub (udpWith fm tp ld (udpSum fm tp fi ti ld)) 6 8 = big 2 (udpSum fm tp fi ti ld) := by
      unfold udpWith
      have h1 : (udpA fm tp (8 + ld.length)).length = 6 := udpA_length _ _ _
      have h2 : (big 2 (udpSum fm tp fi ti ld)).length = 2 := big_length _ _
      rw [List.append_assoc]
      unfold sub
      rw [List.take_append, List.drop_append, h1, List.take_of_length_le (by omega), List.drop_of_length_le (by omega), show 8 - 6 = 2 by rfl, List.take_append_of_le_length (by omega), List.take_of_length_le (by omega)]
      simp [h1]
    rw [e, num_big 2 _ (by omega)]
    exact udpSum_ne _ _ _ _ _
  refine readUDP_bad _ fi (ti + 1) (by omega) (by rw [udp_n _ _ _ _ hl, hlen]) hsn ?_
  rw [hlen]
  rw [check_zero, wsum_even _ _ (by rw [beside_length])] at hz
  intro h2
  rw [check_zero, wsum_even _ _ (by rw [beside_length])] at h2
  rw [beside_sum _ _ _ hfi (by omega) (by omega)] at hz
  rw [beside_sum _ _ _ hfi hti (by omega)] at h2
  omega
end Go.Proofs.YtcbkaiakdhiloabGreatDoor
