/- Parts of the walk; written by programs, merged. -/
import Derived.Test.YtcbkaiakdhiloabGreatDoorMaa
import Derived.Test.YtcbkaiakdhiloabGreatDoorMab
import Derived.Test.YtcbkaiakdhiloabGreatDoorMac
import Derived.Test.YtcbkaiakdhiloabGreatDoorProg
import Derived.WalkKit
import Derived.WalkLawsBesides
import Derived.WalkSpells
import Derived.Deep.AppendLies
import Derived.Deep.DrawnRows
import Derived.Maps.AppendAt
import Derived.StillTailTactics
import Derived.Lib.Hide
import Derived.Lib.AppendStr
import Derived.Lib.Strings
import Derived.Laws.MakeOwn
import Derived.Laws.OwnMore
import Derived.Laws.BitsAllLaws
import Derived.Orders
import Derived.Deep.MidRow
import Derived.Deep.DeepMust
import Derived.Deep.RegionHeld3
import Derived.Deep.RegionLaw
import Derived.Deep.LoopGhost
import Derived.Deep.QuietTactic
import Derived.BigQuiet
import Derived.Deep.Cut
import Derived.Deep.CutRange
import Derived.Lib.ConvBytes
import Derived.Lib.LazyBuf
import Derived.Recover
set_option linter.unusedSimpArgs false
set_option linter.unusedVariables false
namespace Go.Proofs.YtcbkaiakdhiloabGreatDoor
open Go.RowKit Go.Proofs
attribute [local go_sem] bs_size bs_append bs_sub bs_toList
def udpA (fm tp n : Nat) : List UInt8 := big 2 fm ++ big 2 tp ++ big 2 n
def udpWith (fm tp : Nat) (ld : List UInt8) (sum : Nat) : List UInt8 := udpA fm tp (8 + ld.length) ++ big 2 sum ++ ld
def udpSum0 (fm tp fi ti : Nat) (ld : List UInt8) : Nat := check (besideB fi ti (8 + ld.length) ++ udpA fm tp (8 + ld.length) ++ [0, 0] ++ ld)
def udpSum (fm tp fi ti : Nat) (ld : List UInt8) : Nat := if udpSum0 fm tp fi ti ld = 0 then 65535 else udpSum0 fm tp fi ti ld
def wrUDP (fm tp fi ti : Nat) (ld : List UInt8) : List UInt8 × Nat := if 1480 < 8 + ld.length then ([], 7) else (udpWith fm tp ld (udpSum fm tp fi ti ld), 0)
theorem udpSum_le (fm tp fi ti : Nat) (ld : List UInt8) : udpSum fm tp fi ti ld ≤ 65535 := by
  unfold udpSum; split
  · omega
  · exact check_le _
theorem udpWith_length (fm tp : Nat) (ld : List UInt8) (sum : Nat) : (udpWith fm tp ld sum).length = 8 + ld.length := by simp [udpWith, udpA, big_length]; omega
theorem udpSum0_eq (fm tp fi ti : Nat) (ld : List UInt8) : check (besideB fi ti (8 + ld.length) ++ udpWith fm tp ld 0) = udpSum0 fm tp fi ti ld := by
  have e : big 2 0 = [0, 0] := by decide
  unfold udpSum0 udpWith; rw [e]; simp only [List.append_assoc]
theorem udp_lst (fm tp sum : Nat) (ld : List UInt8) : ([] ++ bigs 2 [(fm : Int), (tp : Int), (8 + (ld.length : Int)), (sum : Int)] ++ List.flatten [ld]) = udpWith fm tp ld sum := by
  have e1 : (8 + (ld.length : Int)).toNat = 8 + ld.length := by omega
  simp only [bigs, List.flatMap_cons, List.flatMap_nil, List.append_nil, e1, Int.toNat_natCast, List.nil_append, List.flatten_cons, List.flatten_nil, udpWith, udpA, List.append_assoc]
set_option maxRecDepth 20000 in
set_option maxHeartbeats 1000000 in
theorem udpWithFn (fm tp : Nat) (ld : List UInt8) (sum q qn : Nat) (w : World) (hfm : fm < 65536) (htp : tp < 65536) (hsum : sum < 65536) (hl2 : ld.length ≤ 1480) (hq : Bk w q 42 #[.int .u16 (fm : Int), .int .u16 (tp : Int), .string (bs ld)]) (hqn : Bk w qn 3 #[.int .i64 (8 + (ld.length : Int))]) :
    Calls Tryz.prog 75 #[.int .u16 (sum : Int), .pointer (some ⟨q, 0, none⟩), .pointer (some ⟨qn, 0, none⟩)] w (fun e w' => e = .returned (.string (bs (udpWith fm tp ld sum))) ∧ Fr noB w w') := by
  have hql := hq.lt
  have hqnl := hqn.lt
  have hpa := hq.alloc (.cells #[.slice none 0 0] 125)
  have hpn := hqn.alloc (.cells #[.slice none 0 0] 125)
  have hbw := Bk.new w 125 #[.slice none 0 0]
  have hf0 : Fr noB w (w.alloc (.cells #[.slice none 0 0] 125)) := (Fr.refl _ _).alloc _
  have hsz : (w.alloc (.cells #[.slice none 0 0] 125)).heap.size = w.heap.size + 1 := by simp
  go_enter Tryz.func75, Tryz.ntmps75
  go_upto_region 2 with fail
  generalize w.alloc (.cells #[.slice none 0 0] 125) = w1 at *
  have hwr0 := Wr.zero hbw
  obtain ⟨lst, Q0, Q1, Q2⟩ : ∃ lst : Nat → List UInt8, Hid (lst 0 = ([] : List UInt8)) ∧ Hid (lst 1 = lst 0 ++ bigs 2 [(fm : Int), (tp : Int), (8 + (ld.length : Int)), (sum : Int)]) ∧ Hid (lst 2 = lst 1 ++ List.flatten [ld]) := by
    exact ⟨fun k => match k with | 0 => ([] : List UInt8) | 1 => (([] : List UInt8) ++ bigs 2 [(fm : Int), (tp : Int), (8 + (ld.length : Int)), (sum : Int)]) | _ => ((([] : List UInt8) ++ bigs 2 [(fm : Int), (tp : Int), (8 + (ld.length : Int)), (sum : Int)]) ++ List.flatten [ld]), rfl, rfl, rfl⟩
  have N0 : Hid ((lst 0).length ≤ 0) := by unfold Hid; rw [Q0.out]; simp
  have N1 : Hid ((lst 1).length ≤ 0 + (8)) := by have h0 := N0.out; have h1 : ((bigs 2 [(fm : Int), (tp : Int), (8 + (ld.length : Int)), (sum : Int)] : List UInt8)).length ≤ 8 := (by simp [bigs_length, macB, big_length] <;> omega); unfold Hid; rw [Q1.out, List.length_append]; omega
  have N2 : Hid ((lst 2).length ≤ 0 + (8) + ((ld).length)) := by have h0 := N1.out; have h1 : ((List.flatten [ld] : List UInt8)).length ≤ (ld).length := (by simp [bigs_length, macB, big_length] <;> omega); unfold Hid; rw [Q2.out, List.length_append]; omega
  obtain ⟨V, hV⟩ : ∃ V : Nat → Value, V = (fun j => match j with | 0 => .pointer (some ⟨w.heap.size, 0, none⟩) | 1 => .pointer (some ⟨q, 0, none⟩) | 2 => .int .u16 (fm : Int) | 3 => .pointer (some ⟨q, 1, none⟩) | 4 => .int .u16 (tp : Int) | 5 => .int .i64 (8 + (ld.length : Int)) | 6 => .int .u16 (8 + (ld.length : Int)) | 7 => .int .u16 (sum : Int) | 9 => .pointer (some ⟨w.heap.size, 0, none⟩) | 10 => .pointer (some ⟨q, 2, none⟩) | 11 => .string (bs ld) | 13 => .pointer (some ⟨w.heap.size, 0, none⟩) | 14 => .string (bs (lst 2)) | 15 => .string (bs (lst 2)) | _ => undef) := ⟨_, rfl⟩
  have v0 : V 0 = .pointer (some ⟨w.heap.size, 0, none⟩) := congrFun hV 0
  have v1 : V 1 = .pointer (some ⟨q, 0, none⟩) := congrFun hV 1
  have v2 : V 2 = .int .u16 (fm : Int) := congrFun hV 2
  have v3 : V 3 = .pointer (some ⟨q, 1, none⟩) := congrFun hV 3
  have v4 : V 4 = .int .u16 (tp : Int) := congrFun hV 4
  have v5 : V 5 = .int .i64 (8 + (ld.length : Int)) := congrFun hV 5
  have v6 : V 6 = .int .u16 (8 + (ld.length : Int)) := congrFun hV 6
  have v7 : V 7 = .int .u16 (sum : Int) := congrFun hV 7
  have v9 : V 9 = .pointer (some ⟨w.heap.size, 0, none⟩) := congrFun hV 9
  have v10 : V 10 = .pointer (some ⟨q, 2, none⟩) := congrFun hV 10
  have v11 : V 11 = .string (bs ld) := congrFun hV 11
  have v13 : V 13 = .pointer (some ⟨w.heap.size, 0, none⟩) := congrFun hV 13
  have v14 : V 14 = .string (bs (lst 2)) := congrFun hV 14
  have v15 : V 15 = .string (bs (lst 2)) := congrFun hV 15
  clear hV
  refine wp_region_ssau (by kernel_rfl) (by kernel_rfl) (by kernel_rfl)
    (fun u => ⟨#[.int .u16 (sum : Int), .pointer (some ⟨q, 0, none⟩), .pointer (some ⟨qn, 0, none⟩), undef, u 15, .pointer (some ⟨w.heap.size, 0, none⟩), .agg #[.slice none 0 0], .pointer (some ⟨w.heap.size, 0, none⟩), u 0, u 1, u 2, u 3, u 4, u 5, u 6, u 7, u 8, u 9, u 10, u 11, u 12, u 13, u 14], []⟩)
    (fun j v w3 => if j = 8 then True else if j = 12 then True else v = V j)
    (fun L u w3 => ∃ (c : Nat) (A : Option Addr), (L 9 = decide (0 < c) ∧ L 13 = decide (1 < c)) ∧ c ≤ 2 ∧ Chn w1 w.heap.size w1.heap.size A (lst c) w3 ∧ AlS (L 8) (u 8) 4 24 #[.int .u16 (fm : Int), .int .u16 (tp : Int), .int .u16 (8 + (ld.length : Int)), .int .u16 (sum : Int)] w1.heap.size A w3 ∧ AlS (L 12) (u 12) 1 9 #[.string (bs ld)] w1.heap.size A w3) (fun j => if j = 15 then .string ⟨#[]⟩ else undef) ⟨0, none, ⟨rfl, rfl⟩, by omega, by rw [Q0.out]; exact Chn.start hwr0 rfl, AlS.false, AlS.false⟩ ?_ ?_
  · rintro L u w3 i o hG hΦ ho hL hd K hK
    match i, ho with
    | 0, ho =>
      simp at ho; subst ho
      clear hΦ hd
      go_simp
      exact hK _ _ v0.symm hG (fun _ _ _ h => h)
    | 1, ho =>
      simp at ho; subst ho
      clear hΦ hd
      go_simp
      exact hK _ _ v1.symm hG (fun _ _ _ h => h)
    | 2, ho =>
      simp at ho; subst ho
      have hu1 : u 1 = V 1 := hΦ 1 (hd ⟨1, .data⟩ (by simp) (by rfl))
      rw [v1] at hu1
      clear hΦ hd
      obtain ⟨c, A, ⟨e0, e1⟩, hcn, hch, s8, s12⟩ := hG
      have hx : ∃ x, u = (upd x 1 (.pointer (some ⟨q, 0, none⟩))) := ⟨u, by rw [← upd_self hu1]⟩
      clear hu1
      obtain ⟨x, rfl⟩ := hx
      simp only [upd, reduceIte, Nat.reduceEqDiff]
      have hc0 := ((hpa).keep hch.fr (by unfold oneB; omega)).cells
      go_simp
      exact hK _ _ v2.symm ⟨c, A, ⟨e0, e1⟩, hcn, hch, s8, s12⟩ (fun _ _ _ h => h)
    | 3, ho =>
      simp at ho; subst ho
      clear hΦ hd
      go_simp
      exact hK _ _ v3.symm hG (fun _ _ _ h => h)
    | 4, ho =>
      simp at ho; subst ho
      have hu3 : u 3 = V 3 := hΦ 3 (hd ⟨3, .data⟩ (by simp) (by rfl))
      rw [v3] at hu3
      clear hΦ hd
      obtain ⟨c, A, ⟨e0, e1⟩, hcn, hch, s8, s12⟩ := hG
      have hx : ∃ x, u = (upd x 3 (.pointer (some ⟨q, 1, none⟩))) := ⟨u, by rw [← upd_self hu3]⟩
      clear hu3
      obtain ⟨x, rfl⟩ := hx
      simp only [upd, reduceIte, Nat.reduceEqDiff]
      have hc0 := ((hpa).keep hch.fr (by unfold oneB; omega)).cells
      go_simp
      exact hK _ _ v4.symm ⟨c, A, ⟨e0, e1⟩, hcn, hch, s8, s12⟩ (fun _ _ _ h => h)
    | 5, ho =>
      simp at ho; subst ho
      clear hΦ hd
      obtain ⟨c, A, ⟨e0, e1⟩, hcn, hch, s8, s12⟩ := hG
      have hc0 := ((hpn).keep hch.fr (by unfold oneB; omega)).cells
      go_simp
      exact hK _ _ v5.symm ⟨c, A, ⟨e0, e1⟩, hcn, hch, s8, s12⟩ (fun _ _ _ h => h)
    | 6, ho =>
      simp at ho; subst ho
      have hu5 : u 5 = V 5 := hΦ 5 (hd ⟨5, .data⟩ (by simp) (by rfl))
      rw [v5] at hu5
      clear hΦ hd
      have hx : ∃ x, u = (upd x 5 (.int .i64 (8 + (ld.length : Int)))) := ⟨u, by rw [← upd_self hu5]⟩
      clear hu5
      obtain ⟨x, rfl⟩ := hx
      simp only [upd, reduceIte, Nat.reduceEqDiff]
      have e7 : IntKind.u16.wrap (8 + (ld.length : Int)) = 8 + (ld.length : Int) := by rw [IntKind.wrap_u16]; omega
      have e7' : (8 + (ld.length : Int)) % 65536 = 8 + (ld.length : Int) := by omega
      go_simp
      exact hK _ _ v6.symm hG (fun _ _ _ h => h)
    | 7, ho =>
      simp at ho; subst ho
      clear hΦ hd
      go_simp
      exact hK _ _ v7.symm hG (fun _ _ _ h => h)
    | 8, ho =>
      simp at ho; subst ho
      have hu2 : u 2 = V 2 := hΦ 2 (hd ⟨2, .data⟩ (by simp) (by rfl))
      rw [v2] at hu2
      have hu4 : u 4 = V 4 := hΦ 4 (hd ⟨4, .data⟩ (by simp) (by rfl))
      rw [v4] at hu4
      have hu6 : u 6 = V 6 := hΦ 6 (hd ⟨6, .data⟩ (by simp) (by rfl))
      rw [v6] at hu6
      have hu7 : u 7 = V 7 := hΦ 7 (hd ⟨7, .data⟩ (by simp) (by rfl))
      rw [v7] at hu7
      clear hΦ hd
      obtain ⟨c, A, ⟨e0, e1⟩, hcn, hch, s8, s12⟩ := hG
      have hx : ∃ x, u = (upd (upd (upd (upd x 2 (.int .u16 (fm : Int))) 4 (.int .u16 (tp : Int))) 6 (.int .u16 (8 + (ld.length : Int)))) 7 (.int .u16 (sum : Int))) := ⟨u, by rw [← upd_self hu2, ← upd_self hu4, ← upd_self hu6, ← upd_self hu7]⟩
      clear hu2 hu4 hu6 hu7
      obtain ⟨x, rfl⟩ := hx
      simp only [upd, reduceIte, Nat.reduceEqDiff]
      go_simp
      exact hK _ _ trivial ⟨c, A, ⟨e0, e1⟩, hcn, hch.alloc _, AlS.new hch 4 24 #[.int .u16 (fm : Int), .int .u16 (tp : Int), .int .u16 (8 + (ld.length : Int)), .int .u16 (sum : Int)], AlS.alloc s12 _⟩ (fun _ _ _ h => h)
    | 9, ho =>
      simp at ho; subst ho
      have hu0 : u 0 = V 0 := hΦ 0 (hd ⟨0, .data⟩ (by simp) (by rfl))
      rw [v0] at hu0
      have hl8 : L 8 = true := hd ⟨8, .data⟩ (by simp) (by rfl)
      clear hΦ hd
      obtain ⟨c, A, ⟨e0, e1⟩, hcn, hch, s8, s12⟩ := hG
      have hck : c = 0 := by
        have h1 := hL.symm.trans e0
        simp at h1; omega
      subst hck
      obtain ⟨g8, hg8, hb8, hB8, hn8⟩ := s8 hl8
      have hx : ∃ x, u = (upd (upd x 0 (.pointer (some ⟨w.heap.size, 0, none⟩))) 8 (.slice (some ⟨g8, 0, none⟩) 4 4)) := ⟨u, by rw [← upd_self hu0, ← upd_self hg8]⟩
      clear hu0 hg8
      obtain ⟨x, rfl⟩ := hx
      simp only [upd, reduceIte, Nat.reduceEqDiff]
      go_simp
      refine (wU16 w.heap.size A _ w3 _ 4 4 [(fm : Int), (tp : Int), (8 + (ld.length : Int)), (sum : Int)] hch.wr (SlR.of_bk (n := 4) (size := 1) hb8 (AlS.not hch hB8 hn8) rfl) (by intro x hx; simp at hx; omega) (by omega) (by have := N0.out; first | omega | (simp; omega))).mono ?_
      rintro e w4 ⟨rfl, hw4⟩
      obtain ⟨A', hch', hal⟩ := hch.call hw4
      exact hK _ _ v9.symm ⟨1, A', ⟨rfl, e1⟩, by omega, by rw [Q1.out]; exact hch', hal _ _ _ _ _ s8, hal _ _ _ _ _ s12⟩ (fun _ _ _ h => h)
    | 10, ho =>
      simp at ho; subst ho
      clear hΦ hd
      go_simp
      exact hK _ _ v10.symm hG (fun _ _ _ h => h)
    | 11, ho =>
      simp at ho; subst ho
      have hu10 : u 10 = V 10 := hΦ 10 (hd ⟨10, .data⟩ (by simp) (by rfl))
      rw [v10] at hu10
      clear hΦ hd
      obtain ⟨c, A, ⟨e0, e1⟩, hcn, hch, s8, s12⟩ := hG
      have hx : ∃ x, u = (upd x 10 (.pointer (some ⟨q, 2, none⟩))) := ⟨u, by rw [← upd_self hu10]⟩
      clear hu10
      obtain ⟨x, rfl⟩ := hx
      simp only [upd, reduceIte, Nat.reduceEqDiff]
      have hc0 := ((hpa).keep hch.fr (by unfold oneB; omega)).cells
      go_simp
      exact hK _ _ v11.symm ⟨c, A, ⟨e0, e1⟩, hcn, hch, s8, s12⟩ (fun _ _ _ h => h)
    | 12, ho =>
      simp at ho; subst ho
      have hu11 : u 11 = V 11 := hΦ 11 (hd ⟨11, .data⟩ (by simp) (by rfl))
      rw [v11] at hu11
      clear hΦ hd
      obtain ⟨c, A, ⟨e0, e1⟩, hcn, hch, s8, s12⟩ := hG
      have hx : ∃ x, u = (upd x 11 (.string (bs ld))) := ⟨u, by rw [← upd_self hu11]⟩
      clear hu11
      obtain ⟨x, rfl⟩ := hx
      simp only [upd, reduceIte, Nat.reduceEqDiff]
      go_simp
      exact hK _ _ trivial ⟨c, A, ⟨e0, e1⟩, hcn, hch.alloc _, AlS.alloc s8 _, AlS.new hch 1 9 #[.string (bs ld)]⟩ (fun _ _ _ h => h)
    | 13, ho =>
      simp at ho; subst ho
      have hu9 : u 9 = V 9 := hΦ 9 (hd ⟨9, .data⟩ (by simp) (by rfl))
      rw [v9] at hu9
      have hl12 : L 12 = true := hd ⟨12, .data⟩ (by simp) (by rfl)
      have hlc : L 9 = true := hd ⟨9, .chain⟩ (by simp) (by rfl)
      clear hΦ hd
      obtain ⟨c, A, ⟨e0, e1⟩, hcn, hch, s8, s12⟩ := hG
      have hck : c = 1 := by
        have h1 := hL.symm.trans e1
        have h2 := hlc.symm.trans e0
        simp at h1 h2; omega
      subst hck
      obtain ⟨g12, hg12, hb12, hB12, hn12⟩ := s12 hl12
      have hx : ∃ x, u = (upd (upd x 9 (.pointer (some ⟨w.heap.size, 0, none⟩))) 12 (.slice (some ⟨g12, 0, none⟩) 1 1)) := ⟨u, by rw [← upd_self hu9, ← upd_self hg12]⟩
      clear hu9 hg12
      obtain ⟨x, rfl⟩ := hx
      simp only [upd, reduceIte, Nat.reduceEqDiff]
      go_simp
      refine (wText w.heap.size A _ w3 _ 1 1 [ld] hch.wr (SlR.of_bk (n := 1) (size := 1) hb12 (AlS.not hch hB12 hn12) rfl) (by omega) (by have := N1.out; first | omega | (simp; omega))).mono ?_
      rintro e w4 ⟨rfl, hw4⟩
      obtain ⟨A', hch', hal⟩ := hch.call hw4
      exact hK _ _ v13.symm ⟨2, A', ⟨e0, rfl⟩, by omega, by rw [Q2.out]; exact hch', hal _ _ _ _ _ s8, hal _ _ _ _ _ s12⟩ (fun _ _ _ h => h)
    | 14, ho =>
      simp at ho; subst ho
      have hu13 : u 13 = V 13 := hΦ 13 (hd ⟨13, .data⟩ (by simp) (by rfl))
      rw [v13] at hu13
      have hlc : L 13 = true := hd ⟨13, .chain⟩ (by simp) (by rfl)
      clear hΦ hd
      obtain ⟨c, A, ⟨e0, e1⟩, hcn, hch, s8, s12⟩ := hG
      have hck : c = 2 := by
        have h2 := hlc.symm.trans e1
        simp at h2; omega
      subst hck
      have hx : ∃ x, u = (upd x 13 (.pointer (some ⟨w.heap.size, 0, none⟩))) := ⟨u, by rw [← upd_self hu13]⟩
      clear hu13
      obtain ⟨x, rfl⟩ := hx
      simp only [upd, reduceIte, Nat.reduceEqDiff]
      go_simp
      refine (wString w.heap.size _ _ _ hch.wr).mono ?_
      rintro e w4 ⟨rfl, rfl⟩
      exact hK _ _ v14.symm ⟨2, A, ⟨e0, e1⟩, hcn, hch, s8, s12⟩ (fun _ _ _ h => h)
    | 15, ho =>
      simp at ho; subst ho
      have hu14 : u 14 = V 14 := hΦ 14 (hd ⟨14, .data⟩ (by simp) (by rfl))
      rw [v14] at hu14
      clear hΦ hd
      have hx : ∃ x, u = (upd x 14 (.string (bs (lst 2)))) := ⟨u, by rw [← upd_self hu14]⟩
      clear hu14
      obtain ⟨x, rfl⟩ := hx
      simp only [upd, reduceIte, Nat.reduceEqDiff]
      go_simp
      exact hK _ _ v15.symm hG (fun _ _ _ h => h)
  · rintro u w3 hu L hall hG
    obtain ⟨c, A, ⟨e0, e1⟩, hcn, hch, s8, s12⟩ := hG
    have h15 : u 15 = V 15 := hu 15 (by simp)
    rw [v15] at h15
    clear hu
    rw [h15]
    have hby : lst 2 = udpWith fm tp ld sum := by rw [Q2.out, Q1.out, Q0.out]; exact udp_lst _ _ _ _
    rw [hby]
    have hfr := hf0.trans' hch.fr (fun b hb e => by unfold oneB at e; omega)
    generalize hR : udpWith fm tp ld sum = R at *
    have HR := Lib.hid hR
    clear hR
    go_wp2_with fail
    go_ret
    exact ⟨by rw [HR.out]; rfl, hfr⟩
set_option maxRecDepth 20000 in
set_option maxHeartbeats 1000000 in
theorem packetWriteUDP (fm tp fi ti : Nat) (ld : List UInt8) (w : World) (hfm : fm < 65536) (htp : tp < 65536) (hfi : fi < 4294967296) (hti : ti < 4294967296) (hld : ld.length ≤ 4611686018427387000) :
    Calls Tryz.prog 29 #[.agg #[.int .u16 (fm : Int), .int .u16 (tp : Int), .string (bs ld)], .int .u32 (fi : Int), .int .u32 (ti : Int)] w (strPost (wrUDP fm tp fi ti ld) w) := by
  have hpa := (Bk.new w 42 #[.int .u16 (fm : Int), .int .u16 (tp : Int), .string (bs ld)]).alloc (.cells #[.int .i64 (8 + (ld.length : Int))] 3)
  have hpn := Bk.new (w.alloc (.cells #[.int .u16 (fm : Int), .int .u16 (tp : Int), .string (bs ld)] 42)) 3 #[.int .i64 (8 + (ld.length : Int))]
  rw [show (w.alloc (.cells #[.int .u16 (fm : Int), .int .u16 (tp : Int), .string (bs ld)] 42)).heap.size = w.heap.size + 1 by simp] at hpn
  have hpa0 := (Bk.new w 42 #[.int .u16 (fm : Int), .int .u16 (tp : Int), .string (bs ld)]).cells
  have hpn0 := hpn.cells
  have hpa1 := hpa.cells
  have e8 : IntKind.i64.wrap (8 + (ld.length : Int)) = 8 + (ld.length : Int) := IntWalk.i64_in _ (by omega)
  have hmf : ∀ (fn : Fn) (first cap : Array Value) (w : World), (Instr.makeFunc fn first cap).run Tryz.prog w = .ok (.func fn first cap) w := fun _ _ _ _ => rfl
  have hf0 : Fr noB w ((w.alloc (.cells #[.int .u16 (fm : Int), .int .u16 (tp : Int), .string (bs ld)] 42)).alloc (.cells #[.int .i64 (8 + (ld.length : Int))] 3)) := ((Fr.refl _ _).alloc _).alloc _
  go_enter Tryz.func29, Tryz.ntmps29
  by_cases h1 : 1480 < 8 + ld.length
  · have hs : Hid (wrUDP fm tp fi ti ld = ([], 7)) := by unfold Hid wrUDP; rw [if_pos h1]
    have b1 : 1480 < 8 + (ld.length : Int) := by omega
    clear h1
    go_wp2_with fail
    go_ret2
    exact ⟨by rw [hs.out]; rfl, hf0⟩
  have b1 : ¬ 1480 < 8 + (ld.length : Int) := by omega
  have hs : Hid (wrUDP fm tp fi ti ld = (udpWith fm tp ld (udpSum fm tp fi ti ld), 0)) := by unfold Hid wrUDP; rw [if_neg h1]
  have hl2 : ld.length ≤ 1480 := by omega
  clear h1
  go_upto_region 4 with fail
  go_cut [9] from 11 to 17 (fun q wx => q = .func (.func 75) #[] #[.pointer (some ⟨w.heap.size, 0, none⟩), .pointer (some ⟨(w.heap.size + 1), 0, none⟩)] ∧ wx = (w.alloc (.cells #[.int .u16 (fm : Int), .int .u16 (tp : Int), .string (bs ld)] 42)).alloc (.cells #[.int .i64 (8 + (ld.length : Int))] 3))
  case first =>
    go_wp2_with fail
    go_meet
    case rel => exact ⟨rfl, rfl⟩
  case rest =>
  obtain ⟨rfl, rfl⟩ := hcut
  clear hpa0 hpn0 hpa1
  have Lld := Lib.hid hl2
  go_upto_region 5 with fail
  generalize (w.alloc (.cells #[.int .u16 (fm : Int), .int .u16 (tp : Int), .string (bs ld)] 42)).alloc (.cells #[.int .i64 (8 + (ld.length : Int))] 3) = w1 at *
  go_cut [10] from 11 to 25 (fun a wx => a = .int .u16 (udpSum0 fm tp fi ti ld : Int) ∧ Fr noB w wx ∧ Bk wx w.heap.size 42 #[.int .u16 (fm : Int), .int .u16 (tp : Int), .string (bs ld)] ∧ Bk wx (w.heap.size + 1) 3 #[.int .i64 (8 + (ld.length : Int))])
  case first =>
    obtain ⟨x1, Hx1⟩ : ∃ s : List UInt8, Hid (s = besideB fi ti (8 + ld.length)) := ⟨besideB fi ti (8 + ld.length), Lib.hid rfl⟩
    obtain ⟨x2, Hx2⟩ : ∃ s : List UInt8, Hid (s = udpWith fm tp ld 0) := ⟨udpWith fm tp ld 0, Lib.hid rfl⟩
    have Lx1 : Hid (x1.length ≤ 12) := by have lld := Lld.out; unfold Hid; rw [Hx1.out]; first | (rw [beside_length]; omega) | (rw [udpA_length]; omega) | (rw [udpWith_length]; omega) | (simp [big_length, macB, bigs_length] <;> omega)
    have Lx2 : Hid (x2.length ≤ 1488) := by have lld := Lld.out; have l_x1 := Lx1.out; unfold Hid; rw [Hx2.out]; first | (rw [beside_length]; omega) | (rw [udpA_length]; omega) | (rw [udpWith_length]; omega) | (simp [big_length, macB, bigs_length] <;> omega)
    obtain ⟨V, hV⟩ : ∃ V : Nat → Value, V = (fun j => match j with | 0 => .int .u32 (fi : Int) | 1 => .int .u32 (ti : Int) | 2 => .int .i64 (8 + (ld.length : Int)) | 3 => .string (bs x1) | 4 => .func (.func 75) #[] #[.pointer (some ⟨w.heap.size, 0, none⟩), .pointer (some ⟨(w.heap.size + 1), 0, none⟩)] | 5 => .string (bs x2) | 7 => .int .u16 (check (x1 ++ x2) : Int) | 8 => .int .u16 (check (x1 ++ x2) : Int) | _ => undef) := ⟨_, rfl⟩
    have v0 : V 0 = .int .u32 (fi : Int) := congrFun hV 0
    have v1 : V 1 = .int .u32 (ti : Int) := congrFun hV 1
    have v2 : V 2 = .int .i64 (8 + (ld.length : Int)) := congrFun hV 2
    have v3 : V 3 = .string (bs x1) := congrFun hV 3
    have v4 : V 4 = .func (.func 75) #[] #[.pointer (some ⟨w.heap.size, 0, none⟩), .pointer (some ⟨(w.heap.size + 1), 0, none⟩)] := congrFun hV 4
    have v5 : V 5 = .string (bs x2) := congrFun hV 5
    have v7 : V 7 = .int .u16 (check (x1 ++ x2) : Int) := congrFun hV 7
    have v8 : V 8 = .int .u16 (check (x1 ++ x2) : Int) := congrFun hV 8
    clear hV
    refine wp_region_ssau_plain (by kernel_rfl) (by kernel_rfl) (by kernel_rfl)
      (fun u => ⟨#[.agg #[.int .u16 (fm : Int), .int .u16 (tp : Int), .string (bs ld)], .int .u32 (fi : Int), .int .u32 (ti : Int), .pointer (some ⟨w.heap.size, 0, none⟩), undef, undef, .string ⟨#[]⟩, .int .i64 0, .pointer (some ⟨(w.heap.size + 1), 0, none⟩), .func (.func 75) #[] #[.pointer (some ⟨w.heap.size, 0, none⟩), .pointer (some ⟨(w.heap.size + 1), 0, none⟩)], u 8, u11, u12, u13, u14, u15, u16, u17, u 0, u 1, u 2, u 3, u 4, u 5, u 6, u 7, undef, undef, undef, undef, undef], []⟩)
      (fun j v w3 => if j = 6 then True else v = V j)
      (fun L u w3 => Fr noB w1 w3 ∧ AlS (L 6) (u 6) 2 9 #[.string (bs x1), .string (bs x2)] 0 none w3) (fun j => undef) ⟨(Fr.refl _ _), AlS.false⟩ ?_ ?_
    · rintro L u w3 i o hG hΦ ho hL hd K hK
      match i, ho with
      | 0, ho =>
        simp at ho; subst ho
        clear hΦ hd
        go_simp
        exact hK _ _ v0.symm hG (fun _ _ _ h => h)
      | 1, ho =>
        simp at ho; subst ho
        clear hΦ hd
        go_simp
        exact hK _ _ v1.symm hG (fun _ _ _ h => h)
      | 2, ho =>
        simp at ho; subst ho
        clear hΦ hd
        obtain ⟨hG0, s6⟩ := hG
        have hc0 := ((hpn).keep hG0 (fun x => x)).cells
        go_simp
        exact hK _ _ v2.symm ⟨hG0, s6⟩ (fun _ _ _ h => h)
      | 3, ho =>
        simp at ho; subst ho
        have hu0 : u 0 = V 0 := hΦ 0 (hd ⟨0, .data⟩ (by simp) (by rfl))
        rw [v0] at hu0
        have hu1 : u 1 = V 1 := hΦ 1 (hd ⟨1, .data⟩ (by simp) (by rfl))
        rw [v1] at hu1
        have hu2 : u 2 = V 2 := hΦ 2 (hd ⟨2, .data⟩ (by simp) (by rfl))
        rw [v2] at hu2
        clear hΦ hd
        obtain ⟨hG0, s6⟩ := hG
        have hx : ∃ x, u = (upd (upd (upd x 0 (.int .u32 (fi : Int))) 1 (.int .u32 (ti : Int))) 2 (.int .i64 (8 + (ld.length : Int)))) := ⟨u, by rw [← upd_self hu0, ← upd_self hu1, ← upd_self hu2]⟩
        clear hu0 hu1 hu2
        obtain ⟨x, rfl⟩ := hx
        simp only [upd, reduceIte, Nat.reduceEqDiff]
        go_simp
        refine (pseudoFn fi ti (8 + (ld.length : Int)) w3 hfi hti (by omega) (by omega)).mono ?_
        rintro e w4 ⟨rfl, hf4⟩
        rw [show (8 + (ld.length : Int)).toNat = 8 + ld.length by omega, ← Hx1.out]
        exact hK _ _ v3.symm ⟨(hG0.none hf4), AlS.quiet s6 hf4⟩ (fun _ _ _ h => h)
      | 4, ho =>
        simp at ho; subst ho
        clear hΦ hd
        go_simp
        exact hK _ _ v4.symm hG (fun _ _ _ h => h)
      | 5, ho =>
        simp at ho; subst ho
        have hu4 : u 4 = V 4 := hΦ 4 (hd ⟨4, .data⟩ (by simp) (by rfl))
        rw [v4] at hu4
        clear hΦ hd
        obtain ⟨hG0, s6⟩ := hG
        have hx : ∃ x, u = (upd x 4 (.func (.func 75) #[] #[.pointer (some ⟨w.heap.size, 0, none⟩), .pointer (some ⟨(w.heap.size + 1), 0, none⟩)])) := ⟨u, by rw [← upd_self hu4]⟩
        clear hu4
        obtain ⟨x, rfl⟩ := hx
        simp only [upd, reduceIte, Nat.reduceEqDiff]
        go_simp
        refine (udpWithFn fm tp ld 0 w.heap.size (w.heap.size + 1) w3 hfm htp (by omega) hl2 (hpa.keep hG0 (fun x => x)) (hpn.keep hG0 (fun x => x))).mono ?_
        rintro e w4 ⟨rfl, hf4⟩
        rw [← Hx2.out]
        exact hK _ _ v5.symm ⟨(hG0.none hf4), AlS.quiet s6 hf4⟩ (fun _ _ _ h => h)
      | 6, ho =>
        simp at ho; subst ho
        have hu3 : u 3 = V 3 := hΦ 3 (hd ⟨3, .data⟩ (by simp) (by rfl))
        rw [v3] at hu3
        have hu5 : u 5 = V 5 := hΦ 5 (hd ⟨5, .data⟩ (by simp) (by rfl))
        rw [v5] at hu5
        clear hΦ hd
        obtain ⟨hG0, s6⟩ := hG
        have hx : ∃ x, u = (upd (upd x 3 (.string (bs x1))) 5 (.string (bs x2))) := ⟨u, by rw [← upd_self hu3, ← upd_self hu5]⟩
        clear hu3 hu5
        obtain ⟨x, rfl⟩ := hx
        simp only [upd, reduceIte, Nat.reduceEqDiff]
        go_simp
        exact hK _ _ trivial ⟨(hG0.alloc _), AlS.new0 w3 2 9 #[.string (bs x1), .string (bs x2)]⟩ (fun _ _ _ h => h)
      | 7, ho =>
        simp at ho; subst ho
        have hl6 : L 6 = true := hd ⟨6, .data⟩ (by simp) (by rfl)
        clear hΦ hd
        obtain ⟨hG0, s6⟩ := hG
        obtain ⟨g6, hg6, hb6, -, -⟩ := s6 hl6
        have hx : ∃ x, u = (upd x 6 (.slice (some ⟨g6, 0, none⟩) 2 2)) := ⟨u, by rw [← upd_self hg6]⟩
        clear hg6
        obtain ⟨x, rfl⟩ := hx
        simp only [upd, reduceIte, Nat.reduceEqDiff]
        go_simp
        refine (hashCheck_two _ 2 x1 x2 w3 (SlR.of_bk (n := 2) (size := 1) hb6 (fun x => x) rfl) (by have := Lx1.out; omega) (by have := Lx2.out; omega)).mono ?_
        rintro e w4 ⟨rfl, rfl⟩
        exact hK _ _ v7.symm ⟨hG0, s6⟩ (fun _ _ _ h => h)
      | 8, ho =>
        simp at ho; subst ho
        have hu7 : u 7 = V 7 := hΦ 7 (hd ⟨7, .data⟩ (by simp) (by rfl))
        rw [v7] at hu7
        clear hΦ hd
        have hx : ∃ x, u = (upd x 7 (.int .u16 (check (x1 ++ x2) : Int))) := ⟨u, by rw [← upd_self hu7]⟩
        clear hu7
        obtain ⟨x, rfl⟩ := hx
        simp only [upd, reduceIte, Nat.reduceEqDiff]
        go_simp
        exact hK _ _ v8.symm hG (fun _ _ _ h => h)
    · rintro u w3 hu L hall hG
      obtain ⟨hG0, s6⟩ := hG
      have h8 : u 8 = V 8 := hu 8 (by simp)
      rw [v8] at h8
      clear hu hall
      rw [h8]
      have hA : check (x1 ++ x2) = udpSum0 fm tp fi ti ld := by rw [Hx1.out, Hx2.out]; exact udpSum0_eq _ _ _ _ _
      rw [hA]
      generalize udpSum0 fm tp fi ti ld = R at *
      go_wp2_with fail
      go_meet
      case rel => exact ⟨rfl, hf0.none hG0, hpa.keep hG0 (fun x => x), hpn.keep hG0 (fun x => x)⟩
  case rest =>
  obtain ⟨rfl, hf5, hpa5, hpn5⟩ := hcut
  clear hf0 hpa hpn w1
  have hu0 : Hid (udpSum fm tp fi ti ld = if udpSum0 fm tp fi ti ld = 0 then 65535 else udpSum0 fm tp fi ti ld) := rfl
  generalize udpSum0 fm tp fi ti ld = s0 at *
  obtain ⟨sm, Hsm⟩ : ∃ sm, Hid (sm = udpSum fm tp fi ti ld) := ⟨_, Lib.hid rfl⟩
  have Lsm : Hid (sm ≤ 65535) := by unfold Hid; rw [Hsm.out]; exact udpSum_le _ _ _ _ _
  go_upto_if 27 with fail
  go_cut [10] from 11 to 27 (fun a wx => a = .int .u16 (sm : Int) ∧ wx = wc)
  case first =>
    by_cases h0 : s0 = 0
    · have b0 : ((s0 : Int) == 0) = true := by simp; omega
      have hsm : Hid (sm = 65535) := by unfold Hid; rw [Hsm.out, hu0.out, if_pos h0]
      clear h0
      rw [b0]
      go_wp2_with fail
      go_meet
      case rel => exact ⟨by rw [hsm.out]; rfl, rfl⟩
    · have b0 : ((s0 : Int) == 0) = false := by simp; omega
      have hsm : Hid (sm = s0) := by unfold Hid; rw [Hsm.out, hu0.out, if_neg h0]
      clear h0
      rw [b0]
      go_wp2_with fail
      go_meet
      case rel => exact ⟨by rw [hsm.out], rfl⟩
  case rest =>
  obtain ⟨rfl, rfl⟩ := hcut
  obtain ⟨w1, rfl⟩ : ∃ w1, w1 = wc := ⟨_, rfl⟩
  have hf0 := hf5
  have hpa := hpa5
  have hpn := hpn5
  clear hf5 hpa5 hpn5
  go_upto_region 8 with fail
  obtain ⟨x3, Hx3⟩ : ∃ s : List UInt8, Hid (s = udpWith fm tp ld sm) := ⟨udpWith fm tp ld sm, Lib.hid rfl⟩
  have Lx3 : Hid (x3.length ≤ 1488) := by have lld := Lld.out; unfold Hid; rw [Hx3.out]; first | (rw [beside_length]; omega) | (rw [udpA_length]; omega) | (rw [udpWith_length]; omega) | (simp [big_length, macB, bigs_length] <;> omega)
  obtain ⟨V, hV⟩ : ∃ V : Nat → Value, V = (fun j => match j with | 0 => .func (.func 75) #[] #[.pointer (some ⟨w.heap.size, 0, none⟩), .pointer (some ⟨(w.heap.size + 1), 0, none⟩)] | 1 => .int .u16 (sm : Int) | 2 => .string (bs x3) | 3 => .string (bs x3) | 4 => .int .i64 0 | _ => undef) := ⟨_, rfl⟩
  have v0 : V 0 = .func (.func 75) #[] #[.pointer (some ⟨w.heap.size, 0, none⟩), .pointer (some ⟨(w.heap.size + 1), 0, none⟩)] := congrFun hV 0
  have v1 : V 1 = .int .u16 (sm : Int) := congrFun hV 1
  have v2 : V 2 = .string (bs x3) := congrFun hV 2
  have v3 : V 3 = .string (bs x3) := congrFun hV 3
  have v4 : V 4 = .int .i64 0 := congrFun hV 4
  clear hV
  refine wp_region_ssau_plain (by kernel_rfl) (by kernel_rfl) (by kernel_rfl)
    (fun u => ⟨#[.agg #[.int .u16 (fm : Int), .int .u16 (tp : Int), .string (bs ld)], .int .u32 (fi : Int), .int .u32 (ti : Int), .pointer (some ⟨w.heap.size, 0, none⟩), undef, undef, u 3, u 4, .pointer (some ⟨(w.heap.size + 1), 0, none⟩), .func (.func 75) #[] #[.pointer (some ⟨w.heap.size, 0, none⟩), .pointer (some ⟨(w.heap.size + 1), 0, none⟩)], .int .u16 (sm : Int), u11, u12, u13, u14, u15, u16, u17, u18, u19, u20, u21, u22, u23, u24, u25, u26, u27, u 0, u 1, u 2], []⟩)
    (fun j v w3 => v = V j)
    (fun L u w3 => Fr noB w1 w3) (fun j => if j = 3 then .string ⟨#[]⟩ else if j = 4 then .int .i64 0 else undef) ((Fr.refl _ _)) ?_ ?_
  · rintro L u w3 i o hG hΦ ho hL hd K hK
    match i, ho with
    | 0, ho =>
      simp at ho; subst ho
      clear hΦ hd
      go_simp
      exact hK _ _ v0.symm hG (fun _ _ _ h => h)
    | 1, ho =>
      simp at ho; subst ho
      clear hΦ hd
      go_simp
      exact hK _ _ v1.symm hG (fun _ _ _ h => h)
    | 2, ho =>
      simp at ho; subst ho
      have hu0 : u 0 = V 0 := hΦ 0 (hd ⟨0, .data⟩ (by simp) (by rfl))
      rw [v0] at hu0
      have hu1 : u 1 = V 1 := hΦ 1 (hd ⟨1, .data⟩ (by simp) (by rfl))
      rw [v1] at hu1
      clear hΦ hd
      have hG0 := hG
      have hx : ∃ x, u = (upd (upd x 0 (.func (.func 75) #[] #[.pointer (some ⟨w.heap.size, 0, none⟩), .pointer (some ⟨(w.heap.size + 1), 0, none⟩)])) 1 (.int .u16 (sm : Int))) := ⟨u, by rw [← upd_self hu0, ← upd_self hu1]⟩
      clear hu0 hu1
      obtain ⟨x, rfl⟩ := hx
      simp only [upd, reduceIte, Nat.reduceEqDiff]
      go_simp
      refine (udpWithFn fm tp ld sm w.heap.size (w.heap.size + 1) w3 hfm htp (by have := Lsm.out; omega) hl2 (hpa.keep hG0 (fun x => x)) (hpn.keep hG0 (fun x => x))).mono ?_
      rintro e w4 ⟨rfl, hf4⟩
      rw [← Hx3.out]
      exact hK _ _ v2.symm (hG0.none hf4) (fun _ _ _ h => h)
    | 3, ho =>
      simp at ho; subst ho
      have hu2 : u 2 = V 2 := hΦ 2 (hd ⟨2, .data⟩ (by simp) (by rfl))
      rw [v2] at hu2
      clear hΦ hd
      have hx : ∃ x, u = (upd x 2 (.string (bs x3))) := ⟨u, by rw [← upd_self hu2]⟩
      clear hu2
      obtain ⟨x, rfl⟩ := hx
      simp only [upd, reduceIte, Nat.reduceEqDiff]
      go_simp
      exact hK _ _ v3.symm hG (fun _ _ _ h => h)
    | 4, ho =>
      simp at ho; subst ho
      clear hΦ hd
      go_simp
      exact hK _ _ v4.symm hG (fun _ _ _ h => h)
  · rintro u w3 hu L hall hG
    have hG0 := hG
    have h3 : u 3 = V 3 := hu 3 (by simp)
    rw [v3] at h3
    have h4 : u 4 = V 4 := hu 4 (by simp)
    rw [v4] at h4
    clear hu hall
    rw [h3, h4]
    have hfr := hf0.none hG0
    have hA : x3 = udpWith fm tp ld (udpSum fm tp fi ti ld) := by rw [Hx3.out, Hsm.out]
    rw [hA]
    clear hA
    generalize udpWith fm tp ld (udpSum fm tp fi ti ld) = R at *
    go_wp2_with fail
    go_ret2
    exact ⟨by rw [hs.out]; rfl, hfr⟩
end Go.Proofs.YtcbkaiakdhiloabGreatDoor
namespace Go.Proofs.YtcbkaiakdhiloabGreatDoor
open Go.RowKit Go.Proofs
attribute [local go_sem] bs_size bs_append bs_extract
def chrOk (c : UInt8) : Bool := decide (33 ≤ c.toNat) && decide (c.toNat ≤ 126)
def wordB (l : List UInt8) : Bool := l.all chrOk && decide (0 < l.length)
theorem take_all {l : List UInt8} {i : Nat} {c : UInt8} (h : l[i]? = some c) (ha : (l.take i).all chrOk = true) (hc : chrOk c = true) : (l.take (i + 1)).all chrOk = true := by
  rw [List.take_add_one, h]; simp [List.all_append, ha, hc]
end Go.Proofs.YtcbkaiakdhiloabGreatDoor
namespace Go.Proofs.YtcbkaiakdhiloabGreatDoor
open Go.RowKit Go.Proofs
attribute [local go_sem] bs_size bs_append bs_extract
def lowC (c : UInt8) : UInt8 := if 65 ≤ c.toNat ∧ c.toNat ≤ 90 then c + 32 else c
def lowL (l : List UInt8) : List UInt8 := l.map lowC
end Go.Proofs.YtcbkaiakdhiloabGreatDoor
namespace Go.Proofs.YtcbkaiakdhiloabGreatDoor
structure FldD where
  name : List UInt8
  value : List UInt8
structure TftD where
  op : Nat
  block : Nat
  text : List UInt8
  data : List UInt8
  fs : List FldD
def named (fs : List FldD) (n : List UInt8) : Bool := fs.any fun f => f.name == n
end Go.Proofs.YtcbkaiakdhiloabGreatDoor
namespace Go.Proofs.YtcbkaiakdhiloabGreatDoor
def fldOk (b4 : List FldD) (o : FldD) : Bool := wordB o.name && wordB o.value && (o.name == lowL o.name) && !(named b4 o.name)
def fldW : List FldD → List FldD → Option (List UInt8)
  | _, [] => some []
  | b4, o :: r => if fldOk b4 o then (fldW (b4 ++ [o]) r).map fun t => o.name ++ 0 :: o.value ++ 0 :: t else none
def capT (l : List UInt8) : List UInt8 × Nat := if 1472 < l.length then ([], 7) else (l, 0)
def wrTFTP (d : TftD) : List UInt8 × Nat :=
  if d.op = 1 then if wordB d.text then (match fldW [] d.fs with
    | none => ([], 2)
    | some t => capT (big 2 d.op ++ d.text ++ [0, 111, 99, 116, 101, 116, 0] ++ t)) else ([], 2)
  else if d.op = 6 then (match fldW [] d.fs with
    | none => ([], 2)
    | some t => capT (big 2 d.op ++ t))
  else if d.op = 3 then if 1024 < d.data.length then ([], 7) else capT (big 2 d.op ++ big 2 d.block ++ d.data)
  else if d.op = 4 then capT (big 2 d.op ++ big 2 d.block)
  else if d.op = 5 then if d.text.contains 0 then ([], 2) else capT (big 2 d.op ++ big 2 d.block ++ d.text ++ [0])
  else ([], 2)
end Go.Proofs.YtcbkaiakdhiloabGreatDoor
namespace Go.Proofs.YtcbkaiakdhiloabGreatDoor
structure OptD where
  code : UInt8
  data : List UInt8
def chunkF : Nat → UInt8 → List UInt8 → List UInt8
  | 0, c, d => [c, UInt8.ofNat d.length] ++ d
  | n + 1, c, d => if d.length ≤ 255 then [c, UInt8.ofNat d.length] ++ d else [c, 255] ++ d.take 255 ++ chunkF n c (d.drop 255)
def chunk (c : UInt8) (d : List UInt8) : List UInt8 := chunkF d.length c d
theorem chunkF_eq : ∀ (n m : Nat) (c : UInt8) (d : List UInt8), d.length ≤ n → d.length ≤ m → chunkF n c d = chunkF m c d
  | 0, 0, _, _, _, _ => rfl
  | 0, m + 1, c, d, h, _ => by
    have : d = [] := List.eq_nil_of_length_eq_zero (by omega)
    subst this; simp [chunkF]
  | n + 1, 0, c, d, _, h => by
    have : d = [] := List.eq_nil_of_length_eq_zero (by omega)
    subst this; simp [chunkF]
  | n + 1, m + 1, c, d, h1, h2 => by
    simp only [chunkF]
    split
    · rfl
    · rename_i h
      rw [chunkF_eq n m c (d.drop 255) (by rw [List.length_drop]; omega) (by rw [List.length_drop]; omega)]
theorem chunk_small (c : UInt8) (d : List UInt8) (h : d.length ≤ 255) : chunk c d = [c, UInt8.ofNat d.length] ++ d := by
  unfold chunk
  cases hd : d.length with
  | zero => simp [chunkF, hd]
  | succ n => simp only [chunkF]; rw [if_pos h, hd]
theorem chunk_big (c : UInt8) (d : List UInt8) (h : 255 < d.length) : chunk c d = [c, 255] ++ d.take 255 ++ chunk c (d.drop 255) := by
  unfold chunk
  obtain ⟨n, hn⟩ : ∃ n, d.length = n + 1 := ⟨d.length - 1, by omega⟩
  rw [hn]
  simp only [chunkF]
  rw [if_neg (by omega), chunkF_eq n (d.drop 255).length c (d.drop 255) (by rw [List.length_drop]; omega) (Nat.le_refl _)]
def zeroTo (l : List UInt8) (n : Nat) : List UInt8 := l ++ List.replicate (n - l.length) 0
def optBad (o : OptD) : Bool := o.code == 0 || o.code == 255 || o.code == 52
def dhcHead (reply : Bool) (xid client yours next : Nat) (mac : List UInt8) : List UInt8 :=
  zeroTo ([if reply then 2 else 1, 1, 6, 0] ++ big 4 xid ++ [0, 0] ++ (if client = 0 then [128, 0] else [0, 0]) ++ big 4 client ++ big 4 yours ++ big 4 next ++ big 4 0 ++ mac) 236 ++ [99, 130, 83, 99]
def dhcBody (head : List UInt8) (os : List OptD) : List UInt8 := zeroTo (head ++ os.flatMap (fun o => chunk o.code o.data) ++ [255]) 300
def wrDHCP (reply : Bool) (xid client yours next : Nat) (mac : List UInt8) (os : List OptD) : List UInt8 × Nat :=
  if os.any optBad then ([], 2)
  else if 1472 < (dhcBody (dhcHead reply xid client yours next mac) os).length then ([], 7)
  else (dhcBody (dhcHead reply xid client yours next mac) os, 0)
theorem zeroTo_length (l : List UInt8) (n : Nat) : (zeroTo l n).length = max l.length n := by unfold zeroTo; simp; omega
theorem dhcHead_length (reply : Bool) (xid client yours next : Nat) (mac : List UInt8) (hm : mac.length = 6) : (dhcHead reply xid client yours next mac).length = 240 := by
  unfold dhcHead
  rw [List.length_append, zeroTo_length]
  by_cases hc : client = 0 <;> cases reply <;> simp [hc, big_length, hm]
/-! How one is read. -/
end Go.Proofs.YtcbkaiakdhiloabGreatDoor
namespace Go.Proofs.YtcbkaiakdhiloabGreatDoor
def rotr (x : UInt32) (n : Nat) : UInt32 := UInt32.ofNat ((x.toNat / 2 ^ n) ||| (x.toNat * 2 ^ (32 - n)) % 4294967296)
theorem rotr_toNat (x : UInt32) (n : Nat) : (rotr x n).toNat = (x.toNat / 2 ^ n) ||| (x.toNat * 2 ^ (32 - n)) % 4294967296 := by
  have hx := x.toNat_lt
  unfold rotr
  rw [UInt32.toNat_ofNat']
  apply Nat.mod_eq_of_lt
  apply Nat.or_lt_two_pow (n := 32)
  · exact Nat.lt_of_le_of_lt (Nat.div_le_self _ _) hx
  · omega
def shr (x : UInt32) (n : Nat) : UInt32 := UInt32.ofNat (x.toNat / 2 ^ n)
theorem shr_toNat (x : UInt32) (n : Nat) : (shr x n).toNat = x.toNat / 2 ^ n := by
  have hx := x.toNat_lt
  unfold shr
  rw [UInt32.toNat_ofNat']
  exact Nat.mod_eq_of_lt (Nat.lt_of_le_of_lt (Nat.div_le_self _ _) hx)
def sg0 (x : UInt32) : UInt32 := rotr x 7 ^^^ rotr x 18 ^^^ shr x 3
def sg1 (x : UInt32) : UInt32 := rotr x 17 ^^^ rotr x 19 ^^^ shr x 10
def bg0 (x : UInt32) : UInt32 := rotr x 2 ^^^ rotr x 13 ^^^ rotr x 22
def bg1 (x : UInt32) : UInt32 := rotr x 6 ^^^ rotr x 11 ^^^ rotr x 25
def chs (e f g : UInt32) : UInt32 := (e &&& f) ^^^ (~~~ e &&& g)
def maj (a b c : UInt32) : UInt32 := (a &&& b) ^^^ (a &&& c) ^^^ (b &&& c)
def nextW (w : List UInt32) : UInt32 := w.getD (w.length - 16) 0 + sg0 (w.getD (w.length - 15) 0) + w.getD (w.length - 7) 0 + sg1 (w.getD (w.length - 2) 0)
def sched (w : List UInt32) : Nat → List UInt32
  | 0 => w
  | k + 1 => sched w k ++ [nextW (sched w k)]
theorem sched_length (w : List UInt32) : ∀ k, (sched w k).length = w.length + k
  | 0 => rfl
  | k + 1 => by simp [sched, sched_length w k]; omega
def wd (a b c d : UInt8) : UInt32 := UInt32.ofNat (a.toNat * 16777216 + b.toNat * 65536 + c.toNat * 256 + d.toNat)
theorem wd_toNat (a b c d : UInt8) : (wd a b c d).toNat = a.toNat * 16777216 + b.toNat * 65536 + c.toNat * 256 + d.toNat := by
  have := a.toNat_lt; have := b.toNat_lt; have := c.toNat_lt; have := d.toNat_lt
  unfold wd; rw [UInt32.toNat_ofNat']; omega
def words32 (b : List UInt8) (k : Nat) : List UInt32 := (List.range k).map fun i => wd (b.getD (4 * i) 0) (b.getD (4 * i + 1) 0) (b.getD (4 * i + 2) 0) (b.getD (4 * i + 3) 0)
theorem words32_length (b : List UInt8) (k : Nat) : (words32 b k).length = k := by simp [words32]
theorem words32_succ (b : List UInt8) (k : Nat) : words32 b (k + 1) = words32 b k ++ [wd (b.getD (4 * k) 0) (b.getD (4 * k + 1) 0) (b.getD (4 * k + 2) 0) (b.getD (4 * k + 3) 0)] := by
  simp [words32, List.range_succ]
structure S8 where
  a : UInt32
  b : UInt32
  c : UInt32
  d : UInt32
  e : UInt32
  f : UInt32
  g : UInt32
  h : UInt32
def S8.list (v : S8) : List UInt32 := [v.a, v.b, v.c, v.d, v.e, v.f, v.g, v.h]
def rnd (v : S8) (k w : UInt32) : S8 :=
  ⟨(v.h + bg1 v.e + chs v.e v.f v.g + k + w) + (bg0 v.a + maj v.a v.b v.c), v.a, v.b, v.c, v.d + (v.h + bg1 v.e + chs v.e v.f v.g + k + w), v.e, v.f, v.g⟩
def kTab : List UInt32 := [
  0x428a2f98, 0x71374491, 0xb5c0fbcf, 0xe9b5dba5, 0x3956c25b, 0x59f111f1, 0x923f82a4, 0xab1c5ed5,
  0xd807aa98, 0x12835b01, 0x243185be, 0x550c7dc3, 0x72be5d74, 0x80deb1fe, 0x9bdc06a7, 0xc19bf174,
  0xe49b69c1, 0xefbe4786, 0x0fc19dc6, 0x240ca1cc, 0x2de92c6f, 0x4a7484aa, 0x5cb0a9dc, 0x76f988da,
  0x983e5152, 0xa831c66d, 0xb00327c8, 0xbf597fc7, 0xc6e00bf3, 0xd5a79147, 0x06ca6351, 0x14292967,
  0x27b70a85, 0x2e1b2138, 0x4d2c6dfc, 0x53380d13, 0x650a7354, 0x766a0abb, 0x81c2c92e, 0x92722c85,
  0xa2bfe8a1, 0xa81a664b, 0xc24b8b70, 0xc76c51a3, 0xd192e819, 0xd6990624, 0xf40e3585, 0x106aa070,
  0x19a4c116, 0x1e376c08, 0x2748774c, 0x34b0bcb5, 0x391c0cb3, 0x4ed8aa4a, 0x5b9cca4f, 0x682e6ff3,
  0x748f82ee, 0x78a5636f, 0x84c87814, 0x8cc70208, 0x90befffa, 0xa4506ceb, 0xbef9a3f7, 0xc67178f2]
def h0 : S8 := ⟨0x6a09e667, 0xbb67ae85, 0x3c6ef372, 0xa54ff53a, 0x510e527f, 0x9b05688c, 0x1f83d9ab, 0x5be0cd19⟩
def rnds (v : S8) (ws : List UInt32) : Nat → S8
  | 0 => v
  | k + 1 => rnd (rnds v ws k) (kTab.getD k 0) (ws.getD k 0)
def S8.add (x y : S8) : S8 := ⟨x.a + y.a, x.b + y.b, x.c + y.c, x.d + y.d, x.e + y.e, x.f + y.f, x.g + y.g, x.h + y.h⟩
def blk (h : S8) (b : List UInt8) : S8 := h.add (rnds h (sched (words32 b 16) 48) 64)
def feedN : Nat → S8 → List UInt8 → S8 × List UInt8
  | 0, h, l => (h, l)
  | n + 1, h, l => feedN n (blk h (l.take 64)) (l.drop 64)
def feed (h : S8) (l : List UInt8) : S8 × List UInt8 := feedN (l.length / 64) h l
theorem feedN_rest : ∀ n h l, (feedN n h l).2 = l.drop (64 * n)
  | 0, h, l => by simp [feedN]
  | n + 1, h, l => by rw [feedN, feedN_rest n, List.drop_drop]; congr 1; omega
theorem feedN_append : ∀ n h (l r : List UInt8), 64 * n ≤ l.length → feedN n h (l ++ r) = ((feedN n h l).1, (feedN n h l).2 ++ r)
  | 0, h, l, r, _ => rfl
  | n + 1, h, l, r, hl => by
    rw [feedN, feedN, List.take_append_of_le_length (by omega), List.drop_append_of_le_length (by omega), feedN_append n _ _ _ (by rw [List.length_drop]; omega)]
theorem feedN_add : ∀ m n h l, feedN (m + n) h l = feedN n (feedN m h l).1 (feedN m h l).2
  | 0, n, h, l => by simp [feedN]
  | m + 1, n, h, l => by rw [show m + 1 + n = (m + n) + 1 by omega, feedN, feedN, feedN_add m n]
theorem feed_rest (h : S8) (l : List UInt8) : (feed h l).2 = l.drop (64 * (l.length / 64)) := feedN_rest _ _ _
theorem feed_small (h : S8) (l : List UInt8) (hl : l.length < 64) : feed h l = (h, l) := by
  unfold feed; rw [Nat.div_eq_of_lt hl]; rfl
theorem feed_big (h : S8) (l : List UInt8) (hl : 64 ≤ l.length) : feed h l = feed (blk h (l.take 64)) (l.drop 64) := by
  unfold feed; rw [show l.length / 64 = (l.drop 64).length / 64 + 1 by rw [List.length_drop]; omega]; rfl
theorem feed_append (h : S8) (l r : List UInt8) : feed h (l ++ r) = feed (feed h l).1 ((feed h l).2 ++ r) := by
  have h1 : (l ++ r).length / 64 = l.length / 64 + ((feed h l).2 ++ r).length / 64 := by
    rw [List.length_append, List.length_append, feed_rest, List.length_drop]; omega
  have h2 := feedN_append (l.length / 64) h l r (by omega)
  show feedN ((l ++ r).length / 64) h (l ++ r) = feedN (((feed h l).2 ++ r).length / 64) (feed h l).1 ((feed h l).2 ++ r)
  rw [h1, feedN_add, h2]; rfl
def out8 (v : S8) : List UInt8 := v.list.flatMap fun x => big 4 x.toNat
def padTo (l : List UInt8) : List UInt8 := l ++ [128] ++ List.replicate ((119 - l.length % 64) % 64) 0
def padded64 (l : List UInt8) : List UInt8 := padTo l ++ big 8 (8 * l.length)
def sha (l : List UInt8) : List UInt8 := out8 (feed h0 (padded64 l)).1
theorem pad_zero (l : List UInt8) (k : Nat) (hk : (l ++ List.replicate k (0 : UInt8)).length % 64 = 56) (hmin : ∀ j, j < k → (l.length + j) % 64 ≠ 56) : l ++ List.replicate k 0 = l ++ List.replicate ((120 - l.length % 64) % 64) 0 := by
  congr 2
  simp at hk
  rcases Nat.lt_trichotomy k ((120 - l.length % 64) % 64) with h | h | h
  · omega
  · exact h
  · exact absurd (by omega : (l.length + (120 - l.length % 64) % 64) % 64 = 56) (hmin _ h)
end Go.Proofs.YtcbkaiakdhiloabGreatDoor
namespace Go.Proofs.YtcbkaiakdhiloabGreatDoor
open Go.RowKit Go.Proofs
theorem shrw3 (x : UInt32) : (x.toNat : Int) / 8 = ((shr x 3).toNat : Int) := by rw [shr_toNat]; omega
theorem shrw10 (x : UInt32) : (x.toNat : Int) / 1024 = ((shr x 10).toNat : Int) := by rw [shr_toNat]; omega
theorem addw (a b : UInt32) : ((a.toNat : Int) + (b.toNat : Int)) % 4294967296 = ((a + b).toNat : Int) := by
  rw [UInt32.toNat_add]; omega
theorem getD_of (l : List UInt32) (k : Nat) (hk : k < l.length) : l[k]? = some (l.getD k 0) := by
  rw [List.getD_eq_getElem?_getD, List.getElem?_eq_getElem hk]; rfl
def wsN (b : List UInt8) (i : Nat) : List UInt32 := if i ≤ 16 then words32 b i else sched (words32 b 16) (i - 16)
theorem wsN_length (b : List UInt8) (i : Nat) : (wsN b i).length = i := by
  unfold wsN; split
  · exact words32_length b i
  · rw [sched_length, words32_length]; omega
theorem wsN_lo (b : List UInt8) (i : Nat) (h : i < 16) : wsN b (i + 1) = wsN b i ++ [wd (b.getD (4 * i) 0) (b.getD (4 * i + 1) 0) (b.getD (4 * i + 2) 0) (b.getD (4 * i + 3) 0)] := by
  unfold wsN; rw [if_pos (by omega), if_pos (by omega), words32_succ]
theorem wsN_hi (b : List UInt8) (i : Nat) (h : 16 ≤ i) : wsN b (i + 1) = wsN b i ++ [nextW (wsN b i)] := by
  have e : wsN b i = sched (words32 b 16) (i - 16) := by
    unfold wsN; split
    · obtain rfl : i = 16 := by omega
      rfl
    · rfl
  rw [e]; unfold wsN; rw [if_neg (by omega), show i + 1 - 16 = (i - 16) + 1 by omega]; rfl
theorem wsN_all (b : List UInt8) : wsN b 64 = sched (words32 b 16) 48 := rfl
theorem S8.list_length (v : S8) : v.list.length = 8 := rfl
def mixN (x y : S8) (i : Nat) : List UInt32 := ((x.add y).list.take i) ++ (x.list.drop i)
theorem mixN_zero (x y : S8) : mixN x y 0 = x.list := by simp [mixN]
theorem mixN_all (x y : S8) : mixN x y 8 = (x.add y).list := rfl
theorem mixN_step (x y : S8) : ∀ i, i < 8 → ∃ a b, (mixN x y i)[i]? = some a ∧ y.list[i]? = some b ∧ mixN x y (i + 1) = (mixN x y i).set i (a + b) := by
  intro i hi
  match i, hi with
  | 0, _ => exact ⟨_, _, rfl, rfl, rfl⟩
  | 1, _ => exact ⟨_, _, rfl, rfl, rfl⟩
  | 2, _ => exact ⟨_, _, rfl, rfl, rfl⟩
  | 3, _ => exact ⟨_, _, rfl, rfl, rfl⟩
  | 4, _ => exact ⟨_, _, rfl, rfl, rfl⟩
  | 5, _ => exact ⟨_, _, rfl, rfl, rfl⟩
  | 6, _ => exact ⟨_, _, rfl, rfl, rfl⟩
  | 7, _ => exact ⟨_, _, rfl, rfl, rfl⟩
theorem words32_take (u : List UInt8) : words32 (u.take 64) 16 = words32 u 16 := by
  unfold words32
  apply List.map_congr_left
  intro i hi
  have hi2 : i < 16 := by simpa using hi
  have h : ∀ k, k < 64 → (u.take 64).getD k 0 = u.getD k 0 := by
    intro k hk
    rw [List.getD_eq_getElem?_getD, List.getD_eq_getElem?_getD, List.getElem?_take, if_pos hk]
  rw [h _ (by omega), h _ (by omega), h _ (by omega), h _ (by omega)]
theorem blk_wsN (H : S8) (u : List UInt8) : blk H (u.take 64) = H.add (rnds H (wsN u 64) 64) := by
  rw [blk, words32_take, wsN_all]
theorem byte_at (n j : Nat) : (n : Int) / 2 ^ (8 * j) % 256 = ((UInt8.ofNat (n / 256 ^ j)).toNat : Int) := by
  rw [UInt8.toNat_ofNat', show (2 : Int) ^ (8 * j) = ((2 ^ (8 * j) : Nat) : Int) by simp, show (256 : Nat) ^ j = 2 ^ (8 * j) by rw [show (256 : Nat) = 2 ^ 8 from rfl, ← Nat.pow_mul]]
  omega
end Go.Proofs.YtcbkaiakdhiloabGreatDoor
namespace Go.Proofs.YtcbkaiakdhiloabGreatDoor
open Go.RowKit Go.Proofs
structure EntD where
  ip : Nat
  card : Mac
  known : Bool
  due : Int
  asked : Int
  waits : List UInt8
structure CfgD where
  card : Mac
  name : List UInt8
  cap : Nat
  digest : List UInt8
  block : Nat
  window : Nat
  rx : Nat
  tx : Nat
structure St where
  c : CfgD
  rx : List (List UInt8)
  tx : List (List UInt8)
  now : Int
  draw : Nat
  boots : Int
  lost : Int
  id : Nat
  cache : List EntD
  lease : Nat
  xid : Nat
  addr : Nat
  mask : Nat
  router : Nat
  server : Nat
  source : Nat
  t1 : Int
  t2 : Int
  untl : Int
  lagain : Int
  lsends : Nat
  phase : Nat
  port : Nat
  peer : Nat
  block : Nat
  wind : Nat
  next : Nat
  came : Int
  tagain : Int
  tsends : Nat
  goal : Nat
  last : List UInt8
  image : List UInt8
def zMac : Mac := (0, 0, 0, 0, 0, 0)
def aMac : Mac := (255, 255, 255, 255, 255, 255)
def decF : Nat → Nat → List UInt8
  | 0, _ => []
  | f + 1, n => if n < 10 then [UInt8.ofNat (48 + n)] else decF f (n / 10) ++ [UInt8.ofNat (48 + n % 10)]
def dec (n : Nat) : List UInt8 := decF (n + 1) n
def insN (x : Nat) : List Nat → List Nat
  | [] => [x]
  | y :: r => if x ≤ y then x :: y :: r else y :: insN x r
def sortN : List Nat → List Nat
  | [] => []
  | x :: r => insN x (sortN r)
def find (l : List EntD) (ip : Nat) : Option EntD := l.find? fun e => e.ip == ip
def ahead (a b : EntD) : Bool := decide (a.due < b.due) || (decide (a.due = b.due) && decide (a.ip < b.ip))
def least : List EntD → EntD → EntD
  | [], b => b
  | a :: r, b => least r (if ahead a b then a else b)
def enter (l : List EntD) (e : EntD) : List EntD :=
  if l.length < 4 then l ++ [e] else match l with
    | [] => [e]
    | b :: r => l.map fun x => if x.ip = (least r b).ip then e else x
def setEnt (l : List EntD) (ip : Nat) (f : EntD → EntD) : List EntD := l.map fun e => if e.ip = ip then f e else e
namespace St
def address (s : St) : Nat := if 4 ≤ s.lease then s.addr else 0
def over (s : St) : Bool := s.phase == 3 || s.phase == 4
def wait (s : St) (k : Nat) : Int := ((2 * 2 ^ k + s.draw % 3 : Nat) : Int) - 1
def take (s : St) : St × Option (List UInt8) := match s.tx with
  | [] => (s, none)
  | f :: r => ({ s with tx := r }, some f)
def drop (s : St) : St := ⟨s.c, s.rx, s.tx, s.now, s.draw, s.boots, s.lost, s.id, [], 0, 0, 0, 0, 0, 0, 0, 0, 0, 0, 0, 0, 0, 0, 0, 0, 0, 0, 0, 0, 0, 0, [], []⟩
def fail (s : St) : St :=
  let t := { s.drop with boots := wrap64 (s.boots + 1) }
  if wrap64 (s.boots + 1) = 3 then { t with phase := 4 } else t
def send (s : St) (dst : Mac) (kind : Nat) (load : List UInt8) : St :=
  if s.tx.length = s.c.tx then { s with lost := wrap64 (s.lost + 1) } else { s with tx := s.tx ++ [(wrEther dst s.c.card kind load).1] }
def arp (s : St) (op : Nat) (dst whose : Mac) (fm ip : Nat) : St := s.send dst 2054 (wrARP op s.c.card fm whose ip).1
def ask (s : St) (fm ip : Nat) : St := s.arp 1 aMac zMac fm ip
def packet (s : St) (dst fm port : Nat) (load : List UInt8) : List UInt8 := (wrIP (s.id % 65536) 64 17 s.address dst (wrUDP fm port s.address dst load).1).1
def took (s : St) : St := { s with id := s.id + 1 }
def hop (s : St) (dst : Nat) : Nat := if s.router ≠ 0 ∧ dst &&& s.mask ≠ s.addr &&& s.mask then s.router else dst
def udp (s : St) (dst fm port : Nat) (load : List UInt8) : St :=
  let p := s.packet dst fm port load
  let h := s.hop dst
  match find s.cache h with
  | none => { s.took with cache := enter s.cache ⟨h, zMac, false, wrap64 (s.now + 2), 1, p⟩ }.ask s.addr h
  | some e => if e.known then s.took.send e.card 2048 p else { s.took with cache := setEnt s.cache h fun e => { e with waits := p } }
def keepE (now : Int) (e : EntD) : Option EntD :=
  if now < e.due then some e else if e.known || decide (e.asked = 3) then none else some { e with asked := wrap64 (e.asked + 1), due := wrap64 (e.due + 2) }
def asksE (now : Int) (e : EntD) : Bool := !decide (now < e.due) && !(e.known || decide (e.asked = 3))
def neighbours (s : St) : St :=
  (sortN ((s.cache.filter (asksE s.now)).map (·.ip))).foldl (fun t ip => t.ask t.address ip) { s with cache := s.cache.filterMap (keepE s.now) }
def msgO (kind : UInt8) (os : List OptD) : List OptD := [⟨53, [kind]⟩] ++ os ++ (if kind = 4 then [] else [⟨55, [1, 3, 51, 54, 58, 59]⟩])
def msg (s : St) (kind : UInt8) (os : List OptD) : List UInt8 := (wrDHCP false s.xid s.address 0 0 (macB s.c.card) (msgO kind os)).1
def say (s : St) (kind : UInt8) (alone : Bool) (os : List OptD) : St :=
  if alone then s.udp s.server 68 67 (s.msg kind os) else s.took.send aMac 2048 (s.packet 4294967295 68 67 (s.msg kind os))
def both (s : St) : List OptD := [⟨50, big 4 s.addr⟩, ⟨54, big 4 s.server⟩]
def asks (s : St) : St := if s.lease = 1 then s.say 1 false [] else s.say 3 false s.both
def goes (s : St) (l : Nat) : St := { s with lease := l, lsends := 1, lagain := wrap64 (s.now + s.wait 0) }.asks
def tell (s : St) : St := s.udp s.source s.port s.goal s.last
def waits (s : St) (m : TftD) : St := { s with last := (wrTFTP m).1, goal := if s.phase = 1 then 69 else s.peer, tsends := 1, tagain := wrap64 (s.now + s.wait 0) }
def bNm : List UInt8 := [98, 108, 107, 115, 105, 122, 101]
def wNm : List UInt8 := [119, 105, 110, 100, 111, 119, 115, 105, 122, 101]
def tNm : List UInt8 := [116, 115, 105, 122, 101]
def read (s : St) : St :=
  ({ s with phase := 1, port := 1024 + s.draw % 60000, peer := 0, block := 512, wind := 1, next := 1, came := 0, image := [] }.waits
    ⟨1, 0, s.c.name, [], [⟨bNm, dec s.c.block⟩, ⟨wNm, dec s.c.window⟩, ⟨tNm, [48]⟩]⟩).tell
def leases (s : St) : St :=
  if s.lease = 0 then { s with xid := s.draw }.goes 1
  else if s.lease = 1 ∨ s.lease = 2 then
    if s.now < s.lagain then s else if s.lsends = 4 then s.fail else { s with lagain := wrap64 (s.now + s.wait s.lsends), lsends := s.lsends + 1 }.asks
  else if s.lease = 3 then if s.now < s.lagain then s else { s with lease := 4 }.read
  else if s.untl = 0 then s
  else if s.untl ≤ s.now then s.drop
  else
    let l := if s.t2 ≤ s.now then 6 else if s.t1 ≤ s.now ∧ s.lease = 4 then 5 else s.lease
    if l ≠ 4 ∧ (l ≠ s.lease ∨ s.lagain ≤ s.now) then { s with lease := l, lagain := wrap64 (s.now + 8) }.say 3 (l == 5) [] else { s with lease := l }
def busy (s : St) : Bool := s.phase == 1 || s.phase == 2
def again (s : St) : St :=
  if s.busy = false ∨ s.now < s.tagain then s
  else if s.tsends = 4 then s.fail
  else { s with tagain := wrap64 (s.now + s.wait s.tsends), tsends := s.tsends + 1 }.tell
def tick (s : St) (draw : Nat) : St :=
  let s := { s with now := wrap64 (s.now + 1), draw := draw }
  if s.over then s else s.neighbours.leases.again
end St
end Go.Proofs.YtcbkaiakdhiloabGreatDoor
namespace Go.Proofs.YtcbkaiakdhiloabGreatDoor
open Go.RowKit Go.Proofs
def findBlock (n : Nat) : Code → Option Code
  | .block k c => if k == n then some (.block k c) else findBlock n c
  | .seq a b => match findBlock n a with
    | some c => some c
    | none => findBlock n b
  | .cond _ a b => match findBlock n a with
    | some c => some c
    | none => findBlock n b
  | .loop c => findBlock n c
  | .scope c => findBlock n c
  | _ => none
def sl (a : Act) (k : Nat) : Value := a.tmps.getD k undef
structure Sz (n : Nat) (a : Act) : Prop where
  size : a.tmps.size = n
  defers : a.defers = []
def frN (n : Nat) (u : Nat → Value) : Act := ⟨((List.range n).map u).toArray, []⟩
theorem Sz.eq {n : Nat} {a : Act} (h : Sz n a) : a = frN n (sl a) := by
  obtain ⟨t, d⟩ := a
  obtain ⟨h1, h2⟩ := h
  simp only at h1 h2
  subst h2
  unfold frN
  congr 1
  apply Array.ext
  · simp [h1]
  · intro i h3 h4
    simp [sl, Array.getD, h3]
section
variable {P : Program} {Q : Exit → Act → World → Prop} {a : Act} {w : World}
theorem wp_if {k : Nat} {x y : Code} {b : Bool} (h : sl a k = .bool b) (h1 : b = true → x.wp P Q a w) (h2 : b = false → y.wp P Q a w) : (Code.cond (.tmp k) x y).wp P Q a w :=
  wp_cond_split (c := .tmp k) h h1 h2
theorem wp_loop_sz {c : Code} (n : Nat) (Rel : Act → World → Prop) (mu : Act → World → Nat) (h0 : Sz n a) (h1 : Rel a w)
    (round : ∀ a w, Sz n a → Rel a w → c.wp P (Exit.then (fun a' w' => Sz n a' ∧ Rel a' w' ∧ mu a' w' < mu a w) Q) a w) : (Code.loop c).wp P Q a w := by
  refine wp_loop (fun a' w' => Sz n a' ∧ Rel a' w') mu ⟨h0, h1⟩ ?_
  rintro a' w' ⟨e, hr⟩
  exact wp_mono (round a' w' e hr) fun ex a2 w2 hq => by
    cases ex with
    | normal => exact ⟨⟨hq.1, hq.2.1⟩, hq.2.2⟩
    | _ => exact hq
end
def findRegion (n : Nat) : Code → Option Code
  | .region k ops d => if k == n then some (.region k ops d) else none
  | .block _ c => findRegion n c
  | .seq a b => match findRegion n a with
    | some c => some c
    | none => findRegion n b
  | .cond _ a b => match findRegion n a with
    | some c => some c
    | none => findRegion n b
  | .loop c => findRegion n c
  | .scope c => findRegion n c
  | _ => none
noncomputable def regionOf (f : Func) (n : Nat) : Code := (f.body.bind (findRegion n)).getD .skip
noncomputable def blockOf (f : Func) (n : Nat) : Code := (f.body.bind (findBlock n)).getD .skip
def Kp (l : List Nat) (a a' : Act) : Prop := ∀ k ∈ l, sl a' k = sl a k
def KpU (l : List Nat) (u : Nat → Value) (a' : Act) : Prop := ∀ k ∈ l, sl a' k = u k
theorem KpU.nil (u : Nat → Value) (a : Act) : KpU [] u a := fun k h => by cases h
theorem KpU.cons {k : Nat} {l : List Nat} {u : Nat → Value} {a : Act} (h : sl a k = u k) (hl : KpU l u a) : KpU (k :: l) u a := List.forall_mem_cons.2 ⟨h, hl⟩
theorem Kp.refl (l : List Nat) (a : Act) : Kp l a a := fun _ _ => rfl
theorem inBlock_self {id : Nat} {Q : Exit → Act → World → Prop} {a : Act} {w : World} (h : Q .normal a w) : Exit.inBlock id Q (.exit id) a w := by simp only [Exit.inBlock, if_true]; exact h
theorem then_exit {id : Nat} {K : Act → World → Prop} {Q : Exit → Act → World → Prop} {a : Act} {w : World} (h : Q (.exit id) a w) : Exit.then K Q (.exit id) a w := h
end Go.Proofs.YtcbkaiakdhiloabGreatDoor
