/- Parts of the walk; written by programs, merged. -/
import Derived.Test.YtcbkaiakdhiloabGreatDoorMaa
import Derived.Test.YtcbkaiakdhiloabGreatDoorMab
import Derived.Test.YtcbkaiakdhiloabGreatDoorMac
import Derived.Test.YtcbkaiakdhiloabGreatDoorProg
import Derived.WalkKit
import Derived.WalkLawsBesides
import Derived.WalkSpells
import Derived.Deep.AppendLies
import Derived.Deep.DrawnRows
import Derived.Maps.AppendAt
import Derived.StillTailTactics
import Derived.Lib.Hide
import Derived.Lib.AppendStr
import Derived.Lib.Strings
import Derived.Laws.MakeOwn
import Derived.Laws.OwnMore
import Derived.Laws.BitsAllLaws
import Derived.Orders
import Derived.Deep.MidRow
import Derived.Deep.DeepMust
import Derived.Deep.RegionHeld3
import Derived.Deep.RegionLaw
import Derived.Deep.LoopGhost
import Derived.Deep.QuietTactic
import Derived.BigQuiet
import Derived.Deep.Cut
import Derived.Deep.CutRange
set_option linter.unusedSimpArgs false
set_option linter.unusedVariables false
set_option maxRecDepth 20000
set_option maxHeartbeats 8000000
namespace Go.Proofs.YtcbkaiakdhiloabGreatDoor
open Go.RowKit Go.Proofs
attribute [local go_sem] bs_size bs_append bs_sub bs_toList
def besideB (fi ti n : Nat) : List UInt8 := big 4 fi ++ big 4 ti ++ [0, 17] ++ big 2 n
theorem beside_length (fi ti n : Nat) : (besideB fi ti n).length = 12 := by simp [besideB, big_length]
theorem beside_lst (fi ti : Nat) (n : Int) : ([] ++ bigs 4 [(fi : Int), (ti : Int)] ++ [0, 17] ++ bigs 2 [n]) = besideB fi ti n.toNat := by
  simp only [bigs, List.flatMap_cons, List.flatMap_nil, List.append_nil, Int.toNat_natCast, List.nil_append, besideB, List.append_assoc]
theorem hashCheck_two (A : Option Addr) (c : Nat) (p q : List UInt8) (w : World) (hr : SlR w noB 1 A 2 (strs [p, q])) (hz : p.length ≤ 9223372036854775807) (hy : q.length ≤ 9223372036854775807) :
    Calls Tryz.prog 28 #[.slice A 2 c] w fun e w' => e = .returned (.int .u16 (check (p ++ q))) ∧ w = w' := by
  have h := hashCheck_any A 2 c [p, q] w noB hr (by omega) (by intro x hx; simp at hx; rcases hx with rfl | rfl <;> assumption)
  simpa using h
theorem refBigI (x : Int) (n : Nat) (w : World) (h0 : 0 ≤ x) (hx : x ≤ 4611686018427387904) (hn : n ≤ 1000) :
    Calls Tryz.prog 259 #[.int .i64 x, .int .i64 n] w fun e w' => e = .returned (.string (bs (big n x.toNat))) ∧ Fr noB w w' := by
  have h := refBig x.toNat n w (by omega) hn
  rw [Int.toNat_of_nonneg h0] at h
  exact h
theorem pseudoFn (fi ti : Nat) (n : Int) (w : World) (hfi : fi < 4294967296) (hti : ti < 4294967296) (hn0 : 0 ≤ n) (hn1 : n ≤ 65535) :
    Calls Tryz.prog 76 #[.int .u32 (fi : Int), .int .u32 (ti : Int), .int .i64 n] w (fun e w' => e = .returned (.string (bs (besideB fi ti n.toNat))) ∧ Fr noB w w') := by
  have hbw := Bk.new w 125 #[.slice none 0 0]
  have hf0 : Fr noB w (w.alloc (.cells #[.slice none 0 0] 125)) := (Fr.refl _ _).alloc _
  have hsz : (w.alloc (.cells #[.slice none 0 0] 125)).heap.size = w.heap.size + 1 := by simp
  go_enter Tryz.func76, Tryz.ntmps76
  go_upto_region 2 with fail
  generalize w.alloc (.cells #[.slice none 0 0] 125) = w1 at *
  have hwr0 := Wr.zero hbw
  obtain ⟨lst, Q0, Q1, Q2, Q3⟩ : ∃ lst : Nat → List UInt8, Hid (lst 0 = ([] : List UInt8)) ∧ Hid (lst 1 = lst 0 ++ bigs 4 [(fi : Int), (ti : Int)]) ∧ Hid (lst 2 = lst 1 ++ [0, 17]) ∧ Hid (lst 3 = lst 2 ++ bigs 2 [n]) := by
    exact ⟨fun k => match k with | 0 => ([] : List UInt8) | 1 => (([] : List UInt8) ++ bigs 4 [(fi : Int), (ti : Int)]) | 2 => ((([] : List UInt8) ++ bigs 4 [(fi : Int), (ti : Int)]) ++ [0, 17]) | _ => (((([] : List UInt8) ++ bigs 4 [(fi : Int), (ti : Int)]) ++ [0, 17]) ++ bigs 2 [n]), rfl, rfl, rfl, rfl⟩
  have N0 : Hid ((lst 0).length ≤ 0) := by unfold Hid; rw [Q0.out]; simp
  have N1 : Hid ((lst 1).length ≤ 0 + (8)) := by have h0 := N0.out; have h1 : ((bigs 4 [(fi : Int), (ti : Int)] : List UInt8)).length ≤ 8 := (by simp [bigs_length, macB, big_length] <;> omega); unfold Hid; rw [Q1.out, List.length_append]; omega
  have N2 : Hid ((lst 2).length ≤ 0 + (8) + (2)) := by have h0 := N1.out; have h1 : (([0, 17] : List UInt8)).length ≤ 2 := (by simp [bigs_length, macB, big_length] <;> omega); unfold Hid; rw [Q2.out, List.length_append]; omega
  have N3 : Hid ((lst 3).length ≤ 0 + (8) + (2) + (2)) := by have h0 := N2.out; have h1 : ((bigs 2 [n] : List UInt8)).length ≤ 2 := (by simp [bigs_length, macB, big_length] <;> omega); unfold Hid; rw [Q3.out, List.length_append]; omega
  obtain ⟨V, hV⟩ : ∃ V : Nat → Value, V = (fun j => match j with | 0 => .pointer (some ⟨w.heap.size, 0, none⟩) | 1 => .int .u32 (fi : Int) | 2 => .int .u32 (ti : Int) | 4 => .pointer (some ⟨w.heap.size, 0, none⟩) | 6 => .pointer (some ⟨w.heap.size, 0, none⟩) | 7 => .int .i64 n | 8 => .int .u16 n | 10 => .pointer (some ⟨w.heap.size, 0, none⟩) | 11 => .string (bs (lst 3)) | 12 => .string (bs (lst 3)) | _ => undef) := ⟨_, rfl⟩
  have v0 : V 0 = .pointer (some ⟨w.heap.size, 0, none⟩) := congrFun hV 0
  have v1 : V 1 = .int .u32 (fi : Int) := congrFun hV 1
  have v2 : V 2 = .int .u32 (ti : Int) := congrFun hV 2
  have v4 : V 4 = .pointer (some ⟨w.heap.size, 0, none⟩) := congrFun hV 4
  have v6 : V 6 = .pointer (some ⟨w.heap.size, 0, none⟩) := congrFun hV 6
  have v7 : V 7 = .int .i64 n := congrFun hV 7
  have v8 : V 8 = .int .u16 n := congrFun hV 8
  have v10 : V 10 = .pointer (some ⟨w.heap.size, 0, none⟩) := congrFun hV 10
  have v11 : V 11 = .string (bs (lst 3)) := congrFun hV 11
  have v12 : V 12 = .string (bs (lst 3)) := congrFun hV 12
  clear hV
  refine wp_region_ssau_plain (by kernel_rfl) (by kernel_rfl) (by kernel_rfl)
    (fun u => ⟨#[.int .u32 (fi : Int), .int .u32 (ti : Int), .int .i64 n, undef, undef, undef, u 12, .pointer (some ⟨w.heap.size, 0, none⟩), .agg #[.slice none 0 0], .pointer (some ⟨w.heap.size, 0, none⟩), u 0, u 1, u 2, u 3, u 4, u 5, u 6, u 7, u 8, u 9, u 10, u 11], []⟩)
    (fun j v w3 => if j = 3 then True else if j = 5 then True else if j = 9 then True else v = V j)
    (fun L u w3 => ∃ (c : Nat) (A : Option Addr), (L 4 = decide (0 < c) ∧ L 6 = decide (1 < c) ∧ L 10 = decide (2 < c)) ∧ c ≤ 3 ∧ Chn w1 w.heap.size w1.heap.size A (lst c) w3 ∧ AlS (L 3) (u 3) 2 34 #[.int .u32 (fi : Int), .int .u32 (ti : Int)] w1.heap.size A w3 ∧ AlS (L 5) (u 5) 2 5 #[.int .u8 0, .int .u8 17] w1.heap.size A w3 ∧ AlS (L 9) (u 9) 1 24 #[.int .u16 n] w1.heap.size A w3) (fun j => if j = 12 then .string ⟨#[]⟩ else undef) ⟨0, none, ⟨rfl, rfl, rfl⟩, by omega, by rw [Q0.out]; exact Chn.start0 hwr0 rfl, AlS.false, AlS.false, AlS.false⟩ ?_ ?_
  · rintro L u w3 i o hG hΦ ho hL hd K hK
    match i, ho with
    | 0, ho =>
      simp at ho; subst ho
      clear hΦ hd
      go_simp
      exact hK _ _ v0.symm hG (fun _ _ _ h => h)
    | 1, ho =>
      simp at ho; subst ho
      clear hΦ hd
      go_simp
      exact hK _ _ v1.symm hG (fun _ _ _ h => h)
    | 2, ho =>
      simp at ho; subst ho
      clear hΦ hd
      go_simp
      exact hK _ _ v2.symm hG (fun _ _ _ h => h)
    | 3, ho =>
      simp at ho; subst ho
      have hu1 : u 1 = V 1 := hΦ 1 (hd ⟨1, .data⟩ (by simp) (by rfl))
      rw [v1] at hu1
      have hu2 : u 2 = V 2 := hΦ 2 (hd ⟨2, .data⟩ (by simp) (by rfl))
      rw [v2] at hu2
      clear hΦ hd
      obtain ⟨c, A, ⟨e0, e1, e2⟩, hcn, hch, s3, s5, s9⟩ := hG
      have hx : ∃ x, u = (upd (upd x 1 (.int .u32 (fi : Int))) 2 (.int .u32 (ti : Int))) := ⟨u, by rw [← upd_self hu1, ← upd_self hu2]⟩
      clear hu1 hu2
      obtain ⟨x, rfl⟩ := hx
      simp only [upd, reduceIte, Nat.reduceEqDiff]
      go_simp
      exact hK _ _ trivial ⟨c, A, ⟨e0, e1, e2⟩, hcn, hch.alloc _, AlS.new hch 2 34 #[.int .u32 (fi : Int), .int .u32 (ti : Int)], AlS.alloc s5 _, AlS.alloc s9 _⟩ (fun _ _ _ h => h)
    | 4, ho =>
      simp at ho; subst ho
      have hu0 : u 0 = V 0 := hΦ 0 (hd ⟨0, .data⟩ (by simp) (by rfl))
      rw [v0] at hu0
      have hl3 : L 3 = true := hd ⟨3, .data⟩ (by simp) (by rfl)
      clear hΦ hd
      obtain ⟨c, A, ⟨e0, e1, e2⟩, hcn, hch, s3, s5, s9⟩ := hG
      have hck : c = 0 := by
        have h1 := hL.symm.trans e0
        simp at h1; omega
      subst hck
      obtain ⟨g3, hg3, hb3, hB3, hn3⟩ := s3 hl3
      have hx : ∃ x, u = (upd (upd x 0 (.pointer (some ⟨w.heap.size, 0, none⟩))) 3 (.slice (some ⟨g3, 0, none⟩) 2 2)) := ⟨u, by rw [← upd_self hu0, ← upd_self hg3]⟩
      clear hu0 hg3
      obtain ⟨x, rfl⟩ := hx
      simp only [upd, reduceIte, Nat.reduceEqDiff]
      go_simp
      refine (wIP w.heap.size A _ w3 _ 2 2 [(fi : Int), (ti : Int)] hch.wr (SlR.of_bk (n := 2) (size := 1) hb3 (AlS.not hch hB3 hn3) rfl) (by intro x hx; simp at hx; omega) (by omega) (by have := N0.out; first | omega | (simp; omega))).mono ?_
      rintro e w4 ⟨rfl, hw4⟩
      obtain ⟨A', hch', hal⟩ := hch.call hw4
      exact hK _ _ v4.symm ⟨1, A', ⟨rfl, e1, e2⟩, by omega, by rw [Q1.out]; exact hch', hal _ _ _ _ _ s3, hal _ _ _ _ _ s5, hal _ _ _ _ _ s9⟩ (fun _ _ _ h => h)
    | 5, ho =>
      simp at ho; subst ho
      clear hΦ hd
      obtain ⟨c, A, ⟨e0, e1, e2⟩, hcn, hch, s3, s5, s9⟩ := hG
      go_simp
      exact hK _ _ trivial ⟨c, A, ⟨e0, e1, e2⟩, hcn, hch.alloc _, AlS.alloc s3 _, AlS.new hch 2 5 #[.int .u8 0, .int .u8 17], AlS.alloc s9 _⟩ (fun _ _ _ h => h)
    | 6, ho =>
      simp at ho; subst ho
      have hu4 : u 4 = V 4 := hΦ 4 (hd ⟨4, .data⟩ (by simp) (by rfl))
      rw [v4] at hu4
      have hl5 : L 5 = true := hd ⟨5, .data⟩ (by simp) (by rfl)
      have hlc : L 4 = true := hd ⟨4, .chain⟩ (by simp) (by rfl)
      clear hΦ hd
      obtain ⟨c, A, ⟨e0, e1, e2⟩, hcn, hch, s3, s5, s9⟩ := hG
      have hck : c = 1 := by
        have h1 := hL.symm.trans e1
        have h2 := hlc.symm.trans e0
        simp at h1 h2; omega
      subst hck
      obtain ⟨g5, hg5, hb5, hB5, hn5⟩ := s5 hl5
      have hx : ∃ x, u = (upd (upd x 4 (.pointer (some ⟨w.heap.size, 0, none⟩))) 5 (.slice (some ⟨g5, 0, none⟩) 2 2)) := ⟨u, by rw [← upd_self hu4, ← upd_self hg5]⟩
      clear hu4 hg5
      obtain ⟨x, rfl⟩ := hx
      simp only [upd, reduceIte, Nat.reduceEqDiff]
      go_simp
      refine (wU8 w.heap.size A _ w3 _ 2 2 [0, 17] (wrS w.heap.size A) hch.wr (SlR.of_bk (n := 2) (size := 1) hb5 (AlS.not hch hB5 hn5) rfl) (by have := N1.out; first | omega | (simp; omega))).mono ?_
      rintro e w4 ⟨rfl, hw4⟩
      obtain ⟨A', hch', hal⟩ := hch.call hw4
      exact hK _ _ v6.symm ⟨2, A', ⟨e0, rfl, e2⟩, by omega, by rw [Q2.out]; exact hch', hal _ _ _ _ _ s3, hal _ _ _ _ _ s5, hal _ _ _ _ _ s9⟩ (fun _ _ _ h => h)
    | 7, ho =>
      simp at ho; subst ho
      clear hΦ hd
      go_simp
      exact hK _ _ v7.symm hG (fun _ _ _ h => h)
    | 8, ho =>
      simp at ho; subst ho
      have hu7 : u 7 = V 7 := hΦ 7 (hd ⟨7, .data⟩ (by simp) (by rfl))
      rw [v7] at hu7
      clear hΦ hd
      have hx : ∃ x, u = (upd x 7 (.int .i64 n)) := ⟨u, by rw [← upd_self hu7]⟩
      clear hu7
      obtain ⟨x, rfl⟩ := hx
      simp only [upd, reduceIte, Nat.reduceEqDiff]
      have e8 : IntKind.u16.wrap n = n := by rw [IntKind.wrap_u16]; omega
      have e8' : n % 65536 = n := by omega
      go_simp
      exact hK _ _ v8.symm hG (fun _ _ _ h => h)
    | 9, ho =>
      simp at ho; subst ho
      have hu8 : u 8 = V 8 := hΦ 8 (hd ⟨8, .data⟩ (by simp) (by rfl))
      rw [v8] at hu8
      clear hΦ hd
      obtain ⟨c, A, ⟨e0, e1, e2⟩, hcn, hch, s3, s5, s9⟩ := hG
      have hx : ∃ x, u = (upd x 8 (.int .u16 n)) := ⟨u, by rw [← upd_self hu8]⟩
      clear hu8
      obtain ⟨x, rfl⟩ := hx
      simp only [upd, reduceIte, Nat.reduceEqDiff]
      go_simp
      exact hK _ _ trivial ⟨c, A, ⟨e0, e1, e2⟩, hcn, hch.alloc _, AlS.alloc s3 _, AlS.alloc s5 _, AlS.new hch 1 24 #[.int .u16 n]⟩ (fun _ _ _ h => h)
    | 10, ho =>
      simp at ho; subst ho
      have hu6 : u 6 = V 6 := hΦ 6 (hd ⟨6, .data⟩ (by simp) (by rfl))
      rw [v6] at hu6
      have hl9 : L 9 = true := hd ⟨9, .data⟩ (by simp) (by rfl)
      have hlc : L 6 = true := hd ⟨6, .chain⟩ (by simp) (by rfl)
      clear hΦ hd
      obtain ⟨c, A, ⟨e0, e1, e2⟩, hcn, hch, s3, s5, s9⟩ := hG
      have hck : c = 2 := by
        have h1 := hL.symm.trans e2
        have h2 := hlc.symm.trans e1
        simp at h1 h2; omega
      subst hck
      obtain ⟨g9, hg9, hb9, hB9, hn9⟩ := s9 hl9
      have hx : ∃ x, u = (upd (upd x 6 (.pointer (some ⟨w.heap.size, 0, none⟩))) 9 (.slice (some ⟨g9, 0, none⟩) 1 1)) := ⟨u, by rw [← upd_self hu6, ← upd_self hg9]⟩
      clear hu6 hg9
      obtain ⟨x, rfl⟩ := hx
      simp only [upd, reduceIte, Nat.reduceEqDiff]
      go_simp
      refine (wU16 w.heap.size A _ w3 _ 1 1 [n] hch.wr (SlR.of_bk (n := 1) (size := 1) hb9 (AlS.not hch hB9 hn9) rfl) (by intro x hx; simp at hx; omega) (by omega) (by have := N2.out; first | omega | (simp; omega))).mono ?_
      rintro e w4 ⟨rfl, hw4⟩
      obtain ⟨A', hch', hal⟩ := hch.call hw4
      exact hK _ _ v10.symm ⟨3, A', ⟨e0, e1, rfl⟩, by omega, by rw [Q3.out]; exact hch', hal _ _ _ _ _ s3, hal _ _ _ _ _ s5, hal _ _ _ _ _ s9⟩ (fun _ _ _ h => h)
    | 11, ho =>
      simp at ho; subst ho
      have hu10 : u 10 = V 10 := hΦ 10 (hd ⟨10, .data⟩ (by simp) (by rfl))
      rw [v10] at hu10
      have hlc : L 10 = true := hd ⟨10, .chain⟩ (by simp) (by rfl)
      clear hΦ hd
      obtain ⟨c, A, ⟨e0, e1, e2⟩, hcn, hch, s3, s5, s9⟩ := hG
      have hck : c = 3 := by
        have h2 := hlc.symm.trans e2
        simp at h2; omega
      subst hck
      have hx : ∃ x, u = (upd x 10 (.pointer (some ⟨w.heap.size, 0, none⟩))) := ⟨u, by rw [← upd_self hu10]⟩
      clear hu10
      obtain ⟨x, rfl⟩ := hx
      simp only [upd, reduceIte, Nat.reduceEqDiff]
      go_simp
      refine (wString w.heap.size _ _ _ hch.wr).mono ?_
      rintro e w4 ⟨rfl, rfl⟩
      exact hK _ _ v11.symm ⟨3, A, ⟨e0, e1, e2⟩, hcn, hch, s3, s5, s9⟩ (fun _ _ _ h => h)
    | 12, ho =>
      simp at ho; subst ho
      have hu11 : u 11 = V 11 := hΦ 11 (hd ⟨11, .data⟩ (by simp) (by rfl))
      rw [v11] at hu11
      clear hΦ hd
      have hx : ∃ x, u = (upd x 11 (.string (bs (lst 3)))) := ⟨u, by rw [← upd_self hu11]⟩
      clear hu11
      obtain ⟨x, rfl⟩ := hx
      simp only [upd, reduceIte, Nat.reduceEqDiff]
      go_simp
      exact hK _ _ v12.symm hG (fun _ _ _ h => h)
  · rintro u w3 hu L hall hG
    obtain ⟨c, A, ⟨e0, e1, e2⟩, hcn, hch, s3, s5, s9⟩ := hG
    have h12 : u 12 = V 12 := hu 12 (by simp)
    rw [v12] at h12
    clear hu
    rw [h12]
    have hby : lst 3 = besideB fi ti n.toNat := by rw [Q3.out, Q2.out, Q1.out, Q0.out]; exact beside_lst _ _ _
    rw [hby]
    have hfr := hf0.trans' hch.fr (fun b hb e => by unfold oneB at e; omega)
    generalize hR : besideB fi ti n.toNat = R at *
    have HR := Lib.hid hR
    clear hR
    go_wp2_with fail
    go_ret
    exact ⟨by rw [HR.out]; rfl, hfr⟩
theorem refBeside (fi ti : Nat) (n : Int) (w : World) (hfi : fi < 4294967296) (hti : ti < 4294967296) (hn0 : 0 ≤ n) (hn1 : n ≤ 65535) :
    Calls Tryz.prog 229 #[.int .u32 (fi : Int), .int .u32 (ti : Int), .int .i64 n] w (fun e w' => e = .returned (.string (bs (besideB fi ti n.toNat))) ∧ Fr noB w w') := by
  go_enter Tryz.func229, Tryz.ntmps229
  go_upto_region 1 with fail
  obtain ⟨y1, Hy1⟩ : ∃ s : List UInt8, Hid (s = big 4 fi) := ⟨big 4 fi, Lib.hid rfl⟩
  obtain ⟨y2, Hy2⟩ : ∃ s : List UInt8, Hid (s = big 4 ti) := ⟨big 4 ti, Lib.hid rfl⟩
  obtain ⟨t1, Ht1⟩ : ∃ s : List UInt8, Hid (s = y1 ++ y2) := ⟨y1 ++ y2, Lib.hid rfl⟩
  obtain ⟨c1, Hc1⟩ : ∃ s : List UInt8, Hid (s = [0, 17]) := ⟨[0, 17], Lib.hid rfl⟩
  obtain ⟨t2, Ht2⟩ : ∃ s : List UInt8, Hid (s = t1 ++ c1) := ⟨t1 ++ c1, Lib.hid rfl⟩
  obtain ⟨y3, Hy3⟩ : ∃ s : List UInt8, Hid (s = big 2 n.toNat) := ⟨big 2 n.toNat, Lib.hid rfl⟩
  obtain ⟨t3, Ht3⟩ : ∃ s : List UInt8, Hid (s = t2 ++ y3) := ⟨t2 ++ y3, Lib.hid rfl⟩
  have Ly1 : Hid (y1.length ≤ 4) := by unfold Hid; rw [Hy1.out]; (simp [big_length, macB, bigs_length] <;> omega)
  have Ly2 : Hid (y2.length ≤ 4) := by have l_y1 := Ly1.out; unfold Hid; rw [Hy2.out]; (simp [big_length, macB, bigs_length] <;> omega)
  have Lt1 : Hid (t1.length ≤ 8) := by have l_y1 := Ly1.out; have l_y2 := Ly2.out; unfold Hid; rw [Ht1.out]; (simp [big_length, macB, bigs_length] <;> omega)
  have Lc1 : Hid (c1.length ≤ 2) := by have l_y1 := Ly1.out; have l_y2 := Ly2.out; have l_t1 := Lt1.out; unfold Hid; rw [Hc1.out]; (simp [big_length, macB, bigs_length] <;> omega)
  have Lt2 : Hid (t2.length ≤ 10) := by have l_y1 := Ly1.out; have l_y2 := Ly2.out; have l_t1 := Lt1.out; have l_c1 := Lc1.out; unfold Hid; rw [Ht2.out]; (simp [big_length, macB, bigs_length] <;> omega)
  have Ly3 : Hid (y3.length ≤ 2) := by have l_y1 := Ly1.out; have l_y2 := Ly2.out; have l_t1 := Lt1.out; have l_c1 := Lc1.out; have l_t2 := Lt2.out; unfold Hid; rw [Hy3.out]; (simp [big_length, macB, bigs_length] <;> omega)
  have Lt3 : Hid (t3.length ≤ 12) := by have l_y1 := Ly1.out; have l_y2 := Ly2.out; have l_t1 := Lt1.out; have l_c1 := Lc1.out; have l_t2 := Lt2.out; have l_y3 := Ly3.out; unfold Hid; rw [Ht3.out]; (simp [big_length, macB, bigs_length] <;> omega)
  obtain ⟨V, hV⟩ : ∃ V : Nat → Value, V = (fun j => match j with | 0 => .int .u32 (fi : Int) | 1 => .string (bs y1) | 2 => .int .u32 (ti : Int) | 3 => .string (bs y2) | 4 => .string (bs t1) | 5 => .string (bs t2) | 6 => .int .i64 n | 7 => .string (bs y3) | 8 => .string (bs t3) | 9 => .string (bs t3) | _ => undef) := ⟨_, rfl⟩
  have v0 : V 0 = .int .u32 (fi : Int) := congrFun hV 0
  have v1 : V 1 = .string (bs y1) := congrFun hV 1
  have v2 : V 2 = .int .u32 (ti : Int) := congrFun hV 2
  have v3 : V 3 = .string (bs y2) := congrFun hV 3
  have v4 : V 4 = .string (bs t1) := congrFun hV 4
  have v5 : V 5 = .string (bs t2) := congrFun hV 5
  have v6 : V 6 = .int .i64 n := congrFun hV 6
  have v7 : V 7 = .string (bs y3) := congrFun hV 7
  have v8 : V 8 = .string (bs t3) := congrFun hV 8
  have v9 : V 9 = .string (bs t3) := congrFun hV 9
  clear hV
  refine wp_region_ssau_plain (by kernel_rfl) (by kernel_rfl) (by kernel_rfl)
    (fun u => ⟨#[.int .u32 (fi : Int), .int .u32 (ti : Int), .int .i64 n, undef, undef, undef, u 9, u 0, u 1, u 2, u 3, u 4, u 5, u 6, u 7, u 8], []⟩)
    (fun j v w3 => v = V j)
    (fun L u w3 => Fr noB w w3) (fun j => if j = 9 then .string ⟨#[]⟩ else undef) ((Fr.refl _ _)) ?_ ?_
  · rintro L u w3 i o hG hΦ ho hL hd K hK
    match i, ho with
    | 0, ho =>
      simp at ho; subst ho
      clear hΦ hd
      go_simp
      exact hK _ _ v0.symm hG (fun _ _ _ h => h)
    | 1, ho =>
      simp at ho; subst ho
      have hu0 : u 0 = V 0 := hΦ 0 (hd ⟨0, .data⟩ (by simp) (by rfl))
      rw [v0] at hu0
      clear hΦ hd
      have hG0 := hG
      have hx : ∃ x, u = (upd x 0 (.int .u32 (fi : Int))) := ⟨u, by rw [← upd_self hu0]⟩
      clear hu0
      obtain ⟨x, rfl⟩ := hx
      simp only [upd, reduceIte, Nat.reduceEqDiff]
      go_simp
      refine (refIp fi w3 (by omega)).mono ?_
      rintro e w4 ⟨rfl, hf4⟩
      rw [← Hy1.out]
      exact hK _ _ v1.symm (hG0.none hf4) (fun _ _ _ h => h)
    | 2, ho =>
      simp at ho; subst ho
      clear hΦ hd
      go_simp
      exact hK _ _ v2.symm hG (fun _ _ _ h => h)
    | 3, ho =>
      simp at ho; subst ho
      have hu2 : u 2 = V 2 := hΦ 2 (hd ⟨2, .data⟩ (by simp) (by rfl))
      rw [v2] at hu2
      clear hΦ hd
      have hG0 := hG
      have hx : ∃ x, u = (upd x 2 (.int .u32 (ti : Int))) := ⟨u, by rw [← upd_self hu2]⟩
      clear hu2
      obtain ⟨x, rfl⟩ := hx
      simp only [upd, reduceIte, Nat.reduceEqDiff]
      go_simp
      refine (refIp ti w3 (by omega)).mono ?_
      rintro e w4 ⟨rfl, hf4⟩
      rw [← Hy2.out]
      exact hK _ _ v3.symm (hG0.none hf4) (fun _ _ _ h => h)
    | 4, ho =>
      simp at ho; subst ho
      have hu1 : u 1 = V 1 := hΦ 1 (hd ⟨1, .data⟩ (by simp) (by rfl))
      rw [v1] at hu1
      have hu3 : u 3 = V 3 := hΦ 3 (hd ⟨3, .data⟩ (by simp) (by rfl))
      rw [v3] at hu3
      clear hΦ hd
      have hx : ∃ x, u = (upd (upd x 1 (.string (bs y1))) 3 (.string (bs y2))) := ⟨u, by rw [← upd_self hu1, ← upd_self hu3]⟩
      clear hu1 hu3
      obtain ⟨x, rfl⟩ := hx
      simp only [upd, reduceIte, Nat.reduceEqDiff]
      have hln : ¬ 9223372036854775807 < y1.length + y2.length := by have l1 := Ly1.out; have l2 := Ly2.out; omega
      go_simp
      rw [← Ht1.out]
      exact hK _ _ v4.symm hG (fun _ _ _ h => h)
    | 5, ho =>
      simp at ho; subst ho
      have hu4 : u 4 = V 4 := hΦ 4 (hd ⟨4, .data⟩ (by simp) (by rfl))
      rw [v4] at hu4
      clear hΦ hd
      have hx : ∃ x, u = (upd x 4 (.string (bs t1))) := ⟨u, by rw [← upd_self hu4]⟩
      clear hu4
      obtain ⟨x, rfl⟩ := hx
      simp only [upd, reduceIte, Nat.reduceEqDiff]
      have hln : ¬ 9223372036854775807 < t1.length + c1.length := by have l1 := Lt1.out; have l2 := Lc1.out; omega
      have hcs : (⟨#[0, 17]⟩ : ByteArray) = bs c1 := by rw [Hc1.out]; rfl
      go_simp
      rw [← Ht2.out]
      exact hK _ _ v5.symm hG (fun _ _ _ h => h)
    | 6, ho =>
      simp at ho; subst ho
      clear hΦ hd
      go_simp
      exact hK _ _ v6.symm hG (fun _ _ _ h => h)
    | 7, ho =>
      simp at ho; subst ho
      have hu6 : u 6 = V 6 := hΦ 6 (hd ⟨6, .data⟩ (by simp) (by rfl))
      rw [v6] at hu6
      clear hΦ hd
      have hG0 := hG
      have hx : ∃ x, u = (upd x 6 (.int .i64 n)) := ⟨u, by rw [← upd_self hu6]⟩
      clear hu6
      obtain ⟨x, rfl⟩ := hx
      simp only [upd, reduceIte, Nat.reduceEqDiff]
      go_simp
      refine (refBigI n 2 w3 hn0 (by omega) (by omega)).mono ?_
      rintro e w4 ⟨rfl, hf4⟩
      rw [← Hy3.out]
      exact hK _ _ v7.symm (hG0.none hf4) (fun _ _ _ h => h)
    | 8, ho =>
      simp at ho; subst ho
      have hu5 : u 5 = V 5 := hΦ 5 (hd ⟨5, .data⟩ (by simp) (by rfl))
      rw [v5] at hu5
      have hu7 : u 7 = V 7 := hΦ 7 (hd ⟨7, .data⟩ (by simp) (by rfl))
      rw [v7] at hu7
      clear hΦ hd
      have hx : ∃ x, u = (upd (upd x 5 (.string (bs t2))) 7 (.string (bs y3))) := ⟨u, by rw [← upd_self hu5, ← upd_self hu7]⟩
      clear hu5 hu7
      obtain ⟨x, rfl⟩ := hx
      simp only [upd, reduceIte, Nat.reduceEqDiff]
      have hln : ¬ 9223372036854775807 < t2.length + y3.length := by have l1 := Lt2.out; have l2 := Ly3.out; omega
      go_simp
      rw [← Ht3.out]
      exact hK _ _ v8.symm hG (fun _ _ _ h => h)
    | 9, ho =>
      simp at ho; subst ho
      have hu8 : u 8 = V 8 := hΦ 8 (hd ⟨8, .data⟩ (by simp) (by rfl))
      rw [v8] at hu8
      clear hΦ hd
      have hx : ∃ x, u = (upd x 8 (.string (bs t3))) := ⟨u, by rw [← upd_self hu8]⟩
      clear hu8
      obtain ⟨x, rfl⟩ := hx
      simp only [upd, reduceIte, Nat.reduceEqDiff]
      go_simp
      exact hK _ _ v9.symm hG (fun _ _ _ h => h)
  · rintro u w3 hu L hall hG
    have hG0 := hG
    have h9 : u 9 = V 9 := hu 9 (by simp)
    rw [v9] at h9
    clear hu hall
    rw [h9]
    have hA : t3 = besideB fi ti n.toNat := by rw [Ht3.out, Ht2.out, Ht1.out, Hc1.out, Hy1.out, Hy2.out, Hy3.out]; rfl
    rw [hA]
    clear hA
    generalize hR : besideB fi ti n.toNat = R at *
    have HR := Lib.hid hR
    clear hR
    go_wp2_with fail
    go_ret
    exact ⟨by rw [HR.out]; rfl, hG0⟩
end Go.Proofs.YtcbkaiakdhiloabGreatDoor
namespace Go.Proofs.YtcbkaiakdhiloabGreatDoor
open Go.RowKit Go.Proofs
attribute [local go_sem] bs_size bs_append bs_sub bs_toList
def udpA (fm tp n : Nat) : List UInt8 := big 2 fm ++ big 2 tp ++ big 2 n
def udpWith (fm tp : Nat) (ld : List UInt8) (sum : Nat) : List UInt8 := udpA fm tp (8 + ld.length) ++ big 2 sum ++ ld
def udpSum0 (fm tp fi ti : Nat) (ld : List UInt8) : Nat := check (besideB fi ti (8 + ld.length) ++ udpA fm tp (8 + ld.length) ++ [0, 0] ++ ld)
def udpSum (fm tp fi ti : Nat) (ld : List UInt8) : Nat := if udpSum0 fm tp fi ti ld = 0 then 65535 else udpSum0 fm tp fi ti ld
def wrUDP (fm tp fi ti : Nat) (ld : List UInt8) : List UInt8 × Nat := if 1480 < 8 + ld.length then ([], 7) else (udpWith fm tp ld (udpSum fm tp fi ti ld), 0)
theorem udpSum_le (fm tp fi ti : Nat) (ld : List UInt8) : udpSum fm tp fi ti ld ≤ 65535 := by
  unfold udpSum; split
  · omega
  · exact check_le _
theorem udpA_length (fm tp n : Nat) : (udpA fm tp n).length = 6 := by simp [udpA, big_length]
theorem udpWith_length (fm tp : Nat) (ld : List UInt8) (sum : Nat) : (udpWith fm tp ld sum).length = 8 + ld.length := by simp [udpWith, udpA, big_length]; omega
theorem udpSum0_eq (fm tp fi ti : Nat) (ld : List UInt8) : check (besideB fi ti (8 + ld.length) ++ udpWith fm tp ld 0) = udpSum0 fm tp fi ti ld := by
  have e : big 2 0 = [0, 0] := by decide
  unfold udpSum0 udpWith; rw [e]; simp only [List.append_assoc]
theorem udp_lst (fm tp sum : Nat) (ld : List UInt8) : ([] ++ bigs 2 [(fm : Int), (tp : Int), (8 + (ld.length : Int)), (sum : Int)] ++ List.flatten [ld]) = udpWith fm tp ld sum := by
  have e1 : (8 + (ld.length : Int)).toNat = 8 + ld.length := by omega
  simp only [bigs, List.flatMap_cons, List.flatMap_nil, List.append_nil, e1, Int.toNat_natCast, List.nil_append, List.flatten_cons, List.flatten_nil, udpWith, udpA, List.append_assoc]
theorem udpWithFn (fm tp : Nat) (ld : List UInt8) (sum q qn : Nat) (w : World) (hfm : fm < 65536) (htp : tp < 65536) (hsum : sum < 65536) (hl2 : ld.length ≤ 1480) (hq : Bk w q 42 #[.int .u16 (fm : Int), .int .u16 (tp : Int), .string (bs ld)]) (hqn : Bk w qn 3 #[.int .i64 (8 + (ld.length : Int))]) :
    Calls Tryz.prog 75 #[.int .u16 (sum : Int), .pointer (some ⟨q, 0, none⟩), .pointer (some ⟨qn, 0, none⟩)] w (fun e w' => e = .returned (.string (bs (udpWith fm tp ld sum))) ∧ Fr noB w w') := by
  have hql := hq.lt
  have hqnl := hqn.lt
  have hpa := hq.alloc (.cells #[.slice none 0 0] 125)
  have hpn := hqn.alloc (.cells #[.slice none 0 0] 125)
  have hbw := Bk.new w 125 #[.slice none 0 0]
  have hf0 : Fr noB w (w.alloc (.cells #[.slice none 0 0] 125)) := (Fr.refl _ _).alloc _
  have hsz : (w.alloc (.cells #[.slice none 0 0] 125)).heap.size = w.heap.size + 1 := by simp
  go_enter Tryz.func75, Tryz.ntmps75
  go_upto_region 2 with fail
  generalize w.alloc (.cells #[.slice none 0 0] 125) = w1 at *
  have hwr0 := Wr.zero hbw
  obtain ⟨lst, Q0, Q1, Q2⟩ : ∃ lst : Nat → List UInt8, Hid (lst 0 = ([] : List UInt8)) ∧ Hid (lst 1 = lst 0 ++ bigs 2 [(fm : Int), (tp : Int), (8 + (ld.length : Int)), (sum : Int)]) ∧ Hid (lst 2 = lst 1 ++ List.flatten [ld]) := by
    exact ⟨fun k => match k with | 0 => ([] : List UInt8) | 1 => (([] : List UInt8) ++ bigs 2 [(fm : Int), (tp : Int), (8 + (ld.length : Int)), (sum : Int)]) | _ => ((([] : List UInt8) ++ bigs 2 [(fm : Int), (tp : Int), (8 + (ld.length : Int)), (sum : Int)]) ++ List.flatten [ld]), rfl, rfl, rfl⟩
  have N0 : Hid ((lst 0).length ≤ 0) := by unfold Hid; rw [Q0.out]; simp
  have N1 : Hid ((lst 1).length ≤ 0 + (8)) := by have h0 := N0.out; have h1 : ((bigs 2 [(fm : Int), (tp : Int), (8 + (ld.length : Int)), (sum : Int)] : List UInt8)).length ≤ 8 := (by simp [bigs_length, macB, big_length] <;> omega); unfold Hid; rw [Q1.out, List.length_append]; omega
  have N2 : Hid ((lst 2).length ≤ 0 + (8) + ((ld).length)) := by have h0 := N1.out; have h1 : ((List.flatten [ld] : List UInt8)).length ≤ (ld).length := (by simp [bigs_length, macB, big_length] <;> omega); unfold Hid; rw [Q2.out, List.length_append]; omega
  obtain ⟨V, hV⟩ : ∃ V : Nat → Value, V = (fun j => match j with | 0 => .pointer (some ⟨w.heap.size, 0, none⟩) | 1 => .pointer (some ⟨q, 0, none⟩) | 2 => .int .u16 (fm : Int) | 3 => .pointer (some ⟨q, 1, none⟩) | 4 => .int .u16 (tp : Int) | 5 => .int .i64 (8 + (ld.length : Int)) | 6 => .int .u16 (8 + (ld.length : Int)) | 7 => .int .u16 (sum : Int) | 9 => .pointer (some ⟨w.heap.size, 0, none⟩) | 10 => .pointer (some ⟨q, 2, none⟩) | 11 => .string (bs ld) | 13 => .pointer (some ⟨w.heap.size, 0, none⟩) | 14 => .string (bs (lst 2)) | 15 => .string (bs (lst 2)) | _ => undef) := ⟨_, rfl⟩
  have v0 : V 0 = .pointer (some ⟨w.heap.size, 0, none⟩) := congrFun hV 0
  have v1 : V 1 = .pointer (some ⟨q, 0, none⟩) := congrFun hV 1
  have v2 : V 2 = .int .u16 (fm : Int) := congrFun hV 2
  have v3 : V 3 = .pointer (some ⟨q, 1, none⟩) := congrFun hV 3
  have v4 : V 4 = .int .u16 (tp : Int) := congrFun hV 4
  have v5 : V 5 = .int .i64 (8 + (ld.length : Int)) := congrFun hV 5
  have v6 : V 6 = .int .u16 (8 + (ld.length : Int)) := congrFun hV 6
  have v7 : V 7 = .int .u16 (sum : Int) := congrFun hV 7
  have v9 : V 9 = .pointer (some ⟨w.heap.size, 0, none⟩) := congrFun hV 9
  have v10 : V 10 = .pointer (some ⟨q, 2, none⟩) := congrFun hV 10
  have v11 : V 11 = .string (bs ld) := congrFun hV 11
  have v13 : V 13 = .pointer (some ⟨w.heap.size, 0, none⟩) := congrFun hV 13
  have v14 : V 14 = .string (bs (lst 2)) := congrFun hV 14
  have v15 : V 15 = .string (bs (lst 2)) := congrFun hV 15
  clear hV
  refine wp_region_ssau (by kernel_rfl) (by kernel_rfl) (by kernel_rfl)
    (fun u => ⟨#[.int .u16 (sum : Int), .pointer (some ⟨q, 0, none⟩), .pointer (some ⟨qn, 0, none⟩), undef, u 15, .pointer (some ⟨w.heap.size, 0, none⟩), .agg #[.slice none 0 0], .pointer (some ⟨w.heap.size, 0, none⟩), u 0, u 1, u 2, u 3, u 4, u 5, u 6, u 7, u 8, u 9, u 10, u 11, u 12, u 13, u 14], []⟩)
    (fun j v w3 => if j = 8 then True else if j = 12 then True else v = V j)
    (fun L u w3 => ∃ (c : Nat) (A : Option Addr), (L 9 = decide (0 < c) ∧ L 13 = decide (1 < c)) ∧ c ≤ 2 ∧ Chn w1 w.heap.size w1.heap.size A (lst c) w3 ∧ AlS (L 8) (u 8) 4 24 #[.int .u16 (fm : Int), .int .u16 (tp : Int), .int .u16 (8 + (ld.length : Int)), .int .u16 (sum : Int)] w1.heap.size A w3 ∧ AlS (L 12) (u 12) 1 9 #[.string (bs ld)] w1.heap.size A w3) (fun j => if j = 15 then .string ⟨#[]⟩ else undef) ⟨0, none, ⟨rfl, rfl⟩, by omega, by rw [Q0.out]; exact Chn.start hwr0 rfl, AlS.false, AlS.false⟩ ?_ ?_
  · rintro L u w3 i o hG hΦ ho hL hd K hK
    match i, ho with
    | 0, ho =>
      simp at ho; subst ho
      clear hΦ hd
      go_simp
      exact hK _ _ v0.symm hG (fun _ _ _ h => h)
    | 1, ho =>
      simp at ho; subst ho
      clear hΦ hd
      go_simp
      exact hK _ _ v1.symm hG (fun _ _ _ h => h)
    | 2, ho =>
      simp at ho; subst ho
      have hu1 : u 1 = V 1 := hΦ 1 (hd ⟨1, .data⟩ (by simp) (by rfl))
      rw [v1] at hu1
      clear hΦ hd
      obtain ⟨c, A, ⟨e0, e1⟩, hcn, hch, s8, s12⟩ := hG
      have hx : ∃ x, u = (upd x 1 (.pointer (some ⟨q, 0, none⟩))) := ⟨u, by rw [← upd_self hu1]⟩
      clear hu1
      obtain ⟨x, rfl⟩ := hx
      simp only [upd, reduceIte, Nat.reduceEqDiff]
      have hc0 := ((hpa).keep hch.fr (by unfold oneB; omega)).cells
      go_simp
      exact hK _ _ v2.symm ⟨c, A, ⟨e0, e1⟩, hcn, hch, s8, s12⟩ (fun _ _ _ h => h)
    | 3, ho =>
      simp at ho; subst ho
      clear hΦ hd
      go_simp
      exact hK _ _ v3.symm hG (fun _ _ _ h => h)
    | 4, ho =>
      simp at ho; subst ho
      have hu3 : u 3 = V 3 := hΦ 3 (hd ⟨3, .data⟩ (by simp) (by rfl))
      rw [v3] at hu3
      clear hΦ hd
      obtain ⟨c, A, ⟨e0, e1⟩, hcn, hch, s8, s12⟩ := hG
      have hx : ∃ x, u = (upd x 3 (.pointer (some ⟨q, 1, none⟩))) := ⟨u, by rw [← upd_self hu3]⟩
      clear hu3
      obtain ⟨x, rfl⟩ := hx
      simp only [upd, reduceIte, Nat.reduceEqDiff]
      have hc0 := ((hpa).keep hch.fr (by unfold oneB; omega)).cells
      go_simp
      exact hK _ _ v4.symm ⟨c, A, ⟨e0, e1⟩, hcn, hch, s8, s12⟩ (fun _ _ _ h => h)
    | 5, ho =>
      simp at ho; subst ho
      clear hΦ hd
      obtain ⟨c, A, ⟨e0, e1⟩, hcn, hch, s8, s12⟩ := hG
      have hc0 := ((hpn).keep hch.fr (by unfold oneB; omega)).cells
      go_simp
      exact hK _ _ v5.symm ⟨c, A, ⟨e0, e1⟩, hcn, hch, s8, s12⟩ (fun _ _ _ h => h)
    | 6, ho =>
      simp at ho; subst ho
      have hu5 : u 5 = V 5 := hΦ 5 (hd ⟨5, .data⟩ (by simp) (by rfl))
      rw [v5] at hu5
      clear hΦ hd
      have hx : ∃ x, u = (upd x 5 (.int .i64 (8 + (ld.length : Int)))) := ⟨u, by rw [← upd_self hu5]⟩
      clear hu5
      obtain ⟨x, rfl⟩ := hx
      simp only [upd, reduceIte, Nat.reduceEqDiff]
      have e7 : IntKind.u16.wrap (8 + (ld.length : Int)) = 8 + (ld.length : Int) := by rw [IntKind.wrap_u16]; omega
      have e7' : (8 + (ld.length : Int)) % 65536 = 8 + (ld.length : Int) := by omega
      go_simp
      exact hK _ _ v6.symm hG (fun _ _ _ h => h)
    | 7, ho =>
      simp at ho; subst ho
      clear hΦ hd
      go_simp
      exact hK _ _ v7.symm hG (fun _ _ _ h => h)
    | 8, ho =>
      simp at ho; subst ho
      have hu2 : u 2 = V 2 := hΦ 2 (hd ⟨2, .data⟩ (by simp) (by rfl))
      rw [v2] at hu2
      have hu4 : u 4 = V 4 := hΦ 4 (hd ⟨4, .data⟩ (by simp) (by rfl))
      rw [v4] at hu4
      have hu6 : u 6 = V 6 := hΦ 6 (hd ⟨6, .data⟩ (by simp) (by rfl))
      rw [v6] at hu6
      have hu7 : u 7 = V 7 := hΦ 7 (hd ⟨7, .data⟩ (by simp) (by rfl))
      rw [v7] at hu7
      clear hΦ hd
      obtain ⟨c, A, ⟨e0, e1⟩, hcn, hch, s8, s12⟩ := hG
      have hx : ∃ x, u = (upd (upd (upd (upd x 2 (.int .u16 (fm : Int))) 4 (.int .u16 (tp : Int))) 6 (.int .u16 (8 + (ld.length : Int)))) 7 (.int .u16 (sum : Int))) := ⟨u, by rw [← upd_self hu2, ← upd_self hu4, ← upd_self hu6, ← upd_self hu7]⟩
      clear hu2 hu4 hu6 hu7
      obtain ⟨x, rfl⟩ := hx
      simp only [upd, reduceIte, Nat.reduceEqDiff]
      go_simp
      exact hK _ _ trivial ⟨c, A, ⟨e0, e1⟩, hcn, hch.alloc _, AlS.new hch 4 24 #[.int .u16 (fm : Int), .int .u16 (tp : Int), .int .u16 (8 + (ld.length : Int)), .int .u16 (sum : Int)], AlS.alloc s12 _⟩ (fun _ _ _ h => h)
    | 9, ho =>
      simp at ho; subst ho
      have hu0 : u 0 = V 0 := hΦ 0 (hd ⟨0, .data⟩ (by simp) (by rfl))
      rw [v0] at hu0
      have hl8 : L 8 = true := hd ⟨8, .data⟩ (by simp) (by rfl)
      clear hΦ hd
      obtain ⟨c, A, ⟨e0, e1⟩, hcn, hch, s8, s12⟩ := hG
      have hck : c = 0 := by
        have h1 := hL.symm.trans e0
        simp at h1; omega
      subst hck
      obtain ⟨g8, hg8, hb8, hB8, hn8⟩ := s8 hl8
      have hx : ∃ x, u = (upd (upd x 0 (.pointer (some ⟨w.heap.size, 0, none⟩))) 8 (.slice (some ⟨g8, 0, none⟩) 4 4)) := ⟨u, by rw [← upd_self hu0, ← upd_self hg8]⟩
      clear hu0 hg8
      obtain ⟨x, rfl⟩ := hx
      simp only [upd, reduceIte, Nat.reduceEqDiff]
      go_simp
      refine (wU16 w.heap.size A _ w3 _ 4 4 [(fm : Int), (tp : Int), (8 + (ld.length : Int)), (sum : Int)] hch.wr (SlR.of_bk (n := 4) (size := 1) hb8 (AlS.not hch hB8 hn8) rfl) (by intro x hx; simp at hx; omega) (by omega) (by have := N0.out; first | omega | (simp; omega))).mono ?_
      rintro e w4 ⟨rfl, hw4⟩
      obtain ⟨A', hch', hal⟩ := hch.call hw4
      exact hK _ _ v9.symm ⟨1, A', ⟨rfl, e1⟩, by omega, by rw [Q1.out]; exact hch', hal _ _ _ _ _ s8, hal _ _ _ _ _ s12⟩ (fun _ _ _ h => h)
    | 10, ho =>
      simp at ho; subst ho
      clear hΦ hd
      go_simp
      exact hK _ _ v10.symm hG (fun _ _ _ h => h)
    | 11, ho =>
      simp at ho; subst ho
      have hu10 : u 10 = V 10 := hΦ 10 (hd ⟨10, .data⟩ (by simp) (by rfl))
      rw [v10] at hu10
      clear hΦ hd
      obtain ⟨c, A, ⟨e0, e1⟩, hcn, hch, s8, s12⟩ := hG
      have hx : ∃ x, u = (upd x 10 (.pointer (some ⟨q, 2, none⟩))) := ⟨u, by rw [← upd_self hu10]⟩
      clear hu10
      obtain ⟨x, rfl⟩ := hx
      simp only [upd, reduceIte, Nat.reduceEqDiff]
      have hc0 := ((hpa).keep hch.fr (by unfold oneB; omega)).cells
      go_simp
      exact hK _ _ v11.symm ⟨c, A, ⟨e0, e1⟩, hcn, hch, s8, s12⟩ (fun _ _ _ h => h)
    | 12, ho =>
      simp at ho; subst ho
      have hu11 : u 11 = V 11 := hΦ 11 (hd ⟨11, .data⟩ (by simp) (by rfl))
      rw [v11] at hu11
      clear hΦ hd
      obtain ⟨c, A, ⟨e0, e1⟩, hcn, hch, s8, s12⟩ := hG
      have hx : ∃ x, u = (upd x 11 (.string (bs ld))) := ⟨u, by rw [← upd_self hu11]⟩
      clear hu11
      obtain ⟨x, rfl⟩ := hx
      simp only [upd, reduceIte, Nat.reduceEqDiff]
      go_simp
      exact hK _ _ trivial ⟨c, A, ⟨e0, e1⟩, hcn, hch.alloc _, AlS.alloc s8 _, AlS.new hch 1 9 #[.string (bs ld)]⟩ (fun _ _ _ h => h)
    | 13, ho =>
      simp at ho; subst ho
      have hu9 : u 9 = V 9 := hΦ 9 (hd ⟨9, .data⟩ (by simp) (by rfl))
      rw [v9] at hu9
      have hl12 : L 12 = true := hd ⟨12, .data⟩ (by simp) (by rfl)
      have hlc : L 9 = true := hd ⟨9, .chain⟩ (by simp) (by rfl)
      clear hΦ hd
      obtain ⟨c, A, ⟨e0, e1⟩, hcn, hch, s8, s12⟩ := hG
      have hck : c = 1 := by
        have h1 := hL.symm.trans e1
        have h2 := hlc.symm.trans e0
        simp at h1 h2; omega
      subst hck
      obtain ⟨g12, hg12, hb12, hB12, hn12⟩ := s12 hl12
      have hx : ∃ x, u = (upd (upd x 9 (.pointer (some ⟨w.heap.size, 0, none⟩))) 12 (.slice (some ⟨g12, 0, none⟩) 1 1)) := ⟨u, by rw [← upd_self hu9, ← upd_self hg12]⟩
      clear hu9 hg12
      obtain ⟨x, rfl⟩ := hx
      simp only [upd, reduceIte, Nat.reduceEqDiff]
      go_simp
      refine (wText w.heap.size A _ w3 _ 1 1 [ld] hch.wr (SlR.of_bk (n := 1) (size := 1) hb12 (AlS.not hch hB12 hn12) rfl) (by omega) (by have := N1.out; first | omega | (simp; omega))).mono ?_
      rintro e w4 ⟨rfl, hw4⟩
      obtain ⟨A', hch', hal⟩ := hch.call hw4
      exact hK _ _ v13.symm ⟨2, A', ⟨e0, rfl⟩, by omega, by rw [Q2.out]; exact hch', hal _ _ _ _ _ s8, hal _ _ _ _ _ s12⟩ (fun _ _ _ h => h)
    | 14, ho =>
      simp at ho; subst ho
      have hu13 : u 13 = V 13 := hΦ 13 (hd ⟨13, .data⟩ (by simp) (by rfl))
      rw [v13] at hu13
      have hlc : L 13 = true := hd ⟨13, .chain⟩ (by simp) (by rfl)
      clear hΦ hd
      obtain ⟨c, A, ⟨e0, e1⟩, hcn, hch, s8, s12⟩ := hG
      have hck : c = 2 := by
        have h2 := hlc.symm.trans e1
        simp at h2; omega
      subst hck
      have hx : ∃ x, u = (upd x 13 (.pointer (some ⟨w.heap.size, 0, none⟩))) := ⟨u, by rw [← upd_self hu13]⟩
      clear hu13
      obtain ⟨x, rfl⟩ := hx
      simp only [upd, reduceIte, Nat.reduceEqDiff]
      go_simp
      refine (wString w.heap.size _ _ _ hch.wr).mono ?_
      rintro e w4 ⟨rfl, rfl⟩
      exact hK _ _ v14.symm ⟨2, A, ⟨e0, e1⟩, hcn, hch, s8, s12⟩ (fun _ _ _ h => h)
    | 15, ho =>
      simp at ho; subst ho
      have hu14 : u 14 = V 14 := hΦ 14 (hd ⟨14, .data⟩ (by simp) (by rfl))
      rw [v14] at hu14
      clear hΦ hd
      have hx : ∃ x, u = (upd x 14 (.string (bs (lst 2)))) := ⟨u, by rw [← upd_self hu14]⟩
      clear hu14
      obtain ⟨x, rfl⟩ := hx
      simp only [upd, reduceIte, Nat.reduceEqDiff]
      go_simp
      exact hK _ _ v15.symm hG (fun _ _ _ h => h)
  · rintro u w3 hu L hall hG
    obtain ⟨c, A, ⟨e0, e1⟩, hcn, hch, s8, s12⟩ := hG
    have h15 : u 15 = V 15 := hu 15 (by simp)
    rw [v15] at h15
    clear hu
    rw [h15]
    have hby : lst 2 = udpWith fm tp ld sum := by rw [Q2.out, Q1.out, Q0.out]; exact udp_lst _ _ _ _
    rw [hby]
    have hfr := hf0.trans' hch.fr (fun b hb e => by unfold oneB at e; omega)
    generalize hR : udpWith fm tp ld sum = R at *
    have HR := Lib.hid hR
    clear hR
    go_wp2_with fail
    go_ret
    exact ⟨by rw [HR.out]; rfl, hfr⟩
theorem packetWriteUDP (fm tp fi ti : Nat) (ld : List UInt8) (w : World) (hfm : fm < 65536) (htp : tp < 65536) (hfi : fi < 4294967296) (hti : ti < 4294967296) (hld : ld.length ≤ 4611686018427387000) :
    Calls Tryz.prog 29 #[.agg #[.int .u16 (fm : Int), .int .u16 (tp : Int), .string (bs ld)], .int .u32 (fi : Int), .int .u32 (ti : Int)] w (strPost (wrUDP fm tp fi ti ld) w) := by
  have hpa := (Bk.new w 42 #[.int .u16 (fm : Int), .int .u16 (tp : Int), .string (bs ld)]).alloc (.cells #[.int .i64 (8 + (ld.length : Int))] 3)
  have hpn := Bk.new (w.alloc (.cells #[.int .u16 (fm : Int), .int .u16 (tp : Int), .string (bs ld)] 42)) 3 #[.int .i64 (8 + (ld.length : Int))]
  rw [show (w.alloc (.cells #[.int .u16 (fm : Int), .int .u16 (tp : Int), .string (bs ld)] 42)).heap.size = w.heap.size + 1 by simp] at hpn
  have hpa0 := (Bk.new w 42 #[.int .u16 (fm : Int), .int .u16 (tp : Int), .string (bs ld)]).cells
  have hpn0 := hpn.cells
  have hpa1 := hpa.cells
  have e8 : IntKind.i64.wrap (8 + (ld.length : Int)) = 8 + (ld.length : Int) := IntWalk.i64_in _ (by omega)
  have hmf : ∀ (fn : Fn) (first cap : Array Value) (w : World), (Instr.makeFunc fn first cap).run Tryz.prog w = .ok (.func fn first cap) w := fun _ _ _ _ => rfl
  have hf0 : Fr noB w ((w.alloc (.cells #[.int .u16 (fm : Int), .int .u16 (tp : Int), .string (bs ld)] 42)).alloc (.cells #[.int .i64 (8 + (ld.length : Int))] 3)) := ((Fr.refl _ _).alloc _).alloc _
  go_enter Tryz.func29, Tryz.ntmps29
  by_cases h1 : 1480 < 8 + ld.length
  · have hs : Hid (wrUDP fm tp fi ti ld = ([], 7)) := by unfold Hid wrUDP; rw [if_pos h1]
    have b1 : 1480 < 8 + (ld.length : Int) := by omega
    clear h1
    go_wp2_with fail
    go_ret2
    exact ⟨by rw [hs.out]; rfl, hf0⟩
  have b1 : ¬ 1480 < 8 + (ld.length : Int) := by omega
  have hs : Hid (wrUDP fm tp fi ti ld = (udpWith fm tp ld (udpSum fm tp fi ti ld), 0)) := by unfold Hid wrUDP; rw [if_neg h1]
  have hl2 : ld.length ≤ 1480 := by omega
  clear h1
  go_upto_region 4 with fail
  go_cut [9] from 11 to 17 (fun q wx => q = .func (.func 75) #[] #[.pointer (some ⟨w.heap.size, 0, none⟩), .pointer (some ⟨(w.heap.size + 1), 0, none⟩)] ∧ wx = (w.alloc (.cells #[.int .u16 (fm : Int), .int .u16 (tp : Int), .string (bs ld)] 42)).alloc (.cells #[.int .i64 (8 + (ld.length : Int))] 3))
  case first =>
    go_wp2_with fail
    go_meet
    case rel => exact ⟨rfl, rfl⟩
  case rest =>
  obtain ⟨rfl, rfl⟩ := hcut
  clear hpa0 hpn0 hpa1
  have Lld := Lib.hid hl2
  go_upto_region 5 with fail
  generalize (w.alloc (.cells #[.int .u16 (fm : Int), .int .u16 (tp : Int), .string (bs ld)] 42)).alloc (.cells #[.int .i64 (8 + (ld.length : Int))] 3) = w1 at *
  go_cut [10] from 11 to 25 (fun a wx => a = .int .u16 (udpSum0 fm tp fi ti ld : Int) ∧ Fr noB w wx ∧ Bk wx w.heap.size 42 #[.int .u16 (fm : Int), .int .u16 (tp : Int), .string (bs ld)] ∧ Bk wx (w.heap.size + 1) 3 #[.int .i64 (8 + (ld.length : Int))])
  case first =>
    obtain ⟨x1, Hx1⟩ : ∃ s : List UInt8, Hid (s = besideB fi ti (8 + ld.length)) := ⟨besideB fi ti (8 + ld.length), Lib.hid rfl⟩
    obtain ⟨x2, Hx2⟩ : ∃ s : List UInt8, Hid (s = udpWith fm tp ld 0) := ⟨udpWith fm tp ld 0, Lib.hid rfl⟩
    have Lx1 : Hid (x1.length ≤ 12) := by have lld := Lld.out; unfold Hid; rw [Hx1.out]; first | (rw [beside_length]; omega) | (rw [udpA_length]; omega) | (rw [udpWith_length]; omega) | (simp [big_length, macB, bigs_length] <;> omega)
    have Lx2 : Hid (x2.length ≤ 1488) := by have lld := Lld.out; have l_x1 := Lx1.out; unfold Hid; rw [Hx2.out]; first | (rw [beside_length]; omega) | (rw [udpA_length]; omega) | (rw [udpWith_length]; omega) | (simp [big_length, macB, bigs_length] <;> omega)
    obtain ⟨V, hV⟩ : ∃ V : Nat → Value, V = (fun j => match j with | 0 => .int .u32 (fi : Int) | 1 => .int .u32 (ti : Int) | 2 => .int .i64 (8 + (ld.length : Int)) | 3 => .string (bs x1) | 4 => .func (.func 75) #[] #[.pointer (some ⟨w.heap.size, 0, none⟩), .pointer (some ⟨(w.heap.size + 1), 0, none⟩)] | 5 => .string (bs x2) | 7 => .int .u16 (check (x1 ++ x2) : Int) | 8 => .int .u16 (check (x1 ++ x2) : Int) | _ => undef) := ⟨_, rfl⟩
    have v0 : V 0 = .int .u32 (fi : Int) := congrFun hV 0
    have v1 : V 1 = .int .u32 (ti : Int) := congrFun hV 1
    have v2 : V 2 = .int .i64 (8 + (ld.length : Int)) := congrFun hV 2
    have v3 : V 3 = .string (bs x1) := congrFun hV 3
    have v4 : V 4 = .func (.func 75) #[] #[.pointer (some ⟨w.heap.size, 0, none⟩), .pointer (some ⟨(w.heap.size + 1), 0, none⟩)] := congrFun hV 4
    have v5 : V 5 = .string (bs x2) := congrFun hV 5
    have v7 : V 7 = .int .u16 (check (x1 ++ x2) : Int) := congrFun hV 7
    have v8 : V 8 = .int .u16 (check (x1 ++ x2) : Int) := congrFun hV 8
    clear hV
    refine wp_region_ssau_plain (by kernel_rfl) (by kernel_rfl) (by kernel_rfl)
      (fun u => ⟨#[.agg #[.int .u16 (fm : Int), .int .u16 (tp : Int), .string (bs ld)], .int .u32 (fi : Int), .int .u32 (ti : Int), .pointer (some ⟨w.heap.size, 0, none⟩), undef, undef, .string ⟨#[]⟩, .int .i64 0, .pointer (some ⟨(w.heap.size + 1), 0, none⟩), .func (.func 75) #[] #[.pointer (some ⟨w.heap.size, 0, none⟩), .pointer (some ⟨(w.heap.size + 1), 0, none⟩)], u 8, u11, u12, u13, u14, u15, u16, u17, u 0, u 1, u 2, u 3, u 4, u 5, u 6, u 7, undef, undef, undef, undef, undef], []⟩)
      (fun j v w3 => if j = 6 then True else v = V j)
      (fun L u w3 => Fr noB w1 w3 ∧ AlS (L 6) (u 6) 2 9 #[.string (bs x1), .string (bs x2)] 0 none w3) (fun j => undef) ⟨(Fr.refl _ _), AlS.false⟩ ?_ ?_
    · rintro L u w3 i o hG hΦ ho hL hd K hK
      match i, ho with
      | 0, ho =>
        simp at ho; subst ho
        clear hΦ hd
        go_simp
        exact hK _ _ v0.symm hG (fun _ _ _ h => h)
      | 1, ho =>
        simp at ho; subst ho
        clear hΦ hd
        go_simp
        exact hK _ _ v1.symm hG (fun _ _ _ h => h)
      | 2, ho =>
        simp at ho; subst ho
        clear hΦ hd
        obtain ⟨hG0, s6⟩ := hG
        have hc0 := ((hpn).keep hG0 (fun x => x)).cells
        go_simp
        exact hK _ _ v2.symm ⟨hG0, s6⟩ (fun _ _ _ h => h)
      | 3, ho =>
        simp at ho; subst ho
        have hu0 : u 0 = V 0 := hΦ 0 (hd ⟨0, .data⟩ (by simp) (by rfl))
        rw [v0] at hu0
        have hu1 : u 1 = V 1 := hΦ 1 (hd ⟨1, .data⟩ (by simp) (by rfl))
        rw [v1] at hu1
        have hu2 : u 2 = V 2 := hΦ 2 (hd ⟨2, .data⟩ (by simp) (by rfl))
        rw [v2] at hu2
        clear hΦ hd
        obtain ⟨hG0, s6⟩ := hG
        have hx : ∃ x, u = (upd (upd (upd x 0 (.int .u32 (fi : Int))) 1 (.int .u32 (ti : Int))) 2 (.int .i64 (8 + (ld.length : Int)))) := ⟨u, by rw [← upd_self hu0, ← upd_self hu1, ← upd_self hu2]⟩
        clear hu0 hu1 hu2
        obtain ⟨x, rfl⟩ := hx
        simp only [upd, reduceIte, Nat.reduceEqDiff]
        go_simp
        refine (pseudoFn fi ti (8 + (ld.length : Int)) w3 hfi hti (by omega) (by omega)).mono ?_
        rintro e w4 ⟨rfl, hf4⟩
        rw [show (8 + (ld.length : Int)).toNat = 8 + ld.length by omega, ← Hx1.out]
        exact hK _ _ v3.symm ⟨(hG0.none hf4), AlS.quiet s6 hf4⟩ (fun _ _ _ h => h)
      | 4, ho =>
        simp at ho; subst ho
        clear hΦ hd
        go_simp
        exact hK _ _ v4.symm hG (fun _ _ _ h => h)
      | 5, ho =>
        simp at ho; subst ho
        have hu4 : u 4 = V 4 := hΦ 4 (hd ⟨4, .data⟩ (by simp) (by rfl))
        rw [v4] at hu4
        clear hΦ hd
        obtain ⟨hG0, s6⟩ := hG
        have hx : ∃ x, u = (upd x 4 (.func (.func 75) #[] #[.pointer (some ⟨w.heap.size, 0, none⟩), .pointer (some ⟨(w.heap.size + 1), 0, none⟩)])) := ⟨u, by rw [← upd_self hu4]⟩
        clear hu4
        obtain ⟨x, rfl⟩ := hx
        simp only [upd, reduceIte, Nat.reduceEqDiff]
        go_simp
        refine (udpWithFn fm tp ld 0 w.heap.size (w.heap.size + 1) w3 hfm htp (by omega) hl2 (hpa.keep hG0 (fun x => x)) (hpn.keep hG0 (fun x => x))).mono ?_
        rintro e w4 ⟨rfl, hf4⟩
        rw [← Hx2.out]
        exact hK _ _ v5.symm ⟨(hG0.none hf4), AlS.quiet s6 hf4⟩ (fun _ _ _ h => h)
      | 6, ho =>
        simp at ho; subst ho
        have hu3 : u 3 = V 3 := hΦ 3 (hd ⟨3, .data⟩ (by simp) (by rfl))
        rw [v3] at hu3
        have hu5 : u 5 = V 5 := hΦ 5 (hd ⟨5, .data⟩ (by simp) (by rfl))
        rw [v5] at hu5
        clear hΦ hd
        obtain ⟨hG0, s6⟩ := hG
        have hx : ∃ x, u = (upd (upd x 3 (.string (bs x1))) 5 (.string (bs x2))) := ⟨u, by rw [← upd_self hu3, ← upd_self hu5]⟩
        clear hu3 hu5
        obtain ⟨x, rfl⟩ := hx
        simp only [upd, reduceIte, Nat.reduceEqDiff]
        go_simp
        exact hK _ _ trivial ⟨(hG0.alloc _), AlS.new0 w3 2 9 #[.string (bs x1), .string (bs x2)]⟩ (fun _ _ _ h => h)
      | 7, ho =>
        simp at ho; subst ho
        have hl6 : L 6 = true := hd ⟨6, .data⟩ (by simp) (by rfl)
        clear hΦ hd
        obtain ⟨hG0, s6⟩ := hG
        obtain ⟨g6, hg6, hb6, -, -⟩ := s6 hl6
        have hx : ∃ x, u = (upd x 6 (.slice (some ⟨g6, 0, none⟩) 2 2)) := ⟨u, by rw [← upd_self hg6]⟩
        clear hg6
        obtain ⟨x, rfl⟩ := hx
        simp only [upd, reduceIte, Nat.reduceEqDiff]
        go_simp
        refine (hashCheck_two _ 2 x1 x2 w3 (SlR.of_bk (n := 2) (size := 1) hb6 (fun x => x) rfl) (by have := Lx1.out; omega) (by have := Lx2.out; omega)).mono ?_
        rintro e w4 ⟨rfl, rfl⟩
        exact hK _ _ v7.symm ⟨hG0, s6⟩ (fun _ _ _ h => h)
      | 8, ho =>
        simp at ho; subst ho
        have hu7 : u 7 = V 7 := hΦ 7 (hd ⟨7, .data⟩ (by simp) (by rfl))
        rw [v7] at hu7
        clear hΦ hd
        have hx : ∃ x, u = (upd x 7 (.int .u16 (check (x1 ++ x2) : Int))) := ⟨u, by rw [← upd_self hu7]⟩
        clear hu7
        obtain ⟨x, rfl⟩ := hx
        simp only [upd, reduceIte, Nat.reduceEqDiff]
        go_simp
        exact hK _ _ v8.symm hG (fun _ _ _ h => h)
    · rintro u w3 hu L hall hG
      obtain ⟨hG0, s6⟩ := hG
      have h8 : u 8 = V 8 := hu 8 (by simp)
      rw [v8] at h8
      clear hu hall
      rw [h8]
      have hA : check (x1 ++ x2) = udpSum0 fm tp fi ti ld := by rw [Hx1.out, Hx2.out]; exact udpSum0_eq _ _ _ _ _
      rw [hA]
      generalize udpSum0 fm tp fi ti ld = R at *
      go_wp2_with fail
      go_meet
      case rel => exact ⟨rfl, hf0.none hG0, hpa.keep hG0 (fun x => x), hpn.keep hG0 (fun x => x)⟩
  case rest =>
  obtain ⟨rfl, hf5, hpa5, hpn5⟩ := hcut
  clear hf0 hpa hpn w1
  have hu0 : Hid (udpSum fm tp fi ti ld = if udpSum0 fm tp fi ti ld = 0 then 65535 else udpSum0 fm tp fi ti ld) := rfl
  generalize udpSum0 fm tp fi ti ld = s0 at *
  obtain ⟨sm, Hsm⟩ : ∃ sm, Hid (sm = udpSum fm tp fi ti ld) := ⟨_, Lib.hid rfl⟩
  have Lsm : Hid (sm ≤ 65535) := by unfold Hid; rw [Hsm.out]; exact udpSum_le _ _ _ _ _
  go_upto_if 27 with fail
  go_cut [10] from 11 to 27 (fun a wx => a = .int .u16 (sm : Int) ∧ wx = wc)
  case first =>
    by_cases h0 : s0 = 0
    · have b0 : ((s0 : Int) == 0) = true := by simp; omega
      have hsm : Hid (sm = 65535) := by unfold Hid; rw [Hsm.out, hu0.out, if_pos h0]
      clear h0
      rw [b0]
      go_wp2_with fail
      go_meet
      case rel => exact ⟨by rw [hsm.out]; rfl, rfl⟩
    · have b0 : ((s0 : Int) == 0) = false := by simp; omega
      have hsm : Hid (sm = s0) := by unfold Hid; rw [Hsm.out, hu0.out, if_neg h0]
      clear h0
      rw [b0]
      go_wp2_with fail
      go_meet
      case rel => exact ⟨by rw [hsm.out], rfl⟩
  case rest =>
  obtain ⟨rfl, rfl⟩ := hcut
  obtain ⟨w1, rfl⟩ : ∃ w1, w1 = wc := ⟨_, rfl⟩
  have hf0 := hf5
  have hpa := hpa5
  have hpn := hpn5
  clear hf5 hpa5 hpn5
  go_upto_region 8 with fail
  obtain ⟨x3, Hx3⟩ : ∃ s : List UInt8, Hid (s = udpWith fm tp ld sm) := ⟨udpWith fm tp ld sm, Lib.hid rfl⟩
  have Lx3 : Hid (x3.length ≤ 1488) := by have lld := Lld.out; unfold Hid; rw [Hx3.out]; first | (rw [beside_length]; omega) | (rw [udpA_length]; omega) | (rw [udpWith_length]; omega) | (simp [big_length, macB, bigs_length] <;> omega)
  obtain ⟨V, hV⟩ : ∃ V : Nat → Value, V = (fun j => match j with | 0 => .func (.func 75) #[] #[.pointer (some ⟨w.heap.size, 0, none⟩), .pointer (some ⟨(w.heap.size + 1), 0, none⟩)] | 1 => .int .u16 (sm : Int) | 2 => .string (bs x3) | 3 => .string (bs x3) | 4 => .int .i64 0 | _ => undef) := ⟨_, rfl⟩
  have v0 : V 0 = .func (.func 75) #[] #[.pointer (some ⟨w.heap.size, 0, none⟩), .pointer (some ⟨(w.heap.size + 1), 0, none⟩)] := congrFun hV 0
  have v1 : V 1 = .int .u16 (sm : Int) := congrFun hV 1
  have v2 : V 2 = .string (bs x3) := congrFun hV 2
  have v3 : V 3 = .string (bs x3) := congrFun hV 3
  have v4 : V 4 = .int .i64 0 := congrFun hV 4
  clear hV
  refine wp_region_ssau_plain (by kernel_rfl) (by kernel_rfl) (by kernel_rfl)
    (fun u => ⟨#[.agg #[.int .u16 (fm : Int), .int .u16 (tp : Int), .string (bs ld)], .int .u32 (fi : Int), .int .u32 (ti : Int), .pointer (some ⟨w.heap.size, 0, none⟩), undef, undef, u 3, u 4, .pointer (some ⟨(w.heap.size + 1), 0, none⟩), .func (.func 75) #[] #[.pointer (some ⟨w.heap.size, 0, none⟩), .pointer (some ⟨(w.heap.size + 1), 0, none⟩)], .int .u16 (sm : Int), u11, u12, u13, u14, u15, u16, u17, u18, u19, u20, u21, u22, u23, u24, u25, u26, u27, u 0, u 1, u 2], []⟩)
    (fun j v w3 => v = V j)
    (fun L u w3 => Fr noB w1 w3) (fun j => if j = 3 then .string ⟨#[]⟩ else if j = 4 then .int .i64 0 else undef) ((Fr.refl _ _)) ?_ ?_
  · rintro L u w3 i o hG hΦ ho hL hd K hK
    match i, ho with
    | 0, ho =>
      simp at ho; subst ho
      clear hΦ hd
      go_simp
      exact hK _ _ v0.symm hG (fun _ _ _ h => h)
    | 1, ho =>
      simp at ho; subst ho
      clear hΦ hd
      go_simp
      exact hK _ _ v1.symm hG (fun _ _ _ h => h)
    | 2, ho =>
      simp at ho; subst ho
      have hu0 : u 0 = V 0 := hΦ 0 (hd ⟨0, .data⟩ (by simp) (by rfl))
      rw [v0] at hu0
      have hu1 : u 1 = V 1 := hΦ 1 (hd ⟨1, .data⟩ (by simp) (by rfl))
      rw [v1] at hu1
      clear hΦ hd
      have hG0 := hG
      have hx : ∃ x, u = (upd (upd x 0 (.func (.func 75) #[] #[.pointer (some ⟨w.heap.size, 0, none⟩), .pointer (some ⟨(w.heap.size + 1), 0, none⟩)])) 1 (.int .u16 (sm : Int))) := ⟨u, by rw [← upd_self hu0, ← upd_self hu1]⟩
      clear hu0 hu1
      obtain ⟨x, rfl⟩ := hx
      simp only [upd, reduceIte, Nat.reduceEqDiff]
      go_simp
      refine (udpWithFn fm tp ld sm w.heap.size (w.heap.size + 1) w3 hfm htp (by have := Lsm.out; omega) hl2 (hpa.keep hG0 (fun x => x)) (hpn.keep hG0 (fun x => x))).mono ?_
      rintro e w4 ⟨rfl, hf4⟩
      rw [← Hx3.out]
      exact hK _ _ v2.symm (hG0.none hf4) (fun _ _ _ h => h)
    | 3, ho =>
      simp at ho; subst ho
      have hu2 : u 2 = V 2 := hΦ 2 (hd ⟨2, .data⟩ (by simp) (by rfl))
      rw [v2] at hu2
      clear hΦ hd
      have hx : ∃ x, u = (upd x 2 (.string (bs x3))) := ⟨u, by rw [← upd_self hu2]⟩
      clear hu2
      obtain ⟨x, rfl⟩ := hx
      simp only [upd, reduceIte, Nat.reduceEqDiff]
      go_simp
      exact hK _ _ v3.symm hG (fun _ _ _ h => h)
    | 4, ho =>
      simp at ho; subst ho
      clear hΦ hd
      go_simp
      exact hK _ _ v4.symm hG (fun _ _ _ h => h)
  · rintro u w3 hu L hall hG
    have hG0 := hG
    have h3 : u 3 = V 3 := hu 3 (by simp)
    rw [v3] at h3
    have h4 : u 4 = V 4 := hu 4 (by simp)
    rw [v4] at h4
    clear hu hall
    rw [h3, h4]
    have hfr := hf0.none hG0
    have hA : x3 = udpWith fm tp ld (udpSum fm tp fi ti ld) := by rw [Hx3.out, Hsm.out]
    rw [hA]
    clear hA
    generalize udpWith fm tp ld (udpSum fm tp fi ti ld) = R at *
    go_wp2_with fail
    go_ret2
    exact ⟨by rw [hs.out]; rfl, hfr⟩
end Go.Proofs.YtcbkaiakdhiloabGreatDoor
namespace Go.Proofs.YtcbkaiakdhiloabGreatDoor
open Go.RowKit Go.Proofs
attribute [local go_sem] bs_size bs_append bs_extract
def chrOk (c : UInt8) : Bool := decide (33 ≤ c.toNat) && decide (c.toNat ≤ 126)
def wordB (l : List UInt8) : Bool := l.all chrOk && decide (0 < l.length)
theorem wordB_bad {l : List UInt8} {i : Nat} {c : UInt8} (h : l[i]? = some c) (hc : chrOk c = false) : wordB l = false := by
  unfold wordB
  have : l.all chrOk = false := by
    rw [List.all_eq_false]
    exact ⟨c, List.mem_of_getElem? h, by rw [hc]; decide⟩
  rw [this]; rfl
theorem take_all {l : List UInt8} {i : Nat} {c : UInt8} (h : l[i]? = some c) (ha : (l.take i).all chrOk = true) (hc : chrOk c = true) : (l.take (i + 1)).all chrOk = true := by
  rw [List.take_add_one, h]; simp [List.all_append, ha, hc]
theorem refWord (l : List UInt8) (w : World) (hl : l.length ≤ 4611686018427387904) :
    Calls Tryz.prog 144 #[.string (bs l)] w fun e w' => e = .returned (.bool (wordB l)) ∧ w' = w := by
  go_enter Tryz.func144, Tryz.ntmps144
  go_wp2_with fail
  go_loopw [3] (fun iv wr => ∃ (i : Nat), i ≤ l.length ∧ iv = .int .i64 (i : Int) ∧ (l.take i).all chrOk = true ∧ wr = w) (fun iv _ => l.length - (intOf iv).toNat)
  case atStart => exact ⟨0, by omega, rfl, rfl, rfl⟩
  case round =>
    obtain ⟨i, hi, rfl, ha, hw⟩ := hrel
    subst hw
    by_cases hlt : i < l.length
    · obtain ⟨c, hc⟩ : ∃ c, l[i]? = some c := ⟨_, List.getElem?_eq_getElem hlt⟩
      have hgi : ∀ h : i < (bs l).size, (bs l)[i]'h = c := fun h => by rw [bs_get l i h]; rw [List.getElem?_eq_getElem hlt] at hc; injection hc
      have hcl := c.toNat_lt
      have Hc := Lib.hid hc
      clear hc
      by_cases h1 : c.toNat < 33
      · have hbad : wordB l = false := wordB_bad Hc.out (by unfold chrOk; simp; omega)
        have Hbad := Lib.hid hbad
        clear hbad
        have h1i : (c.toNat : Int) < 33 := by omega
        go_wp2_with fail
        go_ret
        exact ⟨congrArg (fun b => Ending.returned (.bool b)) Hbad.out.symm, rfl⟩
      · have h1i : ¬ (c.toNat : Int) < 33 := by omega
        by_cases h2 : 126 < c.toNat
        · have hbad : wordB l = false := wordB_bad Hc.out (by unfold chrOk; simp; omega)
          have Hbad := Lib.hid hbad
          clear hbad
          have h2i : 126 < (c.toNat : Int) := by omega
          go_wp2_with fail
          go_ret
          exact ⟨congrArg (fun b => Ending.returned (.bool b)) Hbad.out.symm, rfl⟩
        · have h2i : ¬ 126 < (c.toNat : Int) := by omega
          have ha2 := take_all Hc.out ha (by unfold chrOk; simp; omega)
          have Ha2 := Lib.hid ha2
          clear ha2 ha
          go_wp2_with fail
          exact ⟨⟨i + 1, by omega, by rw [Int.natCast_add]; rfl, Ha2.out, trivial⟩, by simp only [intOf]; omega⟩
    · obtain rfl : i = l.length := by omega
      rw [List.take_length] at ha
      have hfin : wordB l = decide (0 < l.length) := by unfold wordB; rw [ha]; rfl
      have Hfin := Lib.hid hfin
      clear ha hfin
      go_wp2_with fail
      go_ret
      exact ⟨congrArg (fun b => Ending.returned (.bool b)) (by rw [Hfin.out]; try simp), rfl⟩
end Go.Proofs.YtcbkaiakdhiloabGreatDoor
namespace Go.Proofs.YtcbkaiakdhiloabGreatDoor
open Go.RowKit Go.Proofs
attribute [local go_sem] bs_size bs_append bs_extract
def lowC (c : UInt8) : UInt8 := if 65 ≤ c.toNat ∧ c.toNat ≤ 90 then c + 32 else c
def lowL (l : List UInt8) : List UInt8 := l.map lowC
end Go.Proofs.YtcbkaiakdhiloabGreatDoor
namespace Go.Proofs.YtcbkaiakdhiloabGreatDoor
structure FldD where
  name : List UInt8
  value : List UInt8
structure TftD where
  op : Nat
  block : Nat
  text : List UInt8
  data : List UInt8
  fs : List FldD
def named (fs : List FldD) (n : List UInt8) : Bool := fs.any fun f => f.name == n
end Go.Proofs.YtcbkaiakdhiloabGreatDoor
namespace Go.Proofs.YtcbkaiakdhiloabGreatDoor
def fldOk (b4 : List FldD) (o : FldD) : Bool := wordB o.name && wordB o.value && (o.name == lowL o.name) && !(named b4 o.name)
def fldW : List FldD → List FldD → Option (List UInt8)
  | _, [] => some []
  | b4, o :: r => if fldOk b4 o then (fldW (b4 ++ [o]) r).map fun t => o.name ++ 0 :: o.value ++ 0 :: t else none
def capT (l : List UInt8) : List UInt8 × Nat := if 1472 < l.length then ([], 7) else (l, 0)
def wrTFTP (d : TftD) : List UInt8 × Nat :=
  if d.op = 1 then if wordB d.text then (match fldW [] d.fs with
    | none => ([], 2)
    | some t => capT (big 2 d.op ++ d.text ++ [0, 111, 99, 116, 101, 116, 0] ++ t)) else ([], 2)
  else if d.op = 6 then (match fldW [] d.fs with
    | none => ([], 2)
    | some t => capT (big 2 d.op ++ t))
  else if d.op = 3 then if 1024 < d.data.length then ([], 7) else capT (big 2 d.op ++ big 2 d.block ++ d.data)
  else if d.op = 4 then capT (big 2 d.op ++ big 2 d.block)
  else if d.op = 5 then if d.text.contains 0 then ([], 2) else capT (big 2 d.op ++ big 2 d.block ++ d.text ++ [0])
  else ([], 2)
end Go.Proofs.YtcbkaiakdhiloabGreatDoor
namespace Go.Proofs.YtcbkaiakdhiloabGreatDoor
structure OptD where
  code : UInt8
  data : List UInt8
def chunkF : Nat → UInt8 → List UInt8 → List UInt8
  | 0, c, d => [c, UInt8.ofNat d.length] ++ d
  | n + 1, c, d => if d.length ≤ 255 then [c, UInt8.ofNat d.length] ++ d else [c, 255] ++ d.take 255 ++ chunkF n c (d.drop 255)
def chunk (c : UInt8) (d : List UInt8) : List UInt8 := chunkF d.length c d
theorem chunkF_eq : ∀ (n m : Nat) (c : UInt8) (d : List UInt8), d.length ≤ n → d.length ≤ m → chunkF n c d = chunkF m c d
  | 0, 0, _, _, _, _ => rfl
  | 0, m + 1, c, d, h, _ => by
    have : d = [] := List.eq_nil_of_length_eq_zero (by omega)
    subst this; simp [chunkF]
  | n + 1, 0, c, d, _, h => by
    have : d = [] := List.eq_nil_of_length_eq_zero (by omega)
    subst this; simp [chunkF]
  | n + 1, m + 1, c, d, h1, h2 => by
    simp only [chunkF]
    split
    · rfl
    · rename_i h
      rw [chunkF_eq n m c (d.drop 255) (by rw [List.length_drop]; omega) (by rw [List.length_drop]; omega)]
theorem chunk_small (c : UInt8) (d : List UInt8) (h : d.length ≤ 255) : chunk c d = [c, UInt8.ofNat d.length] ++ d := by
  unfold chunk
  cases hd : d.length with
  | zero => simp [chunkF, hd]
  | succ n => simp only [chunkF]; rw [if_pos h, hd]
theorem chunk_big (c : UInt8) (d : List UInt8) (h : 255 < d.length) : chunk c d = [c, 255] ++ d.take 255 ++ chunk c (d.drop 255) := by
  unfold chunk
  obtain ⟨n, hn⟩ : ∃ n, d.length = n + 1 := ⟨d.length - 1, by omega⟩
  rw [hn]
  simp only [chunkF]
  rw [if_neg (by omega), chunkF_eq n (d.drop 255).length c (d.drop 255) (by rw [List.length_drop]; omega) (Nat.le_refl _)]
def zeroTo (l : List UInt8) (n : Nat) : List UInt8 := l ++ List.replicate (n - l.length) 0
def optBad (o : OptD) : Bool := o.code == 0 || o.code == 255 || o.code == 52
def dhcHead (reply : Bool) (xid client yours next : Nat) (mac : List UInt8) : List UInt8 :=
  zeroTo ([if reply then 2 else 1, 1, 6, 0] ++ big 4 xid ++ [0, 0] ++ (if client = 0 then [128, 0] else [0, 0]) ++ big 4 client ++ big 4 yours ++ big 4 next ++ big 4 0 ++ mac) 236 ++ [99, 130, 83, 99]
def dhcBody (head : List UInt8) (os : List OptD) : List UInt8 := zeroTo (head ++ os.flatMap (fun o => chunk o.code o.data) ++ [255]) 300
def wrDHCP (reply : Bool) (xid client yours next : Nat) (mac : List UInt8) (os : List OptD) : List UInt8 × Nat :=
  if os.any optBad then ([], 2)
  else if 1472 < (dhcBody (dhcHead reply xid client yours next mac) os).length then ([], 7)
  else (dhcBody (dhcHead reply xid client yours next mac) os, 0)
theorem zeroTo_length (l : List UInt8) (n : Nat) : (zeroTo l n).length = max l.length n := by unfold zeroTo; simp; omega
theorem dhcHead_length (reply : Bool) (xid client yours next : Nat) (mac : List UInt8) (hm : mac.length = 6) : (dhcHead reply xid client yours next mac).length = 240 := by
  unfold dhcHead
  rw [List.length_append, zeroTo_length]
  by_cases hc : client = 0 <;> cases reply <;> simp [hc, big_length, hm]
/-! How one is read. -/
end Go.Proofs.YtcbkaiakdhiloabGreatDoor
namespace Go.Proofs.YtcbkaiakdhiloabGreatDoor
structure S8 where
  a : UInt32
  b : UInt32
  c : UInt32
  d : UInt32
  e : UInt32
  f : UInt32
  g : UInt32
  h : UInt32
def S8.list (v : S8) : List UInt32 := [v.a, v.b, v.c, v.d, v.e, v.f, v.g, v.h]
def kTab : List UInt32 := [
  0x428a2f98, 0x71374491, 0xb5c0fbcf, 0xe9b5dba5, 0x3956c25b, 0x59f111f1, 0x923f82a4, 0xab1c5ed5,
  0xd807aa98, 0x12835b01, 0x243185be, 0x550c7dc3, 0x72be5d74, 0x80deb1fe, 0x9bdc06a7, 0xc19bf174,
  0xe49b69c1, 0xefbe4786, 0x0fc19dc6, 0x240ca1cc, 0x2de92c6f, 0x4a7484aa, 0x5cb0a9dc, 0x76f988da,
  0x983e5152, 0xa831c66d, 0xb00327c8, 0xbf597fc7, 0xc6e00bf3, 0xd5a79147, 0x06ca6351, 0x14292967,
  0x27b70a85, 0x2e1b2138, 0x4d2c6dfc, 0x53380d13, 0x650a7354, 0x766a0abb, 0x81c2c92e, 0x92722c85,
  0xa2bfe8a1, 0xa81a664b, 0xc24b8b70, 0xc76c51a3, 0xd192e819, 0xd6990624, 0xf40e3585, 0x106aa070,
  0x19a4c116, 0x1e376c08, 0x2748774c, 0x34b0bcb5, 0x391c0cb3, 0x4ed8aa4a, 0x5b9cca4f, 0x682e6ff3,
  0x748f82ee, 0x78a5636f, 0x84c87814, 0x8cc70208, 0x90befffa, 0xa4506ceb, 0xbef9a3f7, 0xc67178f2]
def h0 : S8 := ⟨0x6a09e667, 0xbb67ae85, 0x3c6ef372, 0xa54ff53a, 0x510e527f, 0x9b05688c, 0x1f83d9ab, 0x5be0cd19⟩
end Go.Proofs.YtcbkaiakdhiloabGreatDoor
