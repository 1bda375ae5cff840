/- Parts of the walk; written by programs, merged. -/
import Derived.Test.YtcbkaiakdhiloabGreatDoorMaa
import Derived.Test.YtcbkaiakdhiloabGreatDoorMab
import Derived.Test.YtcbkaiakdhiloabGreatDoorProg
import Derived.WalkKit
import Derived.WalkLawsBesides
import Derived.WalkSpells
import Derived.Deep.AppendLies
import Derived.Deep.DrawnRows
import Derived.Maps.AppendAt
import Derived.StillTailTactics
import Derived.Lib.Hide
import Derived.Lib.AppendStr
import Derived.Lib.Strings
import Derived.Laws.MakeOwn
import Derived.Laws.OwnMore
import Derived.Laws.BitsAllLaws
import Derived.Deep.QuietTactic
import Derived.BigQuiet
import Derived.Orders
import Derived.Deep.MidRow
import Derived.Deep.DeepMust
import Derived.Deep.RegionHeld3
import Derived.Deep.RegionLaw
import Derived.Deep.LoopGhost
import Derived.Deep.Cut
import Derived.Deep.CutRange
set_option linter.unusedSimpArgs false
set_option linter.unusedVariables false
set_option maxRecDepth 20000
set_option maxHeartbeats 8000000
namespace Go.Proofs.YtcbkaiakdhiloabGreatDoor
open Go.RowKit Go.Proofs
def strs (l : List (List UInt8)) : List Value := l.map fun p => .string (bs p)
theorem strs_length (l : List (List UInt8)) : (strs l).length = l.length := by simp [strs]
theorem strs_get (l : List (List UInt8)) (k : Nat) (hk : k < l.length) : (strs l)[k]? = some (.string (bs l[k])) := by simp [strs, hk]
def CkRel (st : Bool × Nat) (o s : Value) : Prop := o = .bool st.1 ∧ s = .int .u32 (st.2 : Int)
theorem ret_u16 {a b : Int} (h : a = b) : Ending.returned (.int .u16 a) = .returned (.int .u16 b) := by rw [h]
theorem ck_tail (y : Nat) (hy : y < 200000) : (bits .and .u32 (y : Int) 65535 + (y : Int) / 65536) % 4294967296 = ((y % 65536 + y / 65536 : Nat) : Int) := by
  have h := u32_and_nat y 65535 (by omega) (by omega)
  rw [nat_mask16] at h
  rw [show (65535 : Int) = ((65535 : Nat) : Int) from rfl, h]; omega
theorem ck_false (s : Nat) (b : UInt8) (hs : s ≤ 65535) : CkRel (ckStep (false, s) b) (.bool true)
    (.int .u32 ((bits .and .u32 (((s : Int) + (b.toNat : Int) % 4294967296 * 256) % 4294967296) 65535 + ((s : Int) + (b.toNat : Int) % 4294967296 * 256) % 4294967296 / 65536) % 4294967296)) := by
  have hb := b.toNat_lt
  have e : ((s : Int) + (b.toNat : Int) % 4294967296 * 256) % 4294967296 = ((s + b.toNat * 256 : Nat) : Int) := by omega
  rw [e, ck_tail _ (by omega)]
  exact ⟨rfl, by simp [ckStep]⟩
theorem ck_true (s : Nat) (b : UInt8) (hs : s ≤ 65535) : CkRel (ckStep (true, s) b) (.bool false)
    (.int .u32 ((bits .and .u32 (((s : Int) + (b.toNat : Int)) % 4294967296) 65535 + ((s : Int) + (b.toNat : Int)) % 4294967296 / 65536) % 4294967296)) := by
  have hb := b.toNat_lt
  have e : ((s : Int) + (b.toNat : Int)) % 4294967296 = ((s + b.toNat : Nat) : Int) := by omega
  rw [e, ck_tail _ (by omega)]
  exact ⟨rfl, by simp [ckStep]⟩
theorem ck_end (l : List UInt8) : bits .xor .u16 IntKind.u16.max (IntKind.u16.wrap ((ck l).2 : Int)) = (check l : Int) := by
  have h := ck_le l
  rw [IntKind.wrap_u16, show IntKind.u16.max = ((65535 : Nat) : Int) from rfl, show ((ck l).2 : Int) % 65536 = (((ck l).2 : Nat) : Int) by omega, u16_xor_nat _ _ (by omega) (by omega), xor_max16 _ (by omega), ck_check]
theorem hashCheck_any (A : Option Addr) (n c : Nat) (ps : List (List UInt8)) (w : World) (S : Nat → Prop) (hr : SlR w S 1 A n (strs ps)) (hn : n ≤ 9223372036854775807) (hz : ∀ p ∈ ps, p.length ≤ 9223372036854775807) :
    Calls Tryz.prog 28 #[.slice A n c] w fun e w' => e = .returned (.int .u16 (check ps.flatten)) ∧ w = w' := by
  have hlen : ps.length = n := by have := hr.1; rw [strs_length] at this; omega
  go_enter Tryz.func28, Tryz.ntmps28
  go_wp2_with fail
  go_loop [3, 4, 11] (fun s o i => ∃ k : Nat, k ≤ n ∧ i = .int .i64 k ∧ CkRel (ck (ps.take k).flatten) o s) (fun _ _ i => n - (intOf i).toNat)
  case atStart => exact ⟨0, Nat.zero_le _, rfl, rfl, rfl⟩
  case round =>
    obtain ⟨k, hk, rfl, rfl, rfl⟩ := hrel
    by_cases hlt : k < n
    · obtain ⟨ad, u, rfl, hu, hc⟩ := hr.at_ hlt
      rw [strs_get ps k (by omega)] at hu
      have hp : ps[k].length ≤ 9223372036854775807 := hz _ (List.getElem_mem _)
      injection hu with hu
      subst hu
      have hp0 : ((ps.take k).flatten ++ ps[k].take 0) = (ps.take k).flatten := by simp
      generalize hpk : ps[k] = p at *
      have Hpk := Lib.hid hpk
      clear hpk
      generalize hpre : (ps.take k).flatten = pre at *
      have Hpre := Lib.hid hpre
      have Hp0 := Lib.hid hp0
      clear hpre hp0
      have hbz := bs_size p
      go_wp2_with fail
      go_loop [3, 4, 17] (fun s o i => ∃ j : Nat, j ≤ p.length ∧ i = .int .i64 j ∧ CkRel (ck (pre ++ p.take j)) o s) (fun _ _ i => p.length - (intOf i).toNat)
      case atStart => exact ⟨0, Nat.zero_le _, rfl, by rw [Hp0.out]; exact ⟨rfl, rfl⟩⟩
      case round =>
        obtain ⟨j, hj, rfl, rfl, rfl⟩ := hrel
        by_cases hlj : j < p.length
        · have hck := ck_le (pre ++ p.take j)
          have hsn : ck (pre ++ p.take (j + 1)) = ckStep (ck (pre ++ p.take j)) p[j] := by
            rw [List.take_succ_eq_append_getElem hlj, ← List.append_assoc, ck_snoc]
          have Hsn := Lib.hid hsn
          clear hsn
          generalize hst : ck (pre ++ p.take j) = st at *
          have Hst := Lib.hid hst
          clear hst
          obtain ⟨o, s⟩ := st
          cases o
          · go_wp2_with fail
            go_round
            case rel => exact ⟨j + 1, by omega, by go_num, by rw [Hsn.out, bs_get]; exact ck_false s _ hck⟩
            case measure => simp [intOf]; omega
          · go_wp2_with fail
            go_round
            case rel => exact ⟨j + 1, by omega, by go_num, by rw [Hsn.out, bs_get]; exact ck_true s _ hck⟩
            case measure => simp [intOf]; omega
        · go_wp2_with fail
          obtain rfl : j = p.length := by omega
          refine ⟨⟨k + 1, by omega, by go_num, ?_⟩, by simp [intOf]; omega⟩
          have e : (ps.take (k + 1)).flatten = pre ++ p.take p.length := by
            rw [List.take_succ_eq_append_getElem (by omega), List.flatten_append, Hpre.out, Hpk.out]; simp
          rw [e]; exact ⟨rfl, rfl⟩
    · go_wp2_with fail
      go_ret
      obtain rfl : k = n := by omega
      refine ⟨ret_u16 ?_, rfl⟩
      rw [ck_end, List.take_of_length_le (by omega)]
theorem ret_i64 {a b : Int} (h : a = b) : Ending.returned (.int .i64 a) = .returned (.int .i64 b) := by rw [h]
theorem bs_pad (l : List UInt8) (h : l.length % 2 = 1) : bs l ++ { data := #[0] } = bs (padded l) := by
  rw [show ({ data := #[0] } : ByteArray) = bs [0] from rfl, bs_append]; unfold padded; rw [if_pos h]
theorem words_le : ∀ (q : List UInt8), words q ≤ 65535 * q.length
  | [] => by simp [words]
  | [_] => by simp [words]
  | a :: b :: r => by
    have := words_le r
    have ha := a.toNat_lt
    have hb := b.toNat_lt
    simp [words]; omega
theorem words_take_le (q : List UInt8) (k : Nat) (hq : q.length ≤ 1000001) : words (q.take k) ≤ 65536000000 := by
  have h := words_le (q.take k)
  have h2 : (q.take k).length ≤ 1000001 := by rw [List.length_take]; omega
  omega
theorem padded_even (l : List UInt8) : (padded l).length % 2 = 0 := by unfold padded; split <;> (try simp) <;> omega
theorem padded_le (l : List UInt8) : (padded l).length ≤ l.length + 1 := by unfold padded; split <;> simp
theorem words_val (s : Nat) (a b : UInt8) (hs : s ≤ 65536000000) :
    Value.int .i64 (wrap64 ((s : Int) + wrap64 (wrap64 (256 * wrap64 (a.toNat : Int)) + wrap64 (b.toNat : Int)))) = .int .i64 ((s + a.toNat * 256 + b.toNat : Nat) : Int) := by
  have ha := a.toNat_lt
  have hb := b.toNat_lt
  rw [wr64 (n := (a.toNat : Int)) (by omega) (by omega), wr64 (n := (b.toNat : Int)) (by omega) (by omega), wr64 (n := 256 * (a.toNat : Int)) (by omega) (by omega),
    wr64 (n := 256 * (a.toNat : Int) + (b.toNat : Int)) (by omega) (by omega), wr64 (by omega) (by omega)]
  congr 1; omega
def Even (k : Nat) : Prop := k % 2 = 0
def SumIs (q : List UInt8) (k : Nat) (s i : Value) : Prop := k ≤ q.length ∧ Even k ∧ i = .int .i64 (k : Int) ∧ s = .int .i64 (words (q.take k) : Int)
theorem words_next (q : List UInt8) (k : Nat) (hk : Even k) (h : k + 1 < q.length) : words (q.take (k + 2)) = words (q.take k) + q[k].toNat * 256 + q[k + 1].toNat := by
  obtain ⟨j, rfl⟩ : ∃ j, k = 2 * j := ⟨k / 2, by unfold Even at hk; omega⟩
  exact words_take j q _ _ (List.getElem?_eq_getElem (by omega)) (List.getElem?_eq_getElem h)
def LeftIs (l : List UInt8) (s : Value) : Prop := ∃ a : Nat, a ≤ 65536000000 ∧ Kept a (wsum false l) ∧ s = .int .i64 (a : Int)
theorem refCheck_any (l : List UInt8) (w : World) (hl : l.length ≤ 1000000) :
    Calls Tryz.prog 228 #[.string (bs l)] w fun e w' => e = .returned (.int .i64 (check l)) ∧ Fr noB w w' := by
  go_enter Tryz.func228, Tryz.ntmps228
  have hz := bs_size l
  have hpw := words_padded l
  have hpe := padded_even l
  have hpl := padded_le l
  by_cases hodd : l.length % 2 = 1
  all_goals
    go_wp2_with fail
    first
      | rw [bs_pad l hodd]
      | (have epad : padded l = l := by unfold padded; rw [if_neg hodd]
         rw [show bs l = bs (padded l) by rw [epad]]
         clear epad)
    clear hz
    have hz := bs_size (padded l)
    generalize padded l = q at *
    have Hpw := Lib.hid hpw
    clear hpw hodd
    go_loopw [3, 4] (fun s i wr => ∃ k : Nat, SumIs q k s i ∧ Fr noB w wr) (fun _ i _ => q.length - (intOf i).toNat)
    case atStart => exact ⟨0, ⟨by omega, rfl, rfl, rfl⟩, Fr.refl _ _⟩
    case round =>
      obtain ⟨k, ⟨hk, hev, rfl, rfl⟩, hfr⟩ := hrel
      by_cases hlt : k < q.length
      · have hk1 : k + 1 < q.length := by unfold Even at hev; omega
        have hwn := Lib.hid (words_next q k hev hk1)
        have hq0 : (k : Int) < (q.length : Int) := by omega
        have hq1 : (k : Int) + 1 < (q.length : Int) := by omega
        have hq2 := words_take_le q k (by omega)
        have hq3 : IntKind.i64.wrap ((k : Int) + 1) = (k : Int) + 1 := IntWalk.i64_in _ (by omega)
        have hq4 : (0 : Int) ≤ (k : Int) + 1 := by omega
        have hq5 : ((k : Int) + 1).toNat = k + 1 := by omega
        generalize hwt : words (q.take k) = s at *
        have Hwt := Lib.hid hwt
        clear hwt
        go_wp2_with fail
        go_quiet (fail)
        go_wp2_with fail
        go_roundw
        case rel => exact ⟨k + 2, ⟨by omega, by unfold Even at *; omega, by go_num, by rw [hwn.out]; exact words_val s _ _ hq2⟩, hfr.drewN _⟩
        case measure => simp [intOf]; omega
      · go_wp2_with fail
        obtain rfl : k = q.length := by omega
        rw [List.take_length] at *
        have hw0 := words_take_le q q.length (by omega)
        rw [List.take_length] at hw0
        rw [Hpw.out] at *
        go_loop [3] (fun s => LeftIs l s) (fun s => (intOf s).toNat)
        case atStart => exact ⟨_, hw0, rfl, rfl⟩
        case round =>
          obtain ⟨a, ha, hka, rfl⟩ := hrel
          by_cases hgt : 65535 < a
          · go_wp2_with fail
            go_round
            case rel => exact ⟨a / 65536 + a % 65536, by omega, hka.step, by go_num⟩
            case measure => simp [intOf]; omega
          · go_wp2_with fail
            go_ret
            have hd := hka.done (by omega)
            have hnl := norm_le (wsum false l)
            exact ⟨ret_i64 (by unfold check; omega), hfr⟩
end Go.Proofs.YtcbkaiakdhiloabGreatDoor
namespace Go.Proofs.YtcbkaiakdhiloabGreatDoor
open Go.RowKit Go.Proofs
attribute [local go_sem] bs_size bs_append bs_sub bs_toList
def ipHd1 (id : Nat) (ttl pr : UInt8) (n : Nat) : List UInt8 := [69, 0] ++ big 2 (20 + n) ++ big 2 id ++ [64, 0] ++ [ttl, pr]
def ipHd2 (fi ti : Nat) : List UInt8 := big 4 fi ++ big 4 ti
def ipHead (id : Nat) (ttl pr : UInt8) (fi ti n sum : Nat) : List UInt8 := ipHd1 id ttl pr n ++ big 2 sum ++ ipHd2 fi ti
def ipBytes (id : Nat) (ttl pr : UInt8) (fi ti : Nat) (ld : List UInt8) : List UInt8 := ipHead id ttl pr fi ti ld.length (check (ipHead id ttl pr fi ti ld.length 0)) ++ ld
def wrIP (id : Nat) (ttl pr : UInt8) (fi ti : Nat) (ld : List UInt8) : List UInt8 × Nat := if ttl.toNat = 0 then ([], 2) else if 1480 < ld.length then ([], 7) else (ipBytes id ttl pr fi ti ld, 0)
theorem ipHead_length (id : Nat) (ttl pr : UInt8) (fi ti n sum : Nat) : (ipHead id ttl pr fi ti n sum).length = 20 := by simp [ipHead, ipHd1, ipHd2, big_length]
theorem ip_lst (id : Nat) (ttl pr : UInt8) (fi ti n sum : Nat) : ([] ++ [69, 0] ++ bigs 2 [20 + (n : Int), (id : Int), 16384] ++ [ttl, pr] ++ bigs 2 [(sum : Int)] ++ bigs 4 [(fi : Int), (ti : Int)]) = ipHead id ttl pr fi ti n sum := by
  have e : bigs 2 [20 + (n : Int), (id : Int), 16384] = big 2 (20 + n) ++ big 2 id ++ [64, 0] := by
    have e1 : (20 + (n : Int)).toNat = 20 + n := by omega
    have e2 : big 2 (Int.toNat 16384) = [64, 0] := by decide
    simp only [bigs, List.flatMap_cons, List.flatMap_nil, List.append_nil, e1, e2, Int.toNat_natCast, List.append_assoc]
  rw [e]
  simp [ipHead, ipHd1, ipHd2, bigs]
theorem ipHeadFn (id fi ti : Nat) (ttl pr : UInt8) (ld : List UInt8) (sum q : Nat) (w : World) (hid : id < 65536) (hfi : fi < 4294967296) (hti : ti < 4294967296) (hsum : sum < 65536) (hld : ld.length ≤ 1480) (hq : Bk w q 36 #[.int .u16 (id : Int), .int .u8 (ttl.toNat : Int), .int .u8 (pr.toNat : Int), .int .u32 (fi : Int), .int .u32 (ti : Int), .string (bs ld)]) :
    Calls Tryz.prog 67 #[.int .u16 (sum : Int), .pointer (some ⟨q, 0, none⟩)] w (fun e w' => e = .returned (.string (bs (ipHead id ttl pr fi ti ld.length sum))) ∧ Fr noB w w') := by
  have hql := hq.lt
  have hpa := hq.alloc (.cells #[.slice none 0 0] 125)
  have hbw := Bk.new w 125 #[.slice none 0 0]
  have hf0 : Fr noB w (w.alloc (.cells #[.slice none 0 0] 125)) := (Fr.refl _ _).alloc _
  have hsz : (w.alloc (.cells #[.slice none 0 0] 125)).heap.size = w.heap.size + 1 := by simp
  go_enter Tryz.func67, Tryz.ntmps67
  go_upto_region 2 with fail
  generalize w.alloc (.cells #[.slice none 0 0] 125) = w1 at *
  have hwr0 := Wr.zero hbw
  obtain ⟨lst, Q0, Q1, Q2, Q3, Q4, Q5⟩ : ∃ lst : Nat → List UInt8, Hid (lst 0 = ([] : List UInt8)) ∧ Hid (lst 1 = lst 0 ++ [69, 0]) ∧ Hid (lst 2 = lst 1 ++ bigs 2 [(20 + (ld.length : Int)), (id : Int), 16384]) ∧ Hid (lst 3 = lst 2 ++ [ttl, pr]) ∧ Hid (lst 4 = lst 3 ++ bigs 2 [(sum : Int)]) ∧ Hid (lst 5 = lst 4 ++ bigs 4 [(fi : Int), (ti : Int)]) := by
    exact ⟨fun k => match k with | 0 => ([] : List UInt8) | 1 => (([] : List UInt8) ++ [69, 0]) | 2 => ((([] : List UInt8) ++ [69, 0]) ++ bigs 2 [(20 + (ld.length : Int)), (id : Int), 16384]) | 3 => (((([] : List UInt8) ++ [69, 0]) ++ bigs 2 [(20 + (ld.length : Int)), (id : Int), 16384]) ++ [ttl, pr]) | 4 => ((((([] : List UInt8) ++ [69, 0]) ++ bigs 2 [(20 + (ld.length : Int)), (id : Int), 16384]) ++ [ttl, pr]) ++ bigs 2 [(sum : Int)]) | _ => (((((([] : List UInt8) ++ [69, 0]) ++ bigs 2 [(20 + (ld.length : Int)), (id : Int), 16384]) ++ [ttl, pr]) ++ bigs 2 [(sum : Int)]) ++ bigs 4 [(fi : Int), (ti : Int)]), rfl, rfl, rfl, rfl, rfl, rfl⟩
  have N0 : Hid ((lst 0).length ≤ 0) := by unfold Hid; rw [Q0.out]; simp
  have N1 : Hid ((lst 1).length ≤ 0 + (2)) := by have h0 := N0.out; have h1 : (([69, 0] : List UInt8)).length ≤ 2 := (by simp [bigs_length, macB, big_length] <;> omega); unfold Hid; rw [Q1.out, List.length_append]; omega
  have N2 : Hid ((lst 2).length ≤ 0 + (2) + (6)) := by have h0 := N1.out; have h1 : ((bigs 2 [(20 + (ld.length : Int)), (id : Int), 16384] : List UInt8)).length ≤ 6 := (by simp [bigs_length, macB, big_length] <;> omega); unfold Hid; rw [Q2.out, List.length_append]; omega
  have N3 : Hid ((lst 3).length ≤ 0 + (2) + (6) + (2)) := by have h0 := N2.out; have h1 : (([ttl, pr] : List UInt8)).length ≤ 2 := (by simp [bigs_length, macB, big_length] <;> omega); unfold Hid; rw [Q3.out, List.length_append]; omega
  have N4 : Hid ((lst 4).length ≤ 0 + (2) + (6) + (2) + (2)) := by have h0 := N3.out; have h1 : ((bigs 2 [(sum : Int)] : List UInt8)).length ≤ 2 := (by simp [bigs_length, macB, big_length] <;> omega); unfold Hid; rw [Q4.out, List.length_append]; omega
  have N5 : Hid ((lst 5).length ≤ 0 + (2) + (6) + (2) + (2) + (8)) := by have h0 := N4.out; have h1 : ((bigs 4 [(fi : Int), (ti : Int)] : List UInt8)).length ≤ 8 := (by simp [bigs_length, macB, big_length] <;> omega); unfold Hid; rw [Q5.out, List.length_append]; omega
  obtain ⟨V, hV⟩ : ∃ V : Nat → Value, V = (fun j => match j with | 0 => .pointer (some ⟨w.heap.size, 0, none⟩) | 2 => .pointer (some ⟨w.heap.size, 0, none⟩) | 3 => .pointer (some ⟨q, 5, none⟩) | 4 => .string (bs ld) | 5 => .int .i64 (ld.length : Int) | 6 => .int .i64 (20 + (ld.length : Int)) | 7 => .int .u16 (20 + (ld.length : Int)) | 8 => .pointer (some ⟨q, 0, none⟩) | 9 => .int .u16 (id : Int) | 11 => .pointer (some ⟨w.heap.size, 0, none⟩) | 12 => .pointer (some ⟨q, 1, none⟩) | 13 => .int .u8 (ttl.toNat : Int) | 14 => .pointer (some ⟨q, 2, none⟩) | 15 => .int .u8 (pr.toNat : Int) | 17 => .pointer (some ⟨w.heap.size, 0, none⟩) | 18 => .int .u16 (sum : Int) | 20 => .pointer (some ⟨w.heap.size, 0, none⟩) | 21 => .pointer (some ⟨q, 3, none⟩) | 22 => .int .u32 (fi : Int) | 23 => .pointer (some ⟨q, 4, none⟩) | 24 => .int .u32 (ti : Int) | 26 => .pointer (some ⟨w.heap.size, 0, none⟩) | 27 => .string (bs (lst 5)) | 28 => .string (bs (lst 5)) | _ => undef) := ⟨_, rfl⟩
  have v0 : V 0 = .pointer (some ⟨w.heap.size, 0, none⟩) := congrFun hV 0
  have v2 : V 2 = .pointer (some ⟨w.heap.size, 0, none⟩) := congrFun hV 2
  have v3 : V 3 = .pointer (some ⟨q, 5, none⟩) := congrFun hV 3
  have v4 : V 4 = .string (bs ld) := congrFun hV 4
  have v5 : V 5 = .int .i64 (ld.length : Int) := congrFun hV 5
  have v6 : V 6 = .int .i64 (20 + (ld.length : Int)) := congrFun hV 6
  have v7 : V 7 = .int .u16 (20 + (ld.length : Int)) := congrFun hV 7
  have v8 : V 8 = .pointer (some ⟨q, 0, none⟩) := congrFun hV 8
  have v9 : V 9 = .int .u16 (id : Int) := congrFun hV 9
  have v11 : V 11 = .pointer (some ⟨w.heap.size, 0, none⟩) := congrFun hV 11
  have v12 : V 12 = .pointer (some ⟨q, 1, none⟩) := congrFun hV 12
  have v13 : V 13 = .int .u8 (ttl.toNat : Int) := congrFun hV 13
  have v14 : V 14 = .pointer (some ⟨q, 2, none⟩) := congrFun hV 14
  have v15 : V 15 = .int .u8 (pr.toNat : Int) := congrFun hV 15
  have v17 : V 17 = .pointer (some ⟨w.heap.size, 0, none⟩) := congrFun hV 17
  have v18 : V 18 = .int .u16 (sum : Int) := congrFun hV 18
  have v20 : V 20 = .pointer (some ⟨w.heap.size, 0, none⟩) := congrFun hV 20
  have v21 : V 21 = .pointer (some ⟨q, 3, none⟩) := congrFun hV 21
  have v22 : V 22 = .int .u32 (fi : Int) := congrFun hV 22
  have v23 : V 23 = .pointer (some ⟨q, 4, none⟩) := congrFun hV 23
  have v24 : V 24 = .int .u32 (ti : Int) := congrFun hV 24
  have v26 : V 26 = .pointer (some ⟨w.heap.size, 0, none⟩) := congrFun hV 26
  have v27 : V 27 = .string (bs (lst 5)) := congrFun hV 27
  have v28 : V 28 = .string (bs (lst 5)) := congrFun hV 28
  clear hV
  refine wp_region_ssau (by kernel_rfl) (by kernel_rfl) (by kernel_rfl)
    (fun u => ⟨#[.int .u16 (sum : Int), .pointer (some ⟨q, 0, none⟩), undef, u 28, .pointer (some ⟨w.heap.size, 0, none⟩), .agg #[.slice none 0 0], .pointer (some ⟨w.heap.size, 0, none⟩), u 0, u 1, u 2, u 3, u 4, u 5, u 6, u 7, u 8, u 9, u 10, u 11, u 12, u 13, u 14, u 15, u 16, u 17, u 18, u 19, u 20, u 21, u 22, u 23, u 24, u 25, u 26, u 27], []⟩)
    (fun j v w3 => if j = 1 then True else if j = 10 then True else if j = 16 then True else if j = 19 then True else if j = 25 then True else v = V j)
    (fun L u w3 => ∃ (c : Nat) (A : Option Addr), (L 2 = decide (0 < c) ∧ L 11 = decide (1 < c) ∧ L 17 = decide (2 < c) ∧ L 20 = decide (3 < c) ∧ L 26 = decide (4 < c)) ∧ c ≤ 5 ∧ Chn w1 w.heap.size w1.heap.size A (lst c) w3 ∧ AlS (L 1) (u 1) 2 5 #[.int .u8 69, .int .u8 0] w1.heap.size A w3 ∧ AlS (L 10) (u 10) 3 24 #[.int .u16 (20 + (ld.length : Int)), .int .u16 (id : Int), .int .u16 16384] w1.heap.size A w3 ∧ AlS (L 16) (u 16) 2 5 #[.int .u8 (ttl.toNat : Int), .int .u8 (pr.toNat : Int)] w1.heap.size A w3 ∧ AlS (L 19) (u 19) 1 24 #[.int .u16 (sum : Int)] w1.heap.size A w3 ∧ AlS (L 25) (u 25) 2 34 #[.int .u32 (fi : Int), .int .u32 (ti : Int)] w1.heap.size A w3) (fun j => if j = 28 then .string ⟨#[]⟩ else undef) ⟨0, none, ⟨rfl, rfl, rfl, rfl, rfl⟩, by omega, by rw [Q0.out]; exact Chn.start hwr0 rfl, AlS.false, AlS.false, AlS.false, AlS.false, AlS.false⟩ ?_ ?_
  · rintro L u w3 i o hG hΦ ho hL hd K hK
    match i, ho with
    | 0, ho =>
      simp at ho; subst ho
      clear hΦ hd
      go_simp
      exact hK _ _ v0.symm hG (fun _ _ _ h => h)
    | 1, ho =>
      simp at ho; subst ho
      clear hΦ hd
      obtain ⟨c, A, ⟨e0, e1, e2, e3, e4⟩, hcn, hch, s1, s10, s16, s19, s25⟩ := hG
      go_simp
      exact hK _ _ trivial ⟨c, A, ⟨e0, e1, e2, e3, e4⟩, hcn, hch.alloc _, AlS.new hch 2 5 #[.int .u8 69, .int .u8 0], AlS.alloc s10 _, AlS.alloc s16 _, AlS.alloc s19 _, AlS.alloc s25 _⟩ (fun _ _ _ h => h)
    | 2, ho =>
      simp at ho; subst ho
      have hu0 : u 0 = V 0 := hΦ 0 (hd ⟨0, .data⟩ (by simp) (by rfl))
      rw [v0] at hu0
      have hl1 : L 1 = true := hd ⟨1, .data⟩ (by simp) (by rfl)
      clear hΦ hd
      obtain ⟨c, A, ⟨e0, e1, e2, e3, e4⟩, hcn, hch, s1, s10, s16, s19, s25⟩ := hG
      have hck : c = 0 := by
        have h1 := hL.symm.trans e0
        simp at h1; omega
      subst hck
      obtain ⟨g1, hg1, hb1, hB1, hn1⟩ := s1 hl1
      have hx : ∃ x, u = (upd (upd x 0 (.pointer (some ⟨w.heap.size, 0, none⟩))) 1 (.slice (some ⟨g1, 0, none⟩) 2 2)) := ⟨u, by rw [← upd_self hu0, ← upd_self hg1]⟩
      clear hu0 hg1
      obtain ⟨x, rfl⟩ := hx
      simp only [upd, reduceIte, Nat.reduceEqDiff]
      go_simp
      refine (wU8 w.heap.size A _ w3 _ 2 2 [69, 0] (wrS w.heap.size A) hch.wr (SlR.of_bk (n := 2) (size := 1) hb1 (AlS.not hch hB1 hn1) rfl) (by have := N0.out; first | omega | (simp; omega))).mono ?_
      rintro e w4 ⟨rfl, hw4⟩
      obtain ⟨A', hch', hal⟩ := hch.call hw4
      exact hK _ _ v2.symm ⟨1, A', ⟨rfl, e1, e2, e3, e4⟩, by omega, by rw [Q1.out]; exact hch', hal _ _ _ _ _ s1, hal _ _ _ _ _ s10, hal _ _ _ _ _ s16, hal _ _ _ _ _ s19, hal _ _ _ _ _ s25⟩ (fun _ _ _ h => h)
    | 3, ho =>
      simp at ho; subst ho
      clear hΦ hd
      go_simp
      exact hK _ _ v3.symm hG (fun _ _ _ h => h)
    | 4, ho =>
      simp at ho; subst ho
      have hu3 : u 3 = V 3 := hΦ 3 (hd ⟨3, .data⟩ (by simp) (by rfl))
      rw [v3] at hu3
      clear hΦ hd
      obtain ⟨c, A, ⟨e0, e1, e2, e3, e4⟩, hcn, hch, s1, s10, s16, s19, s25⟩ := hG
      have hx : ∃ x, u = (upd x 3 (.pointer (some ⟨q, 5, none⟩))) := ⟨u, by rw [← upd_self hu3]⟩
      clear hu3
      obtain ⟨x, rfl⟩ := hx
      simp only [upd, reduceIte, Nat.reduceEqDiff]
      have hc0 := ((hpa).keep hch.fr (by unfold oneB; omega)).cells
      go_simp
      exact hK _ _ v4.symm ⟨c, A, ⟨e0, e1, e2, e3, e4⟩, hcn, hch, s1, s10, s16, s19, s25⟩ (fun _ _ _ h => h)
    | 5, ho =>
      simp at ho; subst ho
      have hu4 : u 4 = V 4 := hΦ 4 (hd ⟨4, .data⟩ (by simp) (by rfl))
      rw [v4] at hu4
      clear hΦ hd
      have hx : ∃ x, u = (upd x 4 (.string (bs ld))) := ⟨u, by rw [← upd_self hu4]⟩
      clear hu4
      obtain ⟨x, rfl⟩ := hx
      simp only [upd, reduceIte, Nat.reduceEqDiff]
      go_simp
      exact hK _ _ v5.symm hG (fun _ _ _ h => h)
    | 6, ho =>
      simp at ho; subst ho
      have hu5 : u 5 = V 5 := hΦ 5 (hd ⟨5, .data⟩ (by simp) (by rfl))
      rw [v5] at hu5
      clear hΦ hd
      have hx : ∃ x, u = (upd x 5 (.int .i64 (ld.length : Int))) := ⟨u, by rw [← upd_self hu5]⟩
      clear hu5
      obtain ⟨x, rfl⟩ := hx
      simp only [upd, reduceIte, Nat.reduceEqDiff]
      have e6 : IntKind.i64.wrap (20 + (ld.length : Int)) = 20 + ld.length := IntWalk.i64_in _ (by omega)
      go_simp
      exact hK _ _ v6.symm hG (fun _ _ _ h => h)
    | 7, ho =>
      simp at ho; subst ho
      have hu6 : u 6 = V 6 := hΦ 6 (hd ⟨6, .data⟩ (by simp) (by rfl))
      rw [v6] at hu6
      clear hΦ hd
      have hx : ∃ x, u = (upd x 6 (.int .i64 (20 + (ld.length : Int)))) := ⟨u, by rw [← upd_self hu6]⟩
      clear hu6
      obtain ⟨x, rfl⟩ := hx
      simp only [upd, reduceIte, Nat.reduceEqDiff]
      have e7 : IntKind.u16.wrap (20 + (ld.length : Int)) = 20 + ld.length := by rw [IntKind.wrap_u16]; omega
      have e7' : (20 + (ld.length : Int)) % 65536 = 20 + ld.length := by omega
      go_simp
      exact hK _ _ v7.symm hG (fun _ _ _ h => h)
    | 8, ho =>
      simp at ho; subst ho
      clear hΦ hd
      go_simp
      exact hK _ _ v8.symm hG (fun _ _ _ h => h)
    | 9, ho =>
      simp at ho; subst ho
      have hu8 : u 8 = V 8 := hΦ 8 (hd ⟨8, .data⟩ (by simp) (by rfl))
      rw [v8] at hu8
      clear hΦ hd
      obtain ⟨c, A, ⟨e0, e1, e2, e3, e4⟩, hcn, hch, s1, s10, s16, s19, s25⟩ := hG
      have hx : ∃ x, u = (upd x 8 (.pointer (some ⟨q, 0, none⟩))) := ⟨u, by rw [← upd_self hu8]⟩
      clear hu8
      obtain ⟨x, rfl⟩ := hx
      simp only [upd, reduceIte, Nat.reduceEqDiff]
      have hc0 := ((hpa).keep hch.fr (by unfold oneB; omega)).cells
      go_simp
      exact hK _ _ v9.symm ⟨c, A, ⟨e0, e1, e2, e3, e4⟩, hcn, hch, s1, s10, s16, s19, s25⟩ (fun _ _ _ h => h)
    | 10, ho =>
      simp at ho; subst ho
      have hu7 : u 7 = V 7 := hΦ 7 (hd ⟨7, .data⟩ (by simp) (by rfl))
      rw [v7] at hu7
      have hu9 : u 9 = V 9 := hΦ 9 (hd ⟨9, .data⟩ (by simp) (by rfl))
      rw [v9] at hu9
      clear hΦ hd
      obtain ⟨c, A, ⟨e0, e1, e2, e3, e4⟩, hcn, hch, s1, s10, s16, s19, s25⟩ := hG
      have hx : ∃ x, u = (upd (upd x 7 (.int .u16 (20 + (ld.length : Int)))) 9 (.int .u16 (id : Int))) := ⟨u, by rw [← upd_self hu7, ← upd_self hu9]⟩
      clear hu7 hu9
      obtain ⟨x, rfl⟩ := hx
      simp only [upd, reduceIte, Nat.reduceEqDiff]
      go_simp
      exact hK _ _ trivial ⟨c, A, ⟨e0, e1, e2, e3, e4⟩, hcn, hch.alloc _, AlS.alloc s1 _, AlS.new hch 3 24 #[.int .u16 (20 + (ld.length : Int)), .int .u16 (id : Int), .int .u16 16384], AlS.alloc s16 _, AlS.alloc s19 _, AlS.alloc s25 _⟩ (fun _ _ _ h => h)
    | 11, ho =>
      simp at ho; subst ho
      have hu2 : u 2 = V 2 := hΦ 2 (hd ⟨2, .data⟩ (by simp) (by rfl))
      rw [v2] at hu2
      have hl10 : L 10 = true := hd ⟨10, .data⟩ (by simp) (by rfl)
      have hlc : L 2 = true := hd ⟨2, .chain⟩ (by simp) (by rfl)
      clear hΦ hd
      obtain ⟨c, A, ⟨e0, e1, e2, e3, e4⟩, hcn, hch, s1, s10, s16, s19, s25⟩ := hG
      have hck : c = 1 := by
        have h1 := hL.symm.trans e1
        have h2 := hlc.symm.trans e0
        simp at h1 h2; omega
      subst hck
      obtain ⟨g10, hg10, hb10, hB10, hn10⟩ := s10 hl10
      have hx : ∃ x, u = (upd (upd x 2 (.pointer (some ⟨w.heap.size, 0, none⟩))) 10 (.slice (some ⟨g10, 0, none⟩) 3 3)) := ⟨u, by rw [← upd_self hu2, ← upd_self hg10]⟩
      clear hu2 hg10
      obtain ⟨x, rfl⟩ := hx
      simp only [upd, reduceIte, Nat.reduceEqDiff]
      go_simp
      refine (wU16 w.heap.size A _ w3 _ 3 3 [(20 + (ld.length : Int)), (id : Int), 16384] hch.wr (SlR.of_bk (n := 3) (size := 1) hb10 (AlS.not hch hB10 hn10) rfl) (by intro x hx; simp at hx; omega) (by omega) (by have := N1.out; first | omega | (simp; omega))).mono ?_
      rintro e w4 ⟨rfl, hw4⟩
      obtain ⟨A', hch', hal⟩ := hch.call hw4
      exact hK _ _ v11.symm ⟨2, A', ⟨e0, rfl, e2, e3, e4⟩, by omega, by rw [Q2.out]; exact hch', hal _ _ _ _ _ s1, hal _ _ _ _ _ s10, hal _ _ _ _ _ s16, hal _ _ _ _ _ s19, hal _ _ _ _ _ s25⟩ (fun _ _ _ h => h)
    | 12, ho =>
      simp at ho; subst ho
      clear hΦ hd
      go_simp
      exact hK _ _ v12.symm hG (fun _ _ _ h => h)
    | 13, ho =>
      simp at ho; subst ho
      have hu12 : u 12 = V 12 := hΦ 12 (hd ⟨12, .data⟩ (by simp) (by rfl))
      rw [v12] at hu12
      clear hΦ hd
      obtain ⟨c, A, ⟨e0, e1, e2, e3, e4⟩, hcn, hch, s1, s10, s16, s19, s25⟩ := hG
      have hx : ∃ x, u = (upd x 12 (.pointer (some ⟨q, 1, none⟩))) := ⟨u, by rw [← upd_self hu12]⟩
      clear hu12
      obtain ⟨x, rfl⟩ := hx
      simp only [upd, reduceIte, Nat.reduceEqDiff]
      have hc0 := ((hpa).keep hch.fr (by unfold oneB; omega)).cells
      go_simp
      exact hK _ _ v13.symm ⟨c, A, ⟨e0, e1, e2, e3, e4⟩, hcn, hch, s1, s10, s16, s19, s25⟩ (fun _ _ _ h => h)
    | 14, ho =>
      simp at ho; subst ho
      clear hΦ hd
      go_simp
      exact hK _ _ v14.symm hG (fun _ _ _ h => h)
    | 15, ho =>
      simp at ho; subst ho
      have hu14 : u 14 = V 14 := hΦ 14 (hd ⟨14, .data⟩ (by simp) (by rfl))
      rw [v14] at hu14
      clear hΦ hd
      obtain ⟨c, A, ⟨e0, e1, e2, e3, e4⟩, hcn, hch, s1, s10, s16, s19, s25⟩ := hG
      have hx : ∃ x, u = (upd x 14 (.pointer (some ⟨q, 2, none⟩))) := ⟨u, by rw [← upd_self hu14]⟩
      clear hu14
      obtain ⟨x, rfl⟩ := hx
      simp only [upd, reduceIte, Nat.reduceEqDiff]
      have hc0 := ((hpa).keep hch.fr (by unfold oneB; omega)).cells
      go_simp
      exact hK _ _ v15.symm ⟨c, A, ⟨e0, e1, e2, e3, e4⟩, hcn, hch, s1, s10, s16, s19, s25⟩ (fun _ _ _ h => h)
    | 16, ho =>
      simp at ho; subst ho
      have hu13 : u 13 = V 13 := hΦ 13 (hd ⟨13, .data⟩ (by simp) (by rfl))
      rw [v13] at hu13
      have hu15 : u 15 = V 15 := hΦ 15 (hd ⟨15, .data⟩ (by simp) (by rfl))
      rw [v15] at hu15
      clear hΦ hd
      obtain ⟨c, A, ⟨e0, e1, e2, e3, e4⟩, hcn, hch, s1, s10, s16, s19, s25⟩ := hG
      have hx : ∃ x, u = (upd (upd x 13 (.int .u8 (ttl.toNat : Int))) 15 (.int .u8 (pr.toNat : Int))) := ⟨u, by rw [← upd_self hu13, ← upd_self hu15]⟩
      clear hu13 hu15
      obtain ⟨x, rfl⟩ := hx
      simp only [upd, reduceIte, Nat.reduceEqDiff]
      go_simp
      exact hK _ _ trivial ⟨c, A, ⟨e0, e1, e2, e3, e4⟩, hcn, hch.alloc _, AlS.alloc s1 _, AlS.alloc s10 _, AlS.new hch 2 5 #[.int .u8 (ttl.toNat : Int), .int .u8 (pr.toNat : Int)], AlS.alloc s19 _, AlS.alloc s25 _⟩ (fun _ _ _ h => h)
    | 17, ho =>
      simp at ho; subst ho
      have hu11 : u 11 = V 11 := hΦ 11 (hd ⟨11, .data⟩ (by simp) (by rfl))
      rw [v11] at hu11
      have hl16 : L 16 = true := hd ⟨16, .data⟩ (by simp) (by rfl)
      have hlc : L 11 = true := hd ⟨11, .chain⟩ (by simp) (by rfl)
      clear hΦ hd
      obtain ⟨c, A, ⟨e0, e1, e2, e3, e4⟩, hcn, hch, s1, s10, s16, s19, s25⟩ := hG
      have hck : c = 2 := by
        have h1 := hL.symm.trans e2
        have h2 := hlc.symm.trans e1
        simp at h1 h2; omega
      subst hck
      obtain ⟨g16, hg16, hb16, hB16, hn16⟩ := s16 hl16
      have hx : ∃ x, u = (upd (upd x 11 (.pointer (some ⟨w.heap.size, 0, none⟩))) 16 (.slice (some ⟨g16, 0, none⟩) 2 2)) := ⟨u, by rw [← upd_self hu11, ← upd_self hg16]⟩
      clear hu11 hg16
      obtain ⟨x, rfl⟩ := hx
      simp only [upd, reduceIte, Nat.reduceEqDiff]
      go_simp
      refine (wU8 w.heap.size A _ w3 _ 2 2 [ttl, pr] (wrS w.heap.size A) hch.wr (SlR.of_bk (n := 2) (size := 1) hb16 (AlS.not hch hB16 hn16) rfl) (by have := N2.out; first | omega | (simp; omega))).mono ?_
      rintro e w4 ⟨rfl, hw4⟩
      obtain ⟨A', hch', hal⟩ := hch.call hw4
      exact hK _ _ v17.symm ⟨3, A', ⟨e0, e1, rfl, e3, e4⟩, by omega, by rw [Q3.out]; exact hch', hal _ _ _ _ _ s1, hal _ _ _ _ _ s10, hal _ _ _ _ _ s16, hal _ _ _ _ _ s19, hal _ _ _ _ _ s25⟩ (fun _ _ _ h => h)
    | 18, ho =>
      simp at ho; subst ho
      clear hΦ hd
      go_simp
      exact hK _ _ v18.symm hG (fun _ _ _ h => h)
    | 19, ho =>
      simp at ho; subst ho
      have hu18 : u 18 = V 18 := hΦ 18 (hd ⟨18, .data⟩ (by simp) (by rfl))
      rw [v18] at hu18
      clear hΦ hd
      obtain ⟨c, A, ⟨e0, e1, e2, e3, e4⟩, hcn, hch, s1, s10, s16, s19, s25⟩ := hG
      have hx : ∃ x, u = (upd x 18 (.int .u16 (sum : Int))) := ⟨u, by rw [← upd_self hu18]⟩
      clear hu18
      obtain ⟨x, rfl⟩ := hx
      simp only [upd, reduceIte, Nat.reduceEqDiff]
      go_simp
      exact hK _ _ trivial ⟨c, A, ⟨e0, e1, e2, e3, e4⟩, hcn, hch.alloc _, AlS.alloc s1 _, AlS.alloc s10 _, AlS.alloc s16 _, AlS.new hch 1 24 #[.int .u16 (sum : Int)], AlS.alloc s25 _⟩ (fun _ _ _ h => h)
    | 20, ho =>
      simp at ho; subst ho
      have hu17 : u 17 = V 17 := hΦ 17 (hd ⟨17, .data⟩ (by simp) (by rfl))
      rw [v17] at hu17
      have hl19 : L 19 = true := hd ⟨19, .data⟩ (by simp) (by rfl)
      have hlc : L 17 = true := hd ⟨17, .chain⟩ (by simp) (by rfl)
      clear hΦ hd
      obtain ⟨c, A, ⟨e0, e1, e2, e3, e4⟩, hcn, hch, s1, s10, s16, s19, s25⟩ := hG
      have hck : c = 3 := by
        have h1 := hL.symm.trans e3
        have h2 := hlc.symm.trans e2
        simp at h1 h2; omega
      subst hck
      obtain ⟨g19, hg19, hb19, hB19, hn19⟩ := s19 hl19
      have hx : ∃ x, u = (upd (upd x 17 (.pointer (some ⟨w.heap.size, 0, none⟩))) 19 (.slice (some ⟨g19, 0, none⟩) 1 1)) := ⟨u, by rw [← upd_self hu17, ← upd_self hg19]⟩
      clear hu17 hg19
      obtain ⟨x, rfl⟩ := hx
      simp only [upd, reduceIte, Nat.reduceEqDiff]
      go_simp
      refine (wU16 w.heap.size A _ w3 _ 1 1 [(sum : Int)] hch.wr (SlR.of_bk (n := 1) (size := 1) hb19 (AlS.not hch hB19 hn19) rfl) (by intro x hx; simp at hx; omega) (by omega) (by have := N3.out; first | omega | (simp; omega))).mono ?_
      rintro e w4 ⟨rfl, hw4⟩
      obtain ⟨A', hch', hal⟩ := hch.call hw4
      exact hK _ _ v20.symm ⟨4, A', ⟨e0, e1, e2, rfl, e4⟩, by omega, by rw [Q4.out]; exact hch', hal _ _ _ _ _ s1, hal _ _ _ _ _ s10, hal _ _ _ _ _ s16, hal _ _ _ _ _ s19, hal _ _ _ _ _ s25⟩ (fun _ _ _ h => h)
    | 21, ho =>
      simp at ho; subst ho
      clear hΦ hd
      go_simp
      exact hK _ _ v21.symm hG (fun _ _ _ h => h)
    | 22, ho =>
      simp at ho; subst ho
      have hu21 : u 21 = V 21 := hΦ 21 (hd ⟨21, .data⟩ (by simp) (by rfl))
      rw [v21] at hu21
      clear hΦ hd
      obtain ⟨c, A, ⟨e0, e1, e2, e3, e4⟩, hcn, hch, s1, s10, s16, s19, s25⟩ := hG
      have hx : ∃ x, u = (upd x 21 (.pointer (some ⟨q, 3, none⟩))) := ⟨u, by rw [← upd_self hu21]⟩
      clear hu21
      obtain ⟨x, rfl⟩ := hx
      simp only [upd, reduceIte, Nat.reduceEqDiff]
      have hc0 := ((hpa).keep hch.fr (by unfold oneB; omega)).cells
      go_simp
      exact hK _ _ v22.symm ⟨c, A, ⟨e0, e1, e2, e3, e4⟩, hcn, hch, s1, s10, s16, s19, s25⟩ (fun _ _ _ h => h)
    | 23, ho =>
      simp at ho; subst ho
      clear hΦ hd
      go_simp
      exact hK _ _ v23.symm hG (fun _ _ _ h => h)
    | 24, ho =>
      simp at ho; subst ho
      have hu23 : u 23 = V 23 := hΦ 23 (hd ⟨23, .data⟩ (by simp) (by rfl))
      rw [v23] at hu23
      clear hΦ hd
      obtain ⟨c, A, ⟨e0, e1, e2, e3, e4⟩, hcn, hch, s1, s10, s16, s19, s25⟩ := hG
      have hx : ∃ x, u = (upd x 23 (.pointer (some ⟨q, 4, none⟩))) := ⟨u, by rw [← upd_self hu23]⟩
      clear hu23
      obtain ⟨x, rfl⟩ := hx
      simp only [upd, reduceIte, Nat.reduceEqDiff]
      have hc0 := ((hpa).keep hch.fr (by unfold oneB; omega)).cells
      go_simp
      exact hK _ _ v24.symm ⟨c, A, ⟨e0, e1, e2, e3, e4⟩, hcn, hch, s1, s10, s16, s19, s25⟩ (fun _ _ _ h => h)
    | 25, ho =>
      simp at ho; subst ho
      have hu22 : u 22 = V 22 := hΦ 22 (hd ⟨22, .data⟩ (by simp) (by rfl))
      rw [v22] at hu22
      have hu24 : u 24 = V 24 := hΦ 24 (hd ⟨24, .data⟩ (by simp) (by rfl))
      rw [v24] at hu24
      clear hΦ hd
      obtain ⟨c, A, ⟨e0, e1, e2, e3, e4⟩, hcn, hch, s1, s10, s16, s19, s25⟩ := hG
      have hx : ∃ x, u = (upd (upd x 22 (.int .u32 (fi : Int))) 24 (.int .u32 (ti : Int))) := ⟨u, by rw [← upd_self hu22, ← upd_self hu24]⟩
      clear hu22 hu24
      obtain ⟨x, rfl⟩ := hx
      simp only [upd, reduceIte, Nat.reduceEqDiff]
      go_simp
      exact hK _ _ trivial ⟨c, A, ⟨e0, e1, e2, e3, e4⟩, hcn, hch.alloc _, AlS.alloc s1 _, AlS.alloc s10 _, AlS.alloc s16 _, AlS.alloc s19 _, AlS.new hch 2 34 #[.int .u32 (fi : Int), .int .u32 (ti : Int)]⟩ (fun _ _ _ h => h)
    | 26, ho =>
      simp at ho; subst ho
      have hu20 : u 20 = V 20 := hΦ 20 (hd ⟨20, .data⟩ (by simp) (by rfl))
      rw [v20] at hu20
      have hl25 : L 25 = true := hd ⟨25, .data⟩ (by simp) (by rfl)
      have hlc : L 20 = true := hd ⟨20, .chain⟩ (by simp) (by rfl)
      clear hΦ hd
      obtain ⟨c, A, ⟨e0, e1, e2, e3, e4⟩, hcn, hch, s1, s10, s16, s19, s25⟩ := hG
      have hck : c = 4 := by
        have h1 := hL.symm.trans e4
        have h2 := hlc.symm.trans e3
        simp at h1 h2; omega
      subst hck
      obtain ⟨g25, hg25, hb25, hB25, hn25⟩ := s25 hl25
      have hx : ∃ x, u = (upd (upd x 20 (.pointer (some ⟨w.heap.size, 0, none⟩))) 25 (.slice (some ⟨g25, 0, none⟩) 2 2)) := ⟨u, by rw [← upd_self hu20, ← upd_self hg25]⟩
      clear hu20 hg25
      obtain ⟨x, rfl⟩ := hx
      simp only [upd, reduceIte, Nat.reduceEqDiff]
      go_simp
      refine (wIP w.heap.size A _ w3 _ 2 2 [(fi : Int), (ti : Int)] hch.wr (SlR.of_bk (n := 2) (size := 1) hb25 (AlS.not hch hB25 hn25) rfl) (by intro x hx; simp at hx; omega) (by omega) (by have := N4.out; first | omega | (simp; omega))).mono ?_
      rintro e w4 ⟨rfl, hw4⟩
      obtain ⟨A', hch', hal⟩ := hch.call hw4
      exact hK _ _ v26.symm ⟨5, A', ⟨e0, e1, e2, e3, rfl⟩, by omega, by rw [Q5.out]; exact hch', hal _ _ _ _ _ s1, hal _ _ _ _ _ s10, hal _ _ _ _ _ s16, hal _ _ _ _ _ s19, hal _ _ _ _ _ s25⟩ (fun _ _ _ h => h)
    | 27, ho =>
      simp at ho; subst ho
      have hu26 : u 26 = V 26 := hΦ 26 (hd ⟨26, .data⟩ (by simp) (by rfl))
      rw [v26] at hu26
      have hlc : L 26 = true := hd ⟨26, .chain⟩ (by simp) (by rfl)
      clear hΦ hd
      obtain ⟨c, A, ⟨e0, e1, e2, e3, e4⟩, hcn, hch, s1, s10, s16, s19, s25⟩ := hG
      have hck : c = 5 := by
        have h2 := hlc.symm.trans e4
        simp at h2; omega
      subst hck
      have hx : ∃ x, u = (upd x 26 (.pointer (some ⟨w.heap.size, 0, none⟩))) := ⟨u, by rw [← upd_self hu26]⟩
      clear hu26
      obtain ⟨x, rfl⟩ := hx
      simp only [upd, reduceIte, Nat.reduceEqDiff]
      go_simp
      refine (wString w.heap.size _ _ _ hch.wr).mono ?_
      rintro e w4 ⟨rfl, rfl⟩
      exact hK _ _ v27.symm ⟨5, A, ⟨e0, e1, e2, e3, e4⟩, hcn, hch, s1, s10, s16, s19, s25⟩ (fun _ _ _ h => h)
    | 28, ho =>
      simp at ho; subst ho
      have hu27 : u 27 = V 27 := hΦ 27 (hd ⟨27, .data⟩ (by simp) (by rfl))
      rw [v27] at hu27
      clear hΦ hd
      have hx : ∃ x, u = (upd x 27 (.string (bs (lst 5)))) := ⟨u, by rw [← upd_self hu27]⟩
      clear hu27
      obtain ⟨x, rfl⟩ := hx
      simp only [upd, reduceIte, Nat.reduceEqDiff]
      go_simp
      exact hK _ _ v28.symm hG (fun _ _ _ h => h)
  · rintro u w3 hu L hall hG
    obtain ⟨c, A, ⟨e0, e1, e2, e3, e4⟩, hcn, hch, s1, s10, s16, s19, s25⟩ := hG
    have h28 : u 28 = V 28 := hu 28 (by simp)
    rw [v28] at h28
    clear hu
    rw [h28]
    have hby : lst 5 = ipHead id ttl pr fi ti ld.length sum := by rw [Q5.out, Q4.out, Q3.out, Q2.out, Q1.out, Q0.out]; exact ip_lst _ _ _ _ _ _ _
    rw [hby]
    have hfr := hf0.trans' hch.fr (fun b hb e => by unfold oneB at e; omega)
    generalize hR : ipHead id ttl pr fi ti ld.length sum = R at *
    have HR := Lib.hid hR
    clear hR
    go_wp2_with fail
    go_ret
    exact ⟨by rw [HR.out]; rfl, hfr⟩
theorem hashCheck_one1 (A : Option Addr) (c : Nat) (p : List UInt8) (w : World) (hr : SlR w noB 1 A 1 (strs [p])) (hz : p.length ≤ 9223372036854775807) :
    Calls Tryz.prog 28 #[.slice A 1 c] w fun e w' => e = .returned (.int .u16 (check p)) ∧ w = w' := by
  have h := hashCheck_any A 1 c [p] w noB hr (by omega) (by simpa using hz)
  simpa using h
theorem packetWriteIP (id fi ti : Nat) (ttl pr : UInt8) (ld : List UInt8) (w : World) (hid : id < 65536) (hfi : fi < 4294967296) (hti : ti < 4294967296) (hld : ld.length ≤ 9223372036854775807) :
    Calls Tryz.prog 26 #[.agg #[.int .u16 (id : Int), .int .u8 (ttl.toNat : Int), .int .u8 (pr.toNat : Int), .int .u32 (fi : Int), .int .u32 (ti : Int), .string (bs ld)]] w (strPost (wrIP id ttl pr fi ti ld) w) := by
  have hpa := Bk.new w 36 #[.int .u16 (id : Int), .int .u8 (ttl.toNat : Int), .int .u8 (pr.toNat : Int), .int .u32 (fi : Int), .int .u32 (ti : Int), .string (bs ld)]
  have hpa0 := hpa.cells
  have hmf : ∀ (fn : Fn) (first cap : Array Value) (w : World), (Instr.makeFunc fn first cap).run Tryz.prog w = .ok (.func fn first cap) w := fun _ _ _ _ => rfl
  go_enter Tryz.func26, Tryz.ntmps26
  by_cases h1 : ttl.toNat = 0
  · have hs : Hid (wrIP id ttl pr fi ti ld = ([], 2)) := by unfold Hid wrIP; rw [if_pos h1]
    have b1 : ((ttl.toNat : Int) == 0) = true := by simp; omega
    clear h1
    go_wp2_with fail
    go_ret2
    exact ⟨by rw [hs.out]; rfl, (Fr.refl _ _).alloc _⟩
  have b1 : ((ttl.toNat : Int) == 0) = false := by simp; omega
  by_cases h2 : 1480 < ld.length
  · have hs : Hid (wrIP id ttl pr fi ti ld = ([], 7)) := by unfold Hid wrIP; rw [if_neg h1, if_pos h2]
    have b2 : 1480 < (ld.length : Int) := by omega
    clear h1 h2
    go_wp2_with fail
    go_ret2
    exact ⟨by rw [hs.out]; rfl, (Fr.refl _ _).alloc _⟩
  have b2 : ¬ 1480 < (ld.length : Int) := by omega
  have hs : Hid (wrIP id ttl pr fi ti ld = (ipBytes id ttl pr fi ti ld, 0)) := by unfold Hid wrIP; rw [if_neg h1, if_neg h2]
  have hl2 : ld.length ≤ 1480 := by omega
  clear h1 h2
  go_upto_region 5 with fail
  go_cut [4] from 5 to 14 (fun q wx => q = .func (.func 67) #[] #[.pointer (some ⟨w.heap.size, 0, none⟩)] ∧ wx = w.alloc (.cells #[.int .u16 (id : Int), .int .u8 (ttl.toNat : Int), .int .u8 (pr.toNat : Int), .int .u32 (fi : Int), .int .u32 (ti : Int), .string (bs ld)] 36))
  case first =>
    go_wp2_with fail
    go_meet
    case rel => exact ⟨rfl, rfl⟩
  case rest =>
  obtain ⟨rfl, rfl⟩ := hcut
  clear hpa0
  go_upto_region 6 with fail
  have hf0 : Fr noB w (w.alloc (.cells #[.int .u16 (id : Int), .int .u8 (ttl.toNat : Int), .int .u8 (pr.toNat : Int), .int .u32 (fi : Int), .int .u32 (ti : Int), .string (bs ld)] 36)) := (Fr.refl _ _).alloc _
  generalize w.alloc (.cells #[.int .u16 (id : Int), .int .u8 (ttl.toNat : Int), .int .u8 (pr.toNat : Int), .int .u32 (fi : Int), .int .u32 (ti : Int), .string (bs ld)] 36) = w1 at *
  have Lld := Lib.hid hl2
  obtain ⟨x1, Hx1⟩ : ∃ s : List UInt8, Hid (s = ipHead id ttl pr fi ti ld.length 0) := ⟨ipHead id ttl pr fi ti ld.length 0, Lib.hid rfl⟩
  obtain ⟨x2, Hx2⟩ : ∃ s : List UInt8, Hid (s = ipHead id ttl pr fi ti ld.length (check x1)) := ⟨ipHead id ttl pr fi ti ld.length (check x1), Lib.hid rfl⟩
  obtain ⟨s1, Hs1⟩ : ∃ s : List UInt8, Hid (s = x2 ++ ld) := ⟨x2 ++ ld, Lib.hid rfl⟩
  have Lx1 : Hid (x1.length ≤ 20) := by unfold Hid; rw [Hx1.out]; first | (rw [ipHead_length]; omega) | (simp [big_length, macB, bigs_length] <;> omega)
  have Lx2 : Hid (x2.length ≤ 20) := by have l_x1 := Lx1.out; unfold Hid; rw [Hx2.out]; first | (rw [ipHead_length]; omega) | (simp [big_length, macB, bigs_length] <;> omega)
  have Ls1 : Hid (s1.length ≤ 1500) := by have l_x1 := Lx1.out; have l_x2 := Lx2.out; unfold Hid; rw [Hs1.out]; first | (rw [ipHead_length]; omega) | (simp [big_length, macB, bigs_length] <;> omega)
  obtain ⟨V, hV⟩ : ∃ V : Nat → Value, V = (fun j => match j with | 0 => .func (.func 67) #[] #[.pointer (some ⟨w.heap.size, 0, none⟩)] | 1 => .func (.func 67) #[] #[.pointer (some ⟨w.heap.size, 0, none⟩)] | 2 => .string (bs x1) | 4 => .int .u16 (check x1 : Int) | 5 => .string (bs x2) | 6 => .pointer (some ⟨w.heap.size, 5, none⟩) | 7 => .string (bs ld) | 8 => .string (bs s1) | 9 => .string (bs s1) | 10 => .int .i64 0 | _ => undef) := ⟨_, rfl⟩
  have v0 : V 0 = .func (.func 67) #[] #[.pointer (some ⟨w.heap.size, 0, none⟩)] := congrFun hV 0
  have v1 : V 1 = .func (.func 67) #[] #[.pointer (some ⟨w.heap.size, 0, none⟩)] := congrFun hV 1
  have v2 : V 2 = .string (bs x1) := congrFun hV 2
  have v4 : V 4 = .int .u16 (check x1 : Int) := congrFun hV 4
  have v5 : V 5 = .string (bs x2) := congrFun hV 5
  have v6 : V 6 = .pointer (some ⟨w.heap.size, 5, none⟩) := congrFun hV 6
  have v7 : V 7 = .string (bs ld) := congrFun hV 7
  have v8 : V 8 = .string (bs s1) := congrFun hV 8
  have v9 : V 9 = .string (bs s1) := congrFun hV 9
  have v10 : V 10 = .int .i64 0 := congrFun hV 10
  clear hV
  refine wp_region_ssau (by kernel_rfl) (by kernel_rfl) (by kernel_rfl)
    (fun u => ⟨#[.agg #[.int .u16 (id : Int), .int .u8 (ttl.toNat : Int), .int .u8 (pr.toNat : Int), .int .u32 (fi : Int), .int .u32 (ti : Int), .string (bs ld)], .pointer (some ⟨w.heap.size, 0, none⟩), u 9, u 10, .func (.func 67) #[] #[.pointer (some ⟨w.heap.size, 0, none⟩)], u5, u6, u7, u8, u9, u10, u11, u12, u13, u14, u 0, u 1, u 2, u 3, u 4, u 5, u 6, u 7, u 8], []⟩)
    (fun j v w3 => if j = 3 then True else v = V j)
    (fun L u w3 => Fr noB w1 w3 ∧ AlS (L 3) (u 3) 1 9 #[.string (bs x1)] 0 none w3) (fun j => if j = 9 then .string ⟨#[]⟩ else if j = 10 then .int .i64 0 else undef) ⟨(Fr.refl _ _).drew, AlS.false⟩ ?_ ?_
  · rintro L u w3 i o hG hΦ ho hL hd K hK
    match i, ho with
    | 0, ho =>
      simp at ho; subst ho
      clear hΦ hd
      go_simp
      exact hK _ _ v0.symm hG (fun _ _ _ h => h)
    | 1, ho =>
      simp at ho; subst ho
      clear hΦ hd
      go_simp
      exact hK _ _ v1.symm hG (fun _ _ _ h => h)
    | 2, ho =>
      simp at ho; subst ho
      have hu1 : u 1 = V 1 := hΦ 1 (hd ⟨1, .data⟩ (by simp) (by rfl))
      rw [v1] at hu1
      clear hΦ hd
      obtain ⟨hG0, s3⟩ := hG
      have hx : ∃ x, u = (upd x 1 (.func (.func 67) #[] #[.pointer (some ⟨w.heap.size, 0, none⟩)])) := ⟨u, by rw [← upd_self hu1]⟩
      clear hu1
      obtain ⟨x, rfl⟩ := hx
      simp only [upd, reduceIte, Nat.reduceEqDiff]
      go_simp
      refine (ipHeadFn id fi ti ttl pr ld 0 w.heap.size w3 hid hfi hti (by omega) hl2 (hpa.keep hG0 (fun x => x))).mono ?_
      rintro e w4 ⟨rfl, hf4⟩
      rw [← Hx1.out]
      exact hK _ _ v2.symm ⟨(hG0.none hf4), AlS.quiet s3 hf4⟩ (fun _ _ _ h => h)
    | 3, ho =>
      simp at ho; subst ho
      have hu2 : u 2 = V 2 := hΦ 2 (hd ⟨2, .data⟩ (by simp) (by rfl))
      rw [v2] at hu2
      clear hΦ hd
      obtain ⟨hG0, s3⟩ := hG
      have hx : ∃ x, u = (upd x 2 (.string (bs x1))) := ⟨u, by rw [← upd_self hu2]⟩
      clear hu2
      obtain ⟨x, rfl⟩ := hx
      simp only [upd, reduceIte, Nat.reduceEqDiff]
      go_simp
      exact hK _ _ trivial ⟨(hG0.alloc _), AlS.new0 w3 1 9 #[.string (bs x1)]⟩ (fun _ _ _ h => h)
    | 4, ho =>
      simp at ho; subst ho
      have hl3 : L 3 = true := hd ⟨3, .data⟩ (by simp) (by rfl)
      clear hΦ hd
      obtain ⟨hG0, s3⟩ := hG
      obtain ⟨g3, hg3, hb3, -, -⟩ := s3 hl3
      have hx : ∃ x, u = (upd x 3 (.slice (some ⟨g3, 0, none⟩) 1 1)) := ⟨u, by rw [← upd_self hg3]⟩
      clear hg3
      obtain ⟨x, rfl⟩ := hx
      simp only [upd, reduceIte, Nat.reduceEqDiff]
      go_simp
      refine (hashCheck_one1 _ 1 x1 w3 (SlR.of_bk (n := 1) (size := 1) hb3 (fun x => x) rfl) (by have := Lx1.out; omega)).mono ?_
      rintro e w4 ⟨rfl, rfl⟩
      exact hK _ _ v4.symm ⟨hG0, s3⟩ (fun _ _ _ h => h)
    | 5, ho =>
      simp at ho; subst ho
      have hu0 : u 0 = V 0 := hΦ 0 (hd ⟨0, .data⟩ (by simp) (by rfl))
      rw [v0] at hu0
      have hu4 : u 4 = V 4 := hΦ 4 (hd ⟨4, .data⟩ (by simp) (by rfl))
      rw [v4] at hu4
      clear hΦ hd
      obtain ⟨hG0, s3⟩ := hG
      have hx : ∃ x, u = (upd (upd x 0 (.func (.func 67) #[] #[.pointer (some ⟨w.heap.size, 0, none⟩)])) 4 (.int .u16 (check x1 : Int))) := ⟨u, by rw [← upd_self hu0, ← upd_self hu4]⟩
      clear hu0 hu4
      obtain ⟨x, rfl⟩ := hx
      simp only [upd, reduceIte, Nat.reduceEqDiff]
      go_simp
      refine (ipHeadFn id fi ti ttl pr ld (check x1) w.heap.size w3 hid hfi hti (by have := check_le x1; omega) hl2 (hpa.keep hG0 (fun x => x))).mono ?_
      rintro e w4 ⟨rfl, hf4⟩
      rw [← Hx2.out]
      exact hK _ _ v5.symm ⟨(hG0.none hf4), AlS.quiet s3 hf4⟩ (fun _ _ _ h => h)
    | 6, ho =>
      simp at ho; subst ho
      clear hΦ hd
      go_simp
      exact hK _ _ v6.symm hG (fun _ _ _ h => h)
    | 7, ho =>
      simp at ho; subst ho
      have hu6 : u 6 = V 6 := hΦ 6 (hd ⟨6, .data⟩ (by simp) (by rfl))
      rw [v6] at hu6
      clear hΦ hd
      obtain ⟨hG0, s3⟩ := hG
      have hx : ∃ x, u = (upd x 6 (.pointer (some ⟨w.heap.size, 5, none⟩))) := ⟨u, by rw [← upd_self hu6]⟩
      clear hu6
      obtain ⟨x, rfl⟩ := hx
      simp only [upd, reduceIte, Nat.reduceEqDiff]
      have hc0 := ((hpa).keep hG0 (fun x => x)).cells
      go_simp
      exact hK _ _ v7.symm ⟨hG0, s3⟩ (fun _ _ _ h => h)
    | 8, ho =>
      simp at ho; subst ho
      have hu5 : u 5 = V 5 := hΦ 5 (hd ⟨5, .data⟩ (by simp) (by rfl))
      rw [v5] at hu5
      have hu7 : u 7 = V 7 := hΦ 7 (hd ⟨7, .data⟩ (by simp) (by rfl))
      rw [v7] at hu7
      clear hΦ hd
      have hx : ∃ x, u = (upd (upd x 5 (.string (bs x2))) 7 (.string (bs ld))) := ⟨u, by rw [← upd_self hu5, ← upd_self hu7]⟩
      clear hu5 hu7
      obtain ⟨x, rfl⟩ := hx
      simp only [upd, reduceIte, Nat.reduceEqDiff]
      have hln : ¬ 9223372036854775807 < x2.length + ld.length := by have l1 := Lx2.out; have l2 := Lld.out; omega
      go_simp
      rw [← Hs1.out]
      exact hK _ _ v8.symm hG (fun _ _ _ h => h)
    | 9, ho =>
      simp at ho; subst ho
      have hu8 : u 8 = V 8 := hΦ 8 (hd ⟨8, .data⟩ (by simp) (by rfl))
      rw [v8] at hu8
      clear hΦ hd
      have hx : ∃ x, u = (upd x 8 (.string (bs s1))) := ⟨u, by rw [← upd_self hu8]⟩
      clear hu8
      obtain ⟨x, rfl⟩ := hx
      simp only [upd, reduceIte, Nat.reduceEqDiff]
      go_simp
      exact hK _ _ v9.symm hG (fun _ _ _ h => h)
    | 10, ho =>
      simp at ho; subst ho
      clear hΦ hd
      go_simp
      exact hK _ _ v10.symm hG (fun _ _ _ h => h)
  · rintro u w3 hu L hall hG
    obtain ⟨hG0, s3⟩ := hG
    have h9 : u 9 = V 9 := hu 9 (by simp)
    rw [v9] at h9
    have h10 : u 10 = V 10 := hu 10 (by simp)
    rw [v10] at h10
    clear hu hall
    rw [h9, h10]
    have hfr := hf0.none hG0
    have hR : s1 = ipBytes id ttl pr fi ti ld := by rw [Hs1.out, Hx2.out, Hx1.out]; rfl
    rw [hR]
    clear hR
    generalize ipBytes id ttl pr fi ti ld = R at *
    go_wp2_with fail
    go_ret2
    exact ⟨by rw [hs.out]; rfl, hfr⟩
end Go.Proofs.YtcbkaiakdhiloabGreatDoor
