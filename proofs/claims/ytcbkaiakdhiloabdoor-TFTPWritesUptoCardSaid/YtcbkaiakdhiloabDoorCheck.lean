/- The walks of the sum of the internet: hash.Check (over some texts) and netbootref.Check. -/
import Derived.Test.YtcbkaiakdhiloabDoorMem
import Derived.Test.YtcbkaiakdhiloabDoorFmt
import Derived.Deep.QuietTactic
import Derived.BigQuiet
set_option linter.unusedSimpArgs false
set_option linter.unusedVariables false
namespace Go.Proofs.YtcbkaiakdhiloabDoor
open Go.RowKit Go.Proofs

def strs (l : List (List UInt8)) : List Value := l.map fun p => .string (bs p)
theorem strs_length (l : List (List UInt8)) : (strs l).length = l.length := by simp [strs]
theorem strs_get (l : List (List UInt8)) (k : Nat) (hk : k < l.length) : (strs l)[k]? = some (.string (bs l[k])) := by simp [strs, hk]

def CkRel (st : Bool × Nat) (o s : Value) : Prop := o = .bool st.1 ∧ s = .int .u32 (st.2 : Int)
theorem ret_u16 {a b : Int} (h : a = b) : Ending.returned (.int .u16 a) = .returned (.int .u16 b) := by rw [h]
theorem ck_tail (y : Nat) (hy : y < 200000) : (bits .and .u32 (y : Int) 65535 + (y : Int) / 65536) % 4294967296 = ((y % 65536 + y / 65536 : Nat) : Int) := by
  have h := u32_and_nat y 65535 (by omega) (by omega)
  rw [nat_mask16] at h
  rw [show (65535 : Int) = ((65535 : Nat) : Int) from rfl, h]; omega
theorem ck_false (s : Nat) (b : UInt8) (hs : s ≤ 65535) : CkRel (ckStep (false, s) b) (.bool true)
    (.int .u32 ((bits .and .u32 (((s : Int) + (b.toNat : Int) % 4294967296 * 256) % 4294967296) 65535 + ((s : Int) + (b.toNat : Int) % 4294967296 * 256) % 4294967296 / 65536) % 4294967296)) := by
  have hb := b.toNat_lt
  have e : ((s : Int) + (b.toNat : Int) % 4294967296 * 256) % 4294967296 = ((s + b.toNat * 256 : Nat) : Int) := by omega
  rw [e, ck_tail _ (by omega)]
  exact ⟨rfl, by simp [ckStep]⟩
theorem ck_true (s : Nat) (b : UInt8) (hs : s ≤ 65535) : CkRel (ckStep (true, s) b) (.bool false)
    (.int .u32 ((bits .and .u32 (((s : Int) + (b.toNat : Int)) % 4294967296) 65535 + ((s : Int) + (b.toNat : Int)) % 4294967296 / 65536) % 4294967296)) := by
  have hb := b.toNat_lt
  have e : ((s : Int) + (b.toNat : Int)) % 4294967296 = ((s + b.toNat : Nat) : Int) := by omega
  rw [e, ck_tail _ (by omega)]
  exact ⟨rfl, by simp [ckStep]⟩
theorem ck_end (l : List UInt8) : bits .xor .u16 IntKind.u16.max (IntKind.u16.wrap ((ck l).2 : Int)) = (check l : Int) := by
  have h := ck_le l
  rw [IntKind.wrap_u16, show IntKind.u16.max = ((65535 : Nat) : Int) from rfl, show ((ck l).2 : Int) % 65536 = (((ck l).2 : Nat) : Int) by omega, u16_xor_nat _ _ (by omega) (by omega), xor_max16 _ (by omega), ck_check]
set_option maxRecDepth 20000 in
set_option maxHeartbeats 1000000 in
theorem hashCheck_any (A : Option Addr) (n c : Nat) (ps : List (List UInt8)) (w : World) (S : Nat → Prop) (hr : SlR w S 1 A n (strs ps)) (hn : n ≤ 9223372036854775807) (hz : ∀ p ∈ ps, p.length ≤ 9223372036854775807) :
    Calls Tryd.prog 21 #[.slice A n c] w fun e w' => e = .returned (.int .u16 (check ps.flatten)) ∧ w = w' := by
  have hlen : ps.length = n := by have := hr.1; rw [strs_length] at this; omega
  go_enter Tryd.func21, Tryd.ntmps21
  go_wp2_with fail
  go_loop [3, 4, 11] (fun s o i => ∃ k : Nat, k ≤ n ∧ i = .int .i64 k ∧ CkRel (ck (ps.take k).flatten) o s) (fun _ _ i => n - (intOf i).toNat)
  case atStart => exact ⟨0, Nat.zero_le _, rfl, rfl, rfl⟩
  case round =>
    obtain ⟨k, hk, rfl, rfl, rfl⟩ := hrel
    by_cases hlt : k < n
    · obtain ⟨ad, u, rfl, hu, hc⟩ := hr.at_ hlt
      rw [strs_get ps k (by omega)] at hu
      have hp : ps[k].length ≤ 9223372036854775807 := hz _ (List.getElem_mem _)
      injection hu with hu
      subst hu
      have hp0 : ((ps.take k).flatten ++ ps[k].take 0) = (ps.take k).flatten := by simp
      generalize hpk : ps[k] = p at *
      have Hpk := Lib.hid hpk
      clear hpk
      generalize hpre : (ps.take k).flatten = pre at *
      have Hpre := Lib.hid hpre
      have Hp0 := Lib.hid hp0
      clear hpre hp0
      have hbz := bs_size p
      go_wp2_with fail
      go_loop [3, 4, 17] (fun s o i => ∃ j : Nat, j ≤ p.length ∧ i = .int .i64 j ∧ CkRel (ck (pre ++ p.take j)) o s) (fun _ _ i => p.length - (intOf i).toNat)
      case atStart => exact ⟨0, Nat.zero_le _, rfl, by rw [Hp0.out]; exact ⟨rfl, rfl⟩⟩
      case round =>
        obtain ⟨j, hj, rfl, rfl, rfl⟩ := hrel
        by_cases hlj : j < p.length
        · have hck := ck_le (pre ++ p.take j)
          have hsn : ck (pre ++ p.take (j + 1)) = ckStep (ck (pre ++ p.take j)) p[j] := by
            rw [List.take_succ_eq_append_getElem hlj, ← List.append_assoc, ck_snoc]
          have Hsn := Lib.hid hsn
          clear hsn
          generalize hst : ck (pre ++ p.take j) = st at *
          have Hst := Lib.hid hst
          clear hst
          obtain ⟨o, s⟩ := st
          cases o
          · go_wp2_with fail
            go_round
            case rel => exact ⟨j + 1, by omega, by go_num, by rw [Hsn.out, bs_get]; exact ck_false s _ hck⟩
            case measure => simp [intOf]; omega
          · go_wp2_with fail
            go_round
            case rel => exact ⟨j + 1, by omega, by go_num, by rw [Hsn.out, bs_get]; exact ck_true s _ hck⟩
            case measure => simp [intOf]; omega
        · go_wp2_with fail
          obtain rfl : j = p.length := by omega
          refine ⟨⟨k + 1, by omega, by go_num, ?_⟩, by simp [intOf]; omega⟩
          have e : (ps.take (k + 1)).flatten = pre ++ p.take p.length := by
            rw [List.take_succ_eq_append_getElem (by omega), List.flatten_append, Hpre.out, Hpk.out]; simp
          rw [e]; exact ⟨rfl, rfl⟩
    · go_wp2_with fail
      go_ret
      obtain rfl : k = n := by omega
      refine ⟨ret_u16 ?_, rfl⟩
      rw [ck_end, List.take_of_length_le (by omega)]

theorem ret_i64 {a b : Int} (h : a = b) : Ending.returned (.int .i64 a) = .returned (.int .i64 b) := by rw [h]
theorem bs_pad (l : List UInt8) (h : l.length % 2 = 1) : bs l ++ { data := #[0] } = bs (padded l) := by
  rw [show ({ data := #[0] } : ByteArray) = bs [0] from rfl, bs_append]; unfold padded; rw [if_pos h]
theorem words_le : ∀ (q : List UInt8), words q ≤ 65535 * q.length
  | [] => by simp [words]
  | [_] => by simp [words]
  | a :: b :: r => by
    have := words_le r
    have ha := a.toNat_lt
    have hb := b.toNat_lt
    simp [words]; omega
theorem words_take_le (q : List UInt8) (k : Nat) (hq : q.length ≤ 1000001) : words (q.take k) ≤ 65536000000 := by
  have h := words_le (q.take k)
  have h2 : (q.take k).length ≤ 1000001 := by rw [List.length_take]; omega
  omega
theorem padded_even (l : List UInt8) : (padded l).length % 2 = 0 := by unfold padded; split <;> (try simp) <;> omega
theorem padded_le (l : List UInt8) : (padded l).length ≤ l.length + 1 := by unfold padded; split <;> simp
theorem words_val (s : Nat) (a b : UInt8) (hs : s ≤ 65536000000) :
    Value.int .i64 (wrap64 ((s : Int) + wrap64 (wrap64 (256 * wrap64 (a.toNat : Int)) + wrap64 (b.toNat : Int)))) = .int .i64 ((s + a.toNat * 256 + b.toNat : Nat) : Int) := by
  have ha := a.toNat_lt
  have hb := b.toNat_lt
  rw [wr64 (n := (a.toNat : Int)) (by omega) (by omega), wr64 (n := (b.toNat : Int)) (by omega) (by omega), wr64 (n := 256 * (a.toNat : Int)) (by omega) (by omega),
    wr64 (n := 256 * (a.toNat : Int) + (b.toNat : Int)) (by omega) (by omega), wr64 (by omega) (by omega)]
  congr 1; omega
def Even (k : Nat) : Prop := k % 2 = 0
def SumIs (q : List UInt8) (k : Nat) (s i : Value) : Prop := k ≤ q.length ∧ Even k ∧ i = .int .i64 (k : Int) ∧ s = .int .i64 (words (q.take k) : Int)
theorem words_next (q : List UInt8) (k : Nat) (hk : Even k) (h : k + 1 < q.length) : words (q.take (k + 2)) = words (q.take k) + q[k].toNat * 256 + q[k + 1].toNat := by
  obtain ⟨j, rfl⟩ : ∃ j, k = 2 * j := ⟨k / 2, by unfold Even at hk; omega⟩
  exact words_take j q _ _ (List.getElem?_eq_getElem (by omega)) (List.getElem?_eq_getElem h)
def LeftIs (l : List UInt8) (s : Value) : Prop := ∃ a : Nat, a ≤ 65536000000 ∧ Kept a (wsum false l) ∧ s = .int .i64 (a : Int)

end Go.Proofs.YtcbkaiakdhiloabDoor
