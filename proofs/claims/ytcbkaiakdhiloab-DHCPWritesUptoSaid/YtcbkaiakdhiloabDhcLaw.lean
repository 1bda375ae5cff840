/- boot.ReadDHCP; the law's comparing of two messages; netbootlaw.DHCPReads walked. -/
import Derived.Test.YtcbkaiakdhiloabRefRD
import Derived.Test.YtcbkaiakdhiloabEq
import Derived.Deep.QuietTactic
import Derived.BigQuiet
set_option linter.unusedSimpArgs false
set_option linter.unusedVariables false
namespace Go.Proofs.Ytcbkaiakdhiloab
open Go.RowKit Go.Proofs
attribute [local go_sem] bs_size bs_append bs_extract bs_toList

set_option maxRecDepth 20000 in
set_option maxHeartbeats 1000000 in
theorem bootReadDHCP (l : List UInt8) (w : World) (hl : l.length ≤ 1099511000000) :
    Calls Try.prog 13 #[.string (bs l)] w (dhcPost l w) := by
  go_enter Try.func13, Try.ntmps13
  go_wp2_with fail
  have hx0 := Bk.new w 28 zcDhc
  have hf0 : Fr noB w (w.alloc (.cells zcDhc 28)) := (Fr.refl _ _).alloc _
  have hsz : (w.alloc (.cells zcDhc 28)).heap.size = w.heap.size + 1 := by simp
  unfold zcDhc at hx0 hf0 hsz
  generalize w.alloc (.cells #[.bool false, .int .u32 0, .int .u32 0, .int .u32 0, .int .u32 0, .int .u8 0, .int .u8 0, .int .u8 0, .int .u8 0, .int .u8 0, .int .u8 0, .slice none 0 0] 28) = w1 at *
  have Hsz := Lib.hid hsz
  clear hsz
  refine (dhcpRead l w1 hl).mono ?_
  rintro e w2 ⟨⟨A, cap, rfl, hA⟩, hf1⟩
  have hx1 := hx0.keep hf1 (fun x => x)
  generalize hr : readDHCP l = r at *
  have Hr := Lib.hid hr
  clear hr
  have hin := Lib.hid (dhc_info r.1 A cap)
  have hon := Lib.hid (dhcC_one r.1 A cap)
  have hsz := Lib.hid (dhcC_size r.1 A cap)
  generalize hc : dhcC r.1 A cap = c at *
  have Hc := Lib.hid hc
  clear hc
  go_wp2_with ((refine wpList_store_bk rfl 28 (.tmp 2) (.tmp 6) rfl w.heap.size _ _ c rfl rfl hx1 hsz.out hin.out hon.out ?_); intro w9 hx9 hf9)
  refine bodyPost_ret (results_row_tmp Try.results13 _ w9 w.heap.size _ c _ _ rfl rfl hx9 Try.underlying28 rfl hin.out) rfl ?_
  refine ⟨⟨A, cap, by rw [Hr.out, Hc.out]; rfl, ?_⟩, (hf0.none hf1).trans' hf9 (fun b hb e => by unfold oneB at e; omega)⟩
  rw [Hr.out]
  exact (hA.keep (hf9.mono fun b hb e => by unfold oneB at e; have := Hsz.out; omega)).sub (fun b hb h => by have := Hsz.out; omega)

theorem optRd_wt : ∀ (n : Nat) (os : List OptD) (l : List UInt8) (os' : List OptD), optRead n os l = some os' → wtO os' ≤ wtO os + l.length
  | 0, _, _, _, h => by cases h
  | n + 1, os, [], _, h => by cases h
  | n + 1, os, c :: r, os', h => by
    rw [optRead_cons] at h
    split at h
    · cases h; omega
    · split at h
      · have := optRd_wt n os r os' h; simp only [List.length_cons]; omega
      · cases r with
        | nil => cases h
        | cons k r =>
          simp only at h
          split at h
          · cases h
          · have h1 := optRd_wt n _ _ os' h
            have h2 := wtO_add os c (r.take k.toNat)
            simp only [List.length_cons, List.length_drop] at h1 ⊢
            rw [List.length_take] at h2
            omega
theorem overs_wt (os : List OptD) (name file : List UInt8) : wtO (overs os name file).1 ≤ wtO os + name.length + file.length := by
  have h0 : wtO (os.filter fun o => !(o.code == 52)) ≤ wtO os := wtO_filter os
  unfold overs
  split
  · simp only; omega
  · split
    · exact Nat.zero_le _
    · split
      · exact Nat.zero_le _
      · next a h1 =>
        have h2 : wtO a ≤ wtO os + file.length := by
          split at h1
          · have := optRd_wt _ _ _ _ h1; omega
          · cases h1; omega
        split
        · exact Nat.zero_le _
        · next a2 h3 =>
          have h4 : wtO a2 ≤ wtO os + name.length + file.length := by
            split at h3
            · have := optRd_wt _ _ _ _ h3; omega
            · cases h3; omega
          split
          · exact Nat.zero_le _
          · exact h4
  · exact Nat.zero_le _
theorem readDHCP_len (l : List UInt8) (hl : l.length ≤ 1099511000000) : (readDHCP l).1.os.length ≤ 4611686018427387904 := by
  unfold readDHCP
  split
  · exact Nat.zero_le _
  · split
    · exact Nat.zero_le _
    · split
      · exact Nat.zero_le _
      · next os h =>
        have h1 := optRd_wt _ _ _ _ h
        have h2 := overs_wt os (sub l 44 108) (sub l 108 236)
        have a1 := sub_le l 44 108
        have a2 := sub_le l 108 236
        rw [List.length_drop] at h1
        simp only [wtO] at h1
        split
        · next a h3 => rw [h3] at h2; have := wtO_len a; simp only at h2 ⊢; omega
        · exact Nat.zero_le _

theorem neq_self {P : Program} (w : World) {t : TypeId} {xs : Array Value} (h : selfEq P 8 t (.agg xs) = true) : (binOp .neq t (.agg xs) (.agg xs)).run P w = .ok (.bool false) w := by
  rw [run_neq_struct w t xs xs, show (10000 : Nat) = 9992 + 8 from rfl, equalIn_self w 9992 8 t (.agg xs) h]; rfl
set_option maxRecDepth 20000 in
set_option maxHeartbeats 1000000 in
attribute [-go_sem] run_eql_struct run_neq_struct run_equalIn_agg in
theorem sameOpts (os : List OptD) (A1 A2 : Option Addr) (n c1 c2 : Nat) (w : World) (hn : n ≤ 4611686018427387904) (h1 : SlR w noB 2 A1 n (optC os)) (h2 : SlR w noB 2 A2 n (optC os)) :
    Calls Try.prog 10 #[.slice A1 n c1, .slice A2 n c2] w fun e w' => e = .returned (.bool true) ∧ Fr noB w w' := by
  have hlen := h1.opt
  go_enter Try.func10, Try.ntmps10
  go_wp2_with fail
  go_loopw [13] (fun iv wr => ∃ (i : Nat), i ≤ n ∧ iv = .int .i64 (i : Int) ∧ Fr noB w wr) (fun iv _ => n - (intOf iv).toNat)
  case atStart => exact ⟨0, by omega, rfl, Fr.refl _ _⟩
  case round =>
    obtain ⟨i, hi, rfl, hw⟩ := hrel
    by_cases hlt : i < n
    · obtain ⟨o, ho⟩ : ∃ o, os[i]? = some o := ⟨_, List.getElem?_eq_getElem (by omega)⟩
      obtain ⟨ad, rfl, a1, a2⟩ := (h1.keep hw).optAt ho
      obtain ⟨bd, rfl, b1, b2⟩ := (h2.keep hw).optAt ho
      clear ho
      have hE : ∀ w, (binOp .neq 56 (.agg #[.int .u8 (o.code.toNat : Int), .string (bs o.data)]) (.agg #[.int .u8 (o.code.toNat : Int), .string (bs o.data)])).run Try.prog w = .ok (.bool false) w := fun w => neq_self w (by kernel_rfl)
      go_wp2_with fail
      go_quiet (fail)
      go_wp2_with fail
      exact ⟨⟨i + 1, by omega, by rw [Int.natCast_add]; rfl, by first | exact hw.drewN _ | exact hw.drew | exact hw⟩, by simp only [intOf]; omega⟩
    · obtain rfl : i = n := by omega
      go_wp2_with fail
      go_ret
      exact ⟨rfl, hw⟩
set_option maxRecDepth 20000 in
set_option maxHeartbeats 2000000 in
attribute [-go_sem] run_eql_struct run_neq_struct run_equalIn_agg in
theorem sameDhc (d : DhcD) (A1 A2 : Option Addr) (c1 c2 : Nat) (w : World) (hn : d.os.length ≤ 4611686018427387904) (h1 : SlR w noB 2 A1 d.os.length (optC d.os)) (h2 : SlR w noB 2 A2 d.os.length (optC d.os)) :
    Calls Try.prog 15 #[.agg (dhcC d A1 c1), .agg (dhcC d A2 c2)] w fun e w' => e = .returned (.bool true) ∧ Fr noB w w' := by
  obtain ⟨reply, xid, client, yours, next, ⟨m0, m1, m2, m3, m4, m5⟩, os⟩ := d
  simp only [dhcC] at *
  have hE : ∀ w, (binOp .eql 25 (.agg #[.int .u8 (m0.toNat : Int), .int .u8 (m1.toNat : Int), .int .u8 (m2.toNat : Int), .int .u8 (m3.toNat : Int), .int .u8 (m4.toNat : Int), .int .u8 (m5.toNat : Int)]) (.agg #[.int .u8 (m0.toNat : Int), .int .u8 (m1.toNat : Int), .int .u8 (m2.toNat : Int), .int .u8 (m3.toNat : Int), .int .u8 (m4.toNat : Int), .int .u8 (m5.toNat : Int)])).run Try.prog w = .ok (.bool true) w := fun w => eql_self w (by kernel_rfl)
  have hG : Try.prog.eqGuardType Try.prog.depth 25 = false := by kernel_rfl
  go_enter Try.func15, Try.ntmps15
  go_wp2_with fail
  have hfa : Fr noB w ((w.alloc (.cells #[.bool reply, .int .u32 (xid : Int), .int .u32 (client : Int), .int .u32 (yours : Int), .int .u32 (next : Int), .int .u8 (m0.toNat : Int), .int .u8 (m1.toNat : Int), .int .u8 (m2.toNat : Int), .int .u8 (m3.toNat : Int), .int .u8 (m4.toNat : Int), .int .u8 (m5.toNat : Int), .slice A1 os.length c1] 28)).alloc (.cells #[.bool reply, .int .u32 (xid : Int), .int .u32 (client : Int), .int .u32 (yours : Int), .int .u32 (next : Int), .int .u8 (m0.toNat : Int), .int .u8 (m1.toNat : Int), .int .u8 (m2.toNat : Int), .int .u8 (m3.toNat : Int), .int .u8 (m4.toNat : Int), .int .u8 (m5.toNat : Int), .slice A2 os.length c2] 28)) := ((Fr.refl _ _).alloc _).alloc _
  refine (sameOpts os A1 A2 os.length c1 c2 _ hn ((h1.keep ((Fr.refl noB w).alloc (.cells #[.bool reply, .int .u32 (xid : Int), .int .u32 (client : Int), .int .u32 (yours : Int), .int .u32 (next : Int), .int .u8 (m0.toNat : Int), .int .u8 (m1.toNat : Int), .int .u8 (m2.toNat : Int), .int .u8 (m3.toNat : Int), .int .u8 (m4.toNat : Int), .int .u8 (m5.toNat : Int), .slice A1 os.length c1] 28))).keep ((Fr.refl noB _).alloc (.cells #[.bool reply, .int .u32 (xid : Int), .int .u32 (client : Int), .int .u32 (yours : Int), .int .u32 (next : Int), .int .u8 (m0.toNat : Int), .int .u8 (m1.toNat : Int), .int .u8 (m2.toNat : Int), .int .u8 (m3.toNat : Int), .int .u8 (m4.toNat : Int), .int .u8 (m5.toNat : Int), .slice A2 os.length c2] 28))) ((h2.keep ((Fr.refl noB w).alloc (.cells #[.bool reply, .int .u32 (xid : Int), .int .u32 (client : Int), .int .u32 (yours : Int), .int .u32 (next : Int), .int .u8 (m0.toNat : Int), .int .u8 (m1.toNat : Int), .int .u8 (m2.toNat : Int), .int .u8 (m3.toNat : Int), .int .u8 (m4.toNat : Int), .int .u8 (m5.toNat : Int), .slice A1 os.length c1] 28))).keep ((Fr.refl noB _).alloc (.cells #[.bool reply, .int .u32 (xid : Int), .int .u32 (client : Int), .int .u32 (yours : Int), .int .u32 (next : Int), .int .u8 (m0.toNat : Int), .int .u8 (m1.toNat : Int), .int .u8 (m2.toNat : Int), .int .u8 (m3.toNat : Int), .int .u8 (m4.toNat : Int), .int .u8 (m5.toNat : Int), .slice A2 os.length c2] 28)))).mono ?_
  rintro e w1 ⟨rfl, hf⟩
  have hfb := hfa.none hf
  go_wp2_with fail
  go_ret
  exact ⟨rfl, hfb⟩

set_option maxRecDepth 20000 in
set_option maxHeartbeats 2000000 in
theorem lawDHCPReads (l : List UInt8) (w : World) (hl : l.length ≤ 9223372036854775807) :
    Calls Try.prog 5 #[.string (bs l)] w (fun e w' => e = .returned (.bool true) ∧ Fr noB w w') := by
  by_cases hb : 262144 < l.length
  · have hb' : (262144 : Int) < l.length := by omega
    go_enter Try.func5, Try.ntmps5
    go_wp2_with fail
    go_ret
    exact ⟨rfl, Fr.refl _ _⟩
  have hb' : ¬ (262144 : Int) < l.length := by omega
  go_enter Try.func5, Try.ntmps5
  go_wp2_with fail
  refine (bootReadDHCP l _ (by omega)).mono ?_
  rintro e w1 ⟨⟨A1, c1, rfl, hA1⟩, hf1⟩
  have href := fun w => refReadDHCP l w (by omega)
  have hos : (readDHCP l).1.os.length ≤ 4611686018427387904 := by
    have h := hA1.opt
    exact readDHCP_len l (by omega)
  unfold dhcPost at href
  generalize hr : readDHCP l = r at *
  obtain ⟨d, k⟩ := r
  have Hr := Lib.hid hr
  clear hr hb
  have hsame := fun A1 A2 c1 c2 w => sameDhc d A1 A2 c1 c2 w hos
  have hin := Lib.hid (dhc_info d A1 c1)
  obtain ⟨reply, xid, client, yours, next, ⟨m0, m1, m2, m3, m4, m5⟩, os⟩ := d
  simp only [dhcC] at href hsame hin ⊢
  simp only at hA1 hos
  go_wp2_with fail
  have hx1 := Bk.new w1 28 #[.bool reply, .int .u32 (xid : Int), .int .u32 (client : Int), .int .u32 (yours : Int), .int .u32 (next : Int), .int .u8 (m0.toNat : Int), .int .u8 (m1.toNat : Int), .int .u8 (m2.toNat : Int), .int .u8 (m3.toNat : Int), .int .u8 (m4.toNat : Int), .int .u8 (m5.toNat : Int), .slice A1 os.length c1]
  have hf2 := hf1.alloc (.cells #[.bool reply, .int .u32 (xid : Int), .int .u32 (client : Int), .int .u32 (yours : Int), .int .u32 (next : Int), .int .u8 (m0.toNat : Int), .int .u8 (m1.toNat : Int), .int .u8 (m2.toNat : Int), .int .u8 (m3.toNat : Int), .int .u8 (m4.toNat : Int), .int .u8 (m5.toNat : Int), .slice A1 os.length c1] 28)
  have hA2 := (hA1.sub (T := noB) (fun _ _ x => x.elim)).keep ((Fr.refl noB w1).alloc (.cells #[.bool reply, .int .u32 (xid : Int), .int .u32 (client : Int), .int .u32 (yours : Int), .int .u32 (next : Int), .int .u8 (m0.toNat : Int), .int .u8 (m1.toNat : Int), .int .u8 (m2.toNat : Int), .int .u8 (m3.toNat : Int), .int .u8 (m4.toNat : Int), .int .u8 (m5.toNat : Int), .slice A1 os.length c1] 28))
  generalize w1.alloc (.cells #[.bool reply, .int .u32 (xid : Int), .int .u32 (client : Int), .int .u32 (yours : Int), .int .u32 (next : Int), .int .u8 (m0.toNat : Int), .int .u8 (m1.toNat : Int), .int .u8 (m2.toNat : Int), .int .u8 (m3.toNat : Int), .int .u8 (m4.toNat : Int), .int .u8 (m5.toNat : Int), .slice A1 os.length c1] 28) = w2 at *
  generalize w1.heap.size = g at *
  refine (href w2).mono ?_
  clear href
  rintro e w3 ⟨⟨A2, c2, rfl, hB⟩, hf3⟩
  replace hx1 := hx1.keep hf3 (fun x => x)
  replace hA2 := hA2.keep hf3
  replace hf3 := hf2.none hf3
  have hlt := hx1.lt
  have hB2 := (hB.sub (T := noB) (fun _ _ x => x.elim)).keep ((Fr.refl noB w3).alloc (.cells #[.bool reply, .int .u32 (xid : Int), .int .u32 (client : Int), .int .u32 (yours : Int), .int .u32 (next : Int), .int .u8 (m0.toNat : Int), .int .u8 (m1.toNat : Int), .int .u8 (m2.toNat : Int), .int .u8 (m3.toNat : Int), .int .u8 (m4.toNat : Int), .int .u8 (m5.toNat : Int), .slice A2 os.length c2] 28))
  have hA3 := hA2.keep ((Fr.refl noB w3).alloc (.cells #[.bool reply, .int .u32 (xid : Int), .int .u32 (client : Int), .int .u32 (yours : Int), .int .u32 (next : Int), .int .u8 (m0.toNat : Int), .int .u8 (m1.toNat : Int), .int .u8 (m2.toNat : Int), .int .u8 (m3.toNat : Int), .int .u8 (m4.toNat : Int), .int .u8 (m5.toNat : Int), .slice A2 os.length c2] 28))
  have hx2 := hx1.alloc (.cells #[.bool reply, .int .u32 (xid : Int), .int .u32 (client : Int), .int .u32 (yours : Int), .int .u32 (next : Int), .int .u8 (m0.toNat : Int), .int .u8 (m1.toNat : Int), .int .u8 (m2.toNat : Int), .int .u8 (m3.toNat : Int), .int .u8 (m4.toNat : Int), .int .u8 (m5.toNat : Int), .slice A2 os.length c2] 28)
  have hc := hx2.cells
  have hf4 := hf3.alloc (.cells #[.bool reply, .int .u32 (xid : Int), .int .u32 (client : Int), .int .u32 (yours : Int), .int .u32 (next : Int), .int .u8 (m0.toNat : Int), .int .u8 (m1.toNat : Int), .int .u8 (m2.toNat : Int), .int .u8 (m3.toNat : Int), .int .u8 (m4.toNat : Int), .int .u8 (m5.toNat : Int), .slice A2 os.length c2] 28)
  go_wp2_with fail
  refine (hsame A1 A2 c1 c2 _ hA3 hB2).mono ?_
  rintro e w5 ⟨rfl, hf5⟩
  have hf6 := hf4.none hf5
  go_wp2_with fail
  go_ret
  exact ⟨rfl, hf6⟩
end Go.Proofs.Ytcbkaiakdhiloab
