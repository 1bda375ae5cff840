/- boot.WriteDHCP, the law's weight, and netbootlaw.DHCPWrites walked. -/
import Derived.Test.YtcbkaiakdhiloabRefDWr
import Derived.Test.YtcbkaiakdhiloabDhcLaw
set_option linter.unusedSimpArgs false
set_option linter.unusedVariables false
namespace Go.Proofs.Ytcbkaiakdhiloab
open Go.RowKit Go.Proofs
attribute [local go_sem] bs_size bs_append bs_extract bs_toList

set_option maxRecDepth 20000 in
set_option maxHeartbeats 1000000 in
theorem bootWriteDHCP (rp : Bool) (xid client yours next : Nat) (m0 m1 m2 m3 m4 m5 : UInt8) (os : List OptD) (Ao : Option Addr) (cap : Nat) (w : World)
    (hxid : xid < 4294967296) (hcl : client < 4294967296) (hyo : yours < 4294967296) (hnx : next < 4294967296) (hA : SlR w noB 2 Ao os.length (optC os)) (hwt : wtO os ≤ 2097152) :
    Calls Try.prog 8 #[.agg #[.bool rp, .int .u32 (xid : Int), .int .u32 (client : Int), .int .u32 (yours : Int), .int .u32 (next : Int), .int .u8 (m0.toNat : Int), .int .u8 (m1.toNat : Int), .int .u8 (m2.toNat : Int), .int .u8 (m3.toNat : Int), .int .u8 (m4.toNat : Int), .int .u8 (m5.toNat : Int), .slice Ao os.length cap]] w (strPost (wrDHCP rp xid client yours next [m0, m1, m2, m3, m4, m5] os) w) := by
  have hpa := (Bk.new w 28 #[.bool rp, .int .u32 (xid : Int), .int .u32 (client : Int), .int .u32 (yours : Int), .int .u32 (next : Int), .int .u8 (m0.toNat : Int), .int .u8 (m1.toNat : Int), .int .u8 (m2.toNat : Int), .int .u8 (m3.toNat : Int), .int .u8 (m4.toNat : Int), .int .u8 (m5.toNat : Int), .slice Ao os.length cap]).cells
  have hf0 : Fr noB w (w.alloc (.cells #[.bool rp, .int .u32 (xid : Int), .int .u32 (client : Int), .int .u32 (yours : Int), .int .u32 (next : Int), .int .u8 (m0.toNat : Int), .int .u8 (m1.toNat : Int), .int .u8 (m2.toNat : Int), .int .u8 (m3.toNat : Int), .int .u8 (m4.toNat : Int), .int .u8 (m5.toNat : Int), .slice Ao os.length cap] 28)) := (Fr.refl _ _).alloc _
  have hA1 := hA.keep hf0
  go_enter Try.func8, Try.ntmps8
  go_wp2_with fail
  refine (dhcpWrite rp xid client yours next m0 m1 m2 m3 m4 m5 os Ao cap _ hxid hcl hyo hnx hA1 hwt).mono ?_
  rintro e w2 ⟨rfl, hf2⟩
  generalize wrDHCP rp xid client yours next [m0, m1, m2, m3, m4, m5] os = R at *
  go_wp2_with fail
  go_ret2
  exact ⟨rfl, hf0.none hf2⟩

def dsum : List OptD → Nat
  | [] => 0
  | o :: r => o.data.length + dsum r
theorem dsum_wtO : ∀ os : List OptD, wtO os = os.length + dsum os
  | [] => rfl
  | o :: r => by have := dsum_wtO r; simp only [wtO, dsum, List.length_cons]; omega
theorem dsum_append : ∀ a b : List OptD, dsum (a ++ b) = dsum a + dsum b
  | [], b => by simp [dsum]
  | o :: r, b => by simp only [List.cons_append, dsum, dsum_append r b]; omega
theorem dsum_succ {os : List OptD} {i : Nat} {o : OptD} (h : os[i]? = some o) : dsum (os.take (i + 1)) = dsum (os.take i) + o.data.length := by
  have hi : i < os.length := by
    rcases Nat.lt_or_ge i os.length with h1 | h1
    · exact h1
    · rw [List.getElem?_eq_none h1] at h; cases h
  rw [List.getElem?_eq_getElem hi] at h
  cases h
  rw [List.take_succ_eq_append_getElem hi, dsum_append]; simp [dsum]
theorem dsum_take : ∀ (os : List OptD) (i : Nat), dsum (os.take i) ≤ dsum os
  | [], i => by simp
  | o :: r, 0 => Nat.zero_le _
  | o :: r, i + 1 => by have := dsum_take r i; simp only [List.take_succ_cons, dsum]; omega
set_option maxRecDepth 20000 in
set_option maxHeartbeats 1000000 in
theorem lawWeight (A : Option Addr) (n cap : Nat) (os : List OptD) (w : World) (hA : SlR w noB 2 A n (optC os)) (hwt : wtO os ≤ 2097152) :
    Calls Try.prog 7 #[.slice A n cap, .slice none 0 0] w fun e w' => e = .returned (.int .i64 (wtO os : Int)) ∧ Fr noB w w' := by
  have hlen := hA.opt
  have hlw := wtO_len os
  have hds := dsum_wtO os
  go_enter Try.func7, Try.ntmps7
  have hnb : n ≤ 2097152 := by omega
  have Hds := Lib.hid hds
  have Hlen := Lib.hid hlen
  clear hds hlen
  go_wp2_with fail
  go_loopw [5, 17] (fun nv iv wr => ∃ (i : Nat) (m : Nat), i ≤ n ∧ iv = .int .i64 (i : Int) ∧ nv = .int .i64 (m : Int) ∧ m = n + dsum (os.take i) ∧ Fr noB w wr) (fun _ iv _ => n - (intOf iv).toNat)
  case atStart => exact ⟨0, n, by omega, rfl, rfl, by simp [dsum], Fr.refl _ _⟩
  case round =>
    obtain ⟨i, m, hi, rfl, rfl, hm, hw⟩ := hrel
    have htk := dsum_take os i
    have hmb : m ≤ 2097152 := by have := Hds.out; have := Hlen.out; omega
    have Hm := Lib.hid hm
    clear hm htk
    by_cases hlt : i < n
    · obtain ⟨o, ho⟩ : ∃ o, os[i]? = some o := ⟨_, List.getElem?_eq_getElem (by rw [Hlen.out]; omega)⟩
      obtain ⟨ad, rfl, c1, c2⟩ := (hA.keep hw).optAt ho
      have hol := wtO_at os i o ho
      have Hs := Lib.hid (dsum_succ ho)
      clear ho
      have hne := hw.alloc (.cells #[.int .u8 (o.code.toNat : Int), .string (bs o.data)] 56)
      go_wp2_with fail
      exact ⟨⟨i + 1, m + o.data.length, by omega, by rw [Int.natCast_add]; rfl, by rw [Int.natCast_add], by have := Hs.out; have := Hm.out; omega, hne⟩, by simp only [intOf]; omega⟩
    · obtain rfl : i = n := by omega
      have hfin : m = wtO os := by
        have h1 := Hm.out
        rw [List.take_of_length_le (by rw [Hlen.out]; omega)] at h1
        have := Hds.out; have := Hlen.out; omega
      have Hfin := Lib.hid hfin
      clear hfin
      go_wp2_with fail
      refine wp_loop_once ?_
      go_wp2_with fail
      go_ret
      rw [← Hfin.out]
      exact ⟨rfl, hw⟩

set_option maxRecDepth 20000 in
set_option maxHeartbeats 2000000 in
theorem lawDHCPWrites (rp : Bool) (xid client yours next : Nat) (m0 m1 m2 m3 m4 m5 : UInt8) (os : List OptD) (Ao : Option Addr) (cap : Nat) (w : World)
    (hxid : xid < 4294967296) (hcl : client < 4294967296) (hyo : yours < 4294967296) (hnx : next < 4294967296) (hA : SlR w noB 2 Ao os.length (optC os)) (hwt : wtO os ≤ 2097152) :
    Calls Try.prog 3 #[.agg #[.bool rp, .int .u32 (xid : Int), .int .u32 (client : Int), .int .u32 (yours : Int), .int .u32 (next : Int), .int .u8 (m0.toNat : Int), .int .u8 (m1.toNat : Int), .int .u8 (m2.toNat : Int), .int .u8 (m3.toNat : Int), .int .u8 (m4.toNat : Int), .int .u8 (m5.toNat : Int), .slice Ao os.length cap]] w (fun e w' => e = .returned (.bool true) ∧ Fr noB w w') := by
  have hlw := wtO_len os
  have hpa := Bk.new w 28 #[.bool rp, .int .u32 (xid : Int), .int .u32 (client : Int), .int .u32 (yours : Int), .int .u32 (next : Int), .int .u8 (m0.toNat : Int), .int .u8 (m1.toNat : Int), .int .u8 (m2.toNat : Int), .int .u8 (m3.toNat : Int), .int .u8 (m4.toNat : Int), .int .u8 (m5.toNat : Int), .slice Ao os.length cap]
  have hpc := hpa.cells
  have hf0 : Fr noB w (w.alloc (.cells #[.bool rp, .int .u32 (xid : Int), .int .u32 (client : Int), .int .u32 (yours : Int), .int .u32 (next : Int), .int .u8 (m0.toNat : Int), .int .u8 (m1.toNat : Int), .int .u8 (m2.toNat : Int), .int .u8 (m3.toNat : Int), .int .u8 (m4.toNat : Int), .int .u8 (m5.toNat : Int), .slice Ao os.length cap] 28)) := (Fr.refl _ _).alloc _
  have hA1 := hA.keep hf0
  go_enter Try.func3, Try.ntmps3
  go_wp2_with fail
  generalize w.alloc (.cells #[.bool rp, .int .u32 (xid : Int), .int .u32 (client : Int), .int .u32 (yours : Int), .int .u32 (next : Int), .int .u8 (m0.toNat : Int), .int .u8 (m1.toNat : Int), .int .u8 (m2.toNat : Int), .int .u8 (m3.toNat : Int), .int .u8 (m4.toNat : Int), .int .u8 (m5.toNat : Int), .slice Ao os.length cap] 28) = w1 at *
  refine (lawWeight Ao os.length cap os w1 hA1 hwt).mono ?_
  rintro e w2 ⟨rfl, hf2⟩
  have hpa2 := hpa.keep hf2 (fun x => x)
  have hpc2 := hpa2.cells
  have hA2 := hA1.keep hf2
  have hF2 := hf0.none hf2
  obtain ⟨wt, hwe⟩ : ∃ k, wtO os = k := ⟨_, rfl⟩
  rw [hwe] at hwt hlw
  rw [hwe]
  have Hwe := Lib.hid hwe
  clear hwe hpc hpa hA1 hf0 hf2
  by_cases hbig : 262144 < wt
  · have hbi : (262144 : Int) < (wt : Int) := by omega
    go_wp2_with fail
    go_ret
    exact ⟨rfl, hF2⟩
  have hbi : ¬ (262144 : Int) < (wt : Int) := by omega
  obtain ⟨n, hn⟩ : ∃ n, os.length = n := ⟨_, rfl⟩
  rw [hn] at hA2 hlw hpa2 hpc2
  rw [hn]
  have Hn := Lib.hid hn
  clear hn hbig
  obtain ⟨i0, hi0, hz0, hz1, hz2⟩ := info_parts opt_info
  have hO0 : w2.ownsRow w2.heap.size 56 2 (.slice none 0 0) 0 [] := ⟨rfl, .inl ⟨rfl, rfl⟩⟩
  go_wp2_with (at_builtin
               go_must (refine wpList_app rfl (.const (.slice none 0 0)) (.tmp 13) _ rfl w2.heap.size 56 i0 _ 2 24 Try.underlying26 hi0 hz0 hz1 hz2 rfl (by omega) none 0 0 _ rfl hO0 noB Ao n _ _ rfl hA2 optC_one (by unfold maxLen; omega) (by omega) (Nat.le_refl _) ?_)
               intro A3 cap3 w3 hap
               have hpc3 := (hpa2.keep (S := noB) (hap.fr.mono (by rintro b _ ⟨a, e, _⟩; cases e)) (fun x => x)).cells)
  have hO3 : w3.ownsRow w2.heap.size 56 2 (.slice A3 n cap3) n (optC os) := by have := hap.own; rwa [Nat.zero_add, List.nil_append] at this
  have hf3 : Fr noB w2 w3 := hap.fr.mono (by rintro b _ ⟨a, e, _⟩; cases e)
  have hA3 := own_slr hO3
  have hA4 := hA2.keep hf3
  have hF3 := hF2.none hf3
  have hpa3 := hpa2.keep hf3 (fun x => x)
  clear hO3 hap hO0 hpc2 hpa2 hA2 hF2 hf3 hi0 hz0 hz1 hz2
  have hbw := bootWriteDHCP rp xid client yours next m0 m1 m2 m3 m4 m5 os Ao cap w3 hxid hcl hyo hnx (by rw [Hn.out]; exact hA4) (by rw [Hwe.out]; omega)
  have hrw := fun w hA => refWriteDHCP rp xid client yours next m0 m1 m2 m3 m4 m5 os Ao cap w hxid hcl hyo hnx hA (by rw [Hwe.out]; omega)
  rw [Hn.out] at hbw hrw
  unfold strPost at hbw hrw
  obtain ⟨R, hR⟩ : ∃ R, wrDHCP rp xid client yours next [m0, m1, m2, m3, m4, m5] os = R := ⟨_, rfl⟩
  rw [hR] at hbw hrw
  have Hbw := Lib.hid hbw
  have Hrw := Lib.hid hrw
  clear hR hbw hrw
  go_wp2_with fail
  refine Hbw.out.mono ?_
  rintro e w4 ⟨rfl, hf4⟩
  have hA5 := hA4.keep hf4
  have hA6 := hA3.keep hf4
  have hF4 := hF3.none hf4
  have hpa4 := hpa3.keep hf4 (fun x => x)
  have hpc4 := hpa4.cells
  clear hpc3 hpa3 hA4 hA3 hF3 hf4
  go_wp2_with fail
  refine (Hrw.out w4 hA5).mono ?_
  rintro e w5 ⟨rfl, hf5⟩
  have hA7 := hA5.keep hf5
  have hA8 := hA6.keep hf5
  have hF5 := hF4.none hf5
  have hpc5 := (hpa4.keep hf5 (fun x => x)).cells
  clear hpc4 hpa4 hA5 hA6 hF4 hf5
  go_wp2_with fail
  refine (sameOpts os A3 Ao n cap3 cap w5 (by omega) hA8 hA7).mono ?_
  rintro e w6 ⟨rfl, hf6⟩
  go_wp2_with fail
  go_ret
  exact ⟨rfl, hF5.none hf6⟩
end Go.Proofs.Ytcbkaiakdhiloab
