/- netbootref.WriteDHCP: the reference's writing of a message of DHCP. Written by mkrefdwr.py. -/
import Derived.Test.YtcbkaiakdhiloabRefDW
set_option linter.unusedSimpArgs false
set_option linter.unusedVariables false
namespace Go.Proofs.Ytcbkaiakdhiloab
open Go.RowKit Go.Proofs
attribute [local go_sem] bs_size bs_append bs_extract bs_toList

set_option maxRecDepth 20000 in
set_option maxHeartbeats 2000000 in
theorem refWriteDHCP (rp : Bool) (xid client yours next : Nat) (m0 m1 m2 m3 m4 m5 : UInt8) (os : List OptD) (Ao : Option Addr) (cap : Nat) (w : World)
    (hxid : xid < 4294967296) (hcl : client < 4294967296) (hyo : yours < 4294967296) (hnx : next < 4294967296) (hA : SlR w noB 2 Ao os.length (optC os)) (hwt : wtO os ≤ 2097152) :
    Calls Try.prog 9 #[.agg #[.bool rp, .int .u32 (xid : Int), .int .u32 (client : Int), .int .u32 (yours : Int), .int .u32 (next : Int), .int .u8 (m0.toNat : Int), .int .u8 (m1.toNat : Int), .int .u8 (m2.toNat : Int), .int .u8 (m3.toNat : Int), .int .u8 (m4.toNat : Int), .int .u8 (m5.toNat : Int), .slice Ao os.length cap]] w (strPost (wrDHCP rp xid client yours next [m0, m1, m2, m3, m4, m5] os) w) := by
  obtain ⟨n, hn⟩ : ∃ n, os.length = n := ⟨_, rfl⟩
  rw [hn] at hA ⊢
  have hpa := Bk.new w 28 #[.bool rp, .int .u32 (xid : Int), .int .u32 (client : Int), .int .u32 (yours : Int), .int .u32 (next : Int), .int .u8 (m0.toNat : Int), .int .u8 (m1.toNat : Int), .int .u8 (m2.toNat : Int), .int .u8 (m3.toNat : Int), .int .u8 (m4.toNat : Int), .int .u8 (m5.toNat : Int), .slice Ao n cap]
  have hpa0 := hpa.cells
  have hf0 : Fr noB w (w.alloc (.cells #[.bool rp, .int .u32 (xid : Int), .int .u32 (client : Int), .int .u32 (yours : Int), .int .u32 (next : Int), .int .u8 (m0.toNat : Int), .int .u8 (m1.toNat : Int), .int .u8 (m2.toNat : Int), .int .u8 (m3.toNat : Int), .int .u8 (m4.toNat : Int), .int .u8 (m5.toNat : Int), .slice Ao n cap] 28)) := (Fr.refl _ _).alloc _
  have hA1 := hA.keep hf0
  go_enter Try.func9, Try.ntmps9
  go_upto_if 9 with fail
  go_cut [4] from 8 (fun s4 wx => s4 = .string (bs (if rp then [2, 1, 6, 0] else [1, 1, 6, 0])) ∧ wx = w.alloc (.cells #[.bool rp, .int .u32 (xid : Int), .int .u32 (client : Int), .int .u32 (yours : Int), .int .u32 (next : Int), .int .u8 (m0.toNat : Int), .int .u8 (m1.toNat : Int), .int .u8 (m2.toNat : Int), .int .u8 (m3.toNat : Int), .int .u8 (m4.toNat : Int), .int .u8 (m5.toNat : Int), .slice Ao n cap] 28))
  case first =>
    cases rp
    · go_wp2_with fail
      go_meet
      case rel => exact ⟨rfl, rfl⟩
    · go_wp2_with fail
      go_meet
      case rel => exact ⟨rfl, rfl⟩
  case rest =>
  obtain ⟨rfl, rfl⟩ := hcut
  generalize w.alloc (.cells #[.bool rp, .int .u32 (xid : Int), .int .u32 (client : Int), .int .u32 (yours : Int), .int .u32 (next : Int), .int .u8 (m0.toNat : Int), .int .u8 (m1.toNat : Int), .int .u8 (m2.toNat : Int), .int .u8 (m3.toNat : Int), .int .u8 (m4.toNat : Int), .int .u8 (m5.toNat : Int), .slice Ao n cap] 28) = w1 at *
  obtain ⟨l1, hl1⟩ : ∃ l, (if rp then [2, 1, 6, 0] else [1, 1, 6, 0] : List UInt8) = l := ⟨_, rfl⟩
  have hn1 : l1.length = 4 := by rw [← hl1]; split <;> rfl
  rw [hl1]
  have Hl1 := Lib.hid hl1
  clear hl1
  have e2 : IntKind.i64.wrap (xid : Int) = xid := IntWalk.i64_in _ (by omega)
  have e2' : wrap64 (xid : Int) = xid := wr64 (by omega) (by omega)
  have hc00 : (⟨#[0, 0]⟩ : ByteArray) = bs [0, 0] := rfl
  go_wp2_with fail
  refine (refBig xid 4 w1 (by omega) (by omega)).mono ?_
  rintro e w2 ⟨rfl, hf2⟩
  have ht0 := big_length 4 xid
  obtain ⟨t0, ht⟩ : ∃ l, big 4 xid = l := ⟨_, rfl⟩
  rw [ht] at ht0
  rw [ht]
  have Ht := Lib.hid ht
  have hpa2 := hpa.keep hf2 (fun x => x)
  have hA2 := hA1.keep hf2
  have hF2 := hf0.none hf2
  have hpc2 := hpa2.cells
  clear ht hf2 hpa hpa0 hA1 hf0 e2 e2'
  go_upto_if 19 with fail
  go_cut [4] from 8 (fun s4 wx => s4 = .string (bs (l1 ++ (t0 ++ [0, 0]) ++ (if client = 0 then [128, 0] else [0, 0]))) ∧ wx = w2)
  case first =>
    have hc128 : (⟨#[128, 0]⟩ : ByteArray) = bs [128, 0] := rfl
    by_cases hc : client = 0
    · have hci : (client : Int) = 0 := by omega
      have HC := Lib.hid hc
      clear hc
      go_wp2_with fail
      go_meet
      case rel => exact ⟨by rw [if_pos HC.out]; simp, rfl⟩
    · have hci : ¬ (client : Int) = 0 := by omega
      have HC := Lib.hid hc
      clear hc
      go_wp2_with fail
      go_meet
      case rel => exact ⟨by rw [if_neg HC.out]; simp, rfl⟩
  case rest =>
  obtain ⟨rfl, rfl⟩ := hcut
  obtain ⟨l5, hl5⟩ : ∃ l, l1 ++ (t0 ++ [0, 0]) ++ (if client = 0 then [128, 0] else [0, 0]) = l := ⟨_, rfl⟩
  have hn5 : l5.length = 12 := by rw [← hl5]; simp only [List.length_append, hn1, ht0]; split <;> rfl
  rw [hl5]
  have Hl5 := Lib.hid hl5
  clear hl5 hpc2 hn1 ht0
  go_upto_region 8 with fail
  refine wp_at (c := regionOf Try.f9 8) (by kernel_rfl) (rdR8 w.heap.size rp xid client yours next n cap Ao m0 m1 m2 m3 m4 m5 l5 _ _ _ ⟨rfl, rfl⟩ rfl rfl hpa2 hcl hyo hnx (Lib.hid (by omega)) ?_)
  intro a8 w8 hs8 kp8 ho4 hf8
  have hhead : l5 ++ big 4 client ++ big 4 yours ++ big 4 next ++ big 4 0 ++ macB (m0, m1, m2, m3, m4, m5) ++ List.replicate (236 - List.length (α := UInt8) (l5 ++ big 4 client ++ big 4 yours ++ big 4 next ++ big 4 0 ++ macB (m0, m1, m2, m3, m4, m5))) (0 : UInt8) ++ [99, 130, 83, 99] = dhcHead rp xid client yours next [m0, m1, m2, m3, m4, m5] := by
    rw [← Hl5.out, ← Hl1.out, ← Ht.out]
    unfold dhcHead zeroTo
    have e0 : (if rp then [2, 1, 6, 0] else [1, 1, 6, 0] : List UInt8) ++ (big 4 xid ++ [0, 0]) ++ (if client = 0 then [128, 0] else [0, 0]) ++ big 4 client ++ big 4 yours ++ big 4 next ++ big 4 0 ++ macB (m0, m1, m2, m3, m4, m5) =
        [if rp then 2 else 1, 1, 6, 0] ++ big 4 xid ++ [0, 0] ++ (if client = 0 then [128, 0] else [0, 0]) ++ big 4 client ++ big 4 yours ++ big 4 next ++ big 4 0 ++ [m0, m1, m2, m3, m4, m5] := by
      cases rp <;> simp [macB]
    rw [e0]
  rw [hhead] at ho4
  obtain ⟨l9, hl9⟩ : ∃ l, dhcHead rp xid client yours next [m0, m1, m2, m3, m4, m5] = l := ⟨_, rfl⟩
  have hn9 : l9.length = 240 := by rw [← hl9]; exact dhcHead_length _ _ _ _ _ _ rfl
  rw [hl9] at ho4
  have Hl9 := Lib.hid hl9
  clear hl9 hhead Hl5 hn5 Hl1 Ht
  have hpa8 := hpa2.keep hf8 (fun x => x)
  have hA8 := hA2.keep hf8
  have hF8 := hF2.none hf8
  have hpc8 := hpa8.cells
  clear hpa2 hA2 hF2 hf8
  rw [kp8.eq_put (n := 100) [24, 25, 26, 27, 28, 29, 30, 31, 32, 33, 34, 35, 36, 37, 38, 39, 40, 41, 42, 43, 44, 4] ⟨rfl, rfl⟩ hs8 (by decide) (by decide)]
  simp only [List.foldl, Act.put, List.setIfInBounds_toArray, List.set_cons_succ, List.set_cons_zero, ho4]
  clear kp8 hs8 ho4
  generalize sl a8 = z8
  have hlw := wtO_len os
  go_wp2_with fail
  go_loopw [4, 48] (fun sv iv wr => ∃ (i : Nat), i ≤ n ∧ iv = .int .i64 (i : Int) ∧ sv = .string (bs (l9 ++ optsB (os.take i))) ∧ Fr noB w8 wr ∧ goodTo os i) (fun _ iv _ => n - (intOf iv).toNat)
  case atStart => exact ⟨0, by omega, rfl, by simp [optsB], Fr.refl _ _, fun j o h => absurd h (by omega)⟩
  case round =>
    obtain ⟨i, hi, rfl, rfl, hw, hgood⟩ := hrel
    have hbl : (l9 ++ optsB (os.take i)).length ≤ 20000000 := by
      have h1 := optsB_len (os.take i)
      have h2 := wtO_take os i
      rw [List.length_append]; omega
    obtain ⟨lb, hlb⟩ : ∃ lb, l9 ++ optsB (os.take i) = lb := ⟨_, rfl⟩
    rw [hlb] at hbl
    rw [hlb]
    have Hlb := Lib.hid hlb
    clear hlb
    by_cases hlt : i < n
    · obtain ⟨o, ho⟩ : ∃ o, os[i]? = some o := ⟨_, List.getElem?_eq_getElem (by omega)⟩
      obtain ⟨ad, rfl, c1, c2⟩ := (hA8.keep hw).optAt ho
      have hol := wtO_at os i o ho
      have Ho := Lib.hid ho
      have Hgood := Lib.hid hgood
      clear ho hgood hpc8
      have hfb : Fr noB w (wr.alloc (.cells #[.int .u8 (o.code.toNat : Int), .string (bs o.data)] 56)) := (hF8.none hw).alloc _
      have hfw : Fr noB w8 (wr.alloc (.cells #[.int .u8 (o.code.toNat : Int), .string (bs o.data)] 56)) := hw.alloc _
      have hpo := Bk.new wr 56 #[.int .u8 (o.code.toNat : Int), .string (bs o.data)]
      have Hfw := Lib.hid hfw
      have Hpo := Lib.hid hpo
      clear hfw hpo
      have hbadP : optBad o = true → wrDHCP rp xid client yours next [m0, m1, m2, m3, m4, m5] os = ([], 2) := by
        intro hb; unfold wrDHCP; rw [if_pos (List.any_eq_true.2 ⟨o, List.mem_of_getElem? Ho.out, hb⟩)]
      have HbadP := Lib.hid hbadP
      clear hbadP
      have hk : o.code = 0 ∨ o.code = 255 ∨ o.code = 52 ∨ (o.code ≠ 0 ∧ o.code ≠ 255 ∧ o.code ≠ 52) := by
        by_cases h1 : o.code = 0
        · exact .inl h1
        · by_cases h2 : o.code = 255
          · exact .inr (.inl h2)
          · by_cases h3 : o.code = 52
            · exact .inr (.inr (.inl h3))
            · exact .inr (.inr (.inr ⟨h1, h2, h3⟩))
      rcases hk with hk | hk | hk | ⟨k1, k2, k3⟩
      · have hki : (o.code.toNat : Int) = 0 := by rw [hk]; decide
        have Hno := Lib.hid (HbadP.out (by unfold optBad; rw [hk]; decide))
        rw [hki] at hfb
        clear hk HbadP
        go_wp2_with fail
        go_ret2
        exact ⟨by rw [Hno.out]; rfl, hfb⟩
      · have hki : (o.code.toNat : Int) = 255 := by rw [hk]; decide
        have Hno := Lib.hid (HbadP.out (by unfold optBad; rw [hk]; decide))
        rw [hki] at hfb
        clear hk HbadP
        go_wp2_with fail
        go_ret2
        exact ⟨by rw [Hno.out]; rfl, hfb⟩
      · have hki : (o.code.toNat : Int) = 52 := by rw [hk]; decide
        have Hno := Lib.hid (HbadP.out (by unfold optBad; rw [hk]; decide))
        rw [hki] at hfb
        clear hk HbadP
        go_wp2_with fail
        go_ret2
        exact ⟨by rw [Hno.out]; rfl, hfb⟩
      · have k1i : ((o.code.toNat : Int) == 0) = false := u8_ne k1
        have k2i : ((o.code.toNat : Int) == 255) = false := u8_ne k2
        have k3i : ((o.code.toNat : Int) == 52) = false := u8_ne k3
        have Hg1 : Hid (goodTo os (i + 1)) := Lib.hid (by
          intro j o' hj h2
          rcases Nat.lt_or_ge j i with h3 | h3
          · exact Hgood.out j o' h3 h2
          · obtain rfl : j = i := by omega
            rw [Ho.out] at h2; cases h2
            unfold optBad; simp [k1, k2, k3])
        clear k1 k2 k3 HbadP hfb
        go_wp2_with fail
        obtain ⟨go, hgo⟩ : ∃ go, wr.heap.size = go := ⟨_, rfl⟩
        rw [hgo] at Hpo
        rw [hgo]
        obtain ⟨w4, hw4⟩ : ∃ w4, wr.alloc (.cells #[.int .u8 (o.code.toNat : Int), .string (bs o.data)] 56) = w4 := ⟨_, rfl⟩
        rw [hw4] at Hfw Hpo
        rw [hw4]
        have hfw := Hfw.out
        have hpo := Hpo.out
        clear hgo hw4 Hfw Hpo c1 c2
        have hcl := chunk_len o.data.length o.code o.data (Nat.le_refl _)
        go_loopw [4, 7] (fun sv dv wx => ∃ (d l : List UInt8), sv = .string (bs l) ∧ dv = .string (bs d) ∧ Bk wx go 56 #[.int .u8 (o.code.toNat : Int), .string (bs o.data)] ∧ Fr noB w8 wx ∧
            l ++ chunk o.code d = lb ++ chunk o.code o.data ∧ d.length ≤ o.data.length) (fun _ dv _ => match dv with | .string s => s.size | _ => 0)
        case atStart => exact ⟨o.data, lb, rfl, rfl, hpo, hfw, rfl, Nat.le_refl _⟩
        case round =>
          obtain ⟨d, l, rfl, rfl, hpd, hfd, hld, hdl⟩ := hrel
          have hll : l.length ≤ 30000000 := by
            have h1 := congrArg List.length hld
            rw [List.length_append, List.length_append] at h1
            omega
          rcases Nat.lt_or_ge 255 d.length with h255 | h255
          · have h255i : (255 : Int) < (d.length : Int) := by omega
            go_upto_region 16 with fail
            refine wp_at (c := regionOf Try.f9 16) (by kernel_rfl) (rdR16 go o.code o.data d l _ _ _ ⟨rfl, rfl⟩ rfl rfl rfl hpd (by omega) (Lib.hid (by omega)) ?_)
            intro a17 w17 hs17 kp17 ho4 hf17
            have hpd2 := hpd.keep hf17 (fun x => x)
            have hfd2 := hfd.none hf17
            rw [kp17.eq_put (n := 100) [70, 71, 72, 73, 74, 75, 76, 77, 78, 4] ⟨rfl, rfl⟩ hs17 (by decide) (by decide)]
            simp only [List.foldl, Act.put, List.setIfInBounds_toArray, List.set_cons_succ, List.set_cons_zero, ho4]
            generalize sl a17 = z17
            go_wp2_with fail
            refine ⟨⟨d.drop 255, _, rfl, rfl, hpd2, hfd2, ?_, by rw [List.length_drop]; omega⟩, by simp [bs_size]; omega⟩
            rw [← hld, chunk_big o.code d h255]
            simp
          · have h255i : ¬ (255 : Int) < (d.length : Int) := by omega
            go_upto_region 18 with fail
            refine wp_at (c := regionOf Try.f9 18) (by kernel_rfl) (rdR18 go o.code o.data d l _ _ _ ⟨rfl, rfl⟩ rfl rfl rfl hpd (by omega) (Lib.hid (by omega)) (Lib.hid (by omega)) ?_)
            intro a17 w17 hs17 kp17 ho4 hf17
            have hfd2 := hfd.none hf17
            have e : l9 ++ optsB (os.take (i + 1)) = l ++ ([o.code, UInt8.ofNat d.length] ++ d) := by
              rw [optsB_succ Ho.out, ← List.append_assoc, Hlb.out, ← hld, chunk_small o.code d h255]
            rw [← e] at ho4
            rw [kp17.eq_put (n := 100) [81, 82, 83, 84, 85, 86, 87, 88, 89, 90, 91, 4] ⟨rfl, rfl⟩ hs17 (by decide) (by decide)]
            simp only [List.foldl, Act.put, List.setIfInBounds_toArray, List.set_cons_succ, List.set_cons_zero, ho4]
            generalize sl a17 = z17
            go_wp2_with fail
            exact ⟨⟨i + 1, by omega, by rw [Int.natCast_add]; rfl, rfl, hfd2, Hg1.out⟩, by simp only [intOf]; omega⟩
    · obtain rfl : i = n := by omega
      rw [List.take_of_length_le (by omega)] at Hlb
      have hg : os.any optBad = false := goodTo_any (by rw [hn]; exact hgood)
      have Hg := Lib.hid hg
      clear hg hgood
      have hc255 : (⟨#[255]⟩ : ByteArray) = bs [255] := rfl
      have hF9 := hF8.none hw
      go_wp2_with fail
      refine (refZero (lb ++ [255]) 300 wr (by simp; omega) (by omega)).mono ?_
      rintro e w21 ⟨rfl, hf21⟩
      have hfr := hF9.none hf21
      obtain ⟨lf, hlf⟩ : ∃ lf, dhcBody (dhcHead rp xid client yours next [m0, m1, m2, m3, m4, m5]) os = lf := ⟨_, rfl⟩
      have e10 : lb ++ [255] ++ List.replicate (300 - (lb ++ [255]).length) 0 = lf := by
        rw [← hlf, Hl9.out, ← Hlb.out]
        unfold dhcBody zeroTo optsB
        rfl
      have hsp : wrDHCP rp xid client yours next [m0, m1, m2, m3, m4, m5] os = if 1472 < lf.length then ([], 7) else (lf, 0) := by
        unfold wrDHCP
        rw [Hg.out, hlf]
        rfl
      have Hsp := Lib.hid hsp
      rw [e10]
      clear hlf hsp e10
      by_cases hlen : 1472 < lf.length
      · have hli : (1472 : Int) < (lf.length : Int) := by omega
        have Hr : Hid (wrDHCP rp xid client yours next [m0, m1, m2, m3, m4, m5] os = ([], 7)) := Lib.hid (by rw [Hsp.out, if_pos hlen])
        clear hlen
        go_wp2_with fail
        go_ret2
        exact ⟨by rw [Hr.out]; rfl, hfr⟩
      · have hli : ¬ (1472 : Int) < (lf.length : Int) := by omega
        have Hr : Hid (wrDHCP rp xid client yours next [m0, m1, m2, m3, m4, m5] os = (lf, 0)) := Lib.hid (by rw [Hsp.out, if_neg hlen])
        clear hlen
        go_wp2_with fail
        go_ret2
        exact ⟨by rw [Hr.out]; rfl, hfr⟩
end Go.Proofs.Ytcbkaiakdhiloab
