/- dhcp.Write: the program's writing of a message of DHCP. -/
import Derived.Test.YtcbkaiakdhiloabGreatDoorDhcWZ
import Derived.Test.YtcbkaiakdhiloabGreatDoorMam
import Derived.Deep.Cut
import Derived.Deep.CutRange
import Derived.Test.YtcbkaiakdhiloabGreatDoorMaj
import Derived.Lib.MapLaws
import Derived.Lib.TrimAscii
import Derived.Test.YtcbkaiakdhiloabGreatDoorShelf
import Derived.Test.YtcbkaiakdhiloabGreatDoorMac
set_option linter.unusedSimpArgs false
set_option linter.unusedVariables false
namespace Go.Proofs.YtcbkaiakdhiloabGreatDoor
open Go.RowKit Go.Proofs
attribute [local go_sem] bs_size bs_append bs_extract bs_toList

theorem chunk_len : ∀ (k : Nat) (c : UInt8) (d : List UInt8), d.length ≤ k → (chunk c d).length ≤ 3 * d.length + 2
  | 0, c, d, h => by
    rw [chunk_small c d (by omega)]; simp; omega
  | k + 1, c, d, h => by
    rcases Nat.lt_or_ge 255 d.length with h1 | h1
    · rw [chunk_big c d h1]
      have := chunk_len k c (d.drop 255) (by rw [List.length_drop]; omega)
      rw [List.length_drop] at this
      simp [List.length_take]; omega
    · rw [chunk_small c d h1]; simp; omega
def optsB (os : List OptD) : List UInt8 := os.flatMap fun o => chunk o.code o.data
theorem optsB_len : ∀ os : List OptD, (optsB os).length ≤ 3 * wtO os
  | [] => Nat.le_refl _
  | o :: r => by
    have h1 := chunk_len o.data.length o.code o.data (Nat.le_refl _)
    have h2 := optsB_len r
    unfold optsB at h2 ⊢
    rw [List.flatMap_cons, List.length_append]
    simp only [wtO]; omega
theorem optsB_succ {os : List OptD} {i : Nat} {o : OptD} (h : os[i]? = some o) : optsB (os.take (i + 1)) = optsB (os.take i) ++ chunk o.code o.data := by
  have hi : i < os.length := by
    rcases Nat.lt_or_ge i os.length with h1 | h1
    · exact h1
    · rw [List.getElem?_eq_none h1] at h; cases h
  rw [List.getElem?_eq_getElem hi] at h
  cases h
  unfold optsB
  rw [List.take_succ_eq_append_getElem hi, List.flatMap_append]; simp
theorem wtO_take : ∀ (os : List OptD) (i : Nat), wtO (os.take i) ≤ wtO os
  | [], i => by simp
  | o :: r, 0 => Nat.zero_le _
  | o :: r, i + 1 => by have := wtO_take r i; simp only [List.take_succ_cons, wtO]; omega

theorem SlR.fresh {w : World} {S : Nat → Prop} {size n : Nat} {A : Option Addr} {xs : List Value} (h : SlR w S size A n xs) : SlR w (fun k => w.heap.size ≤ k) size A n xs :=
  ⟨h.1, fun hn => by
    obtain ⟨ad, e, hb, hS, hc⟩ := h.2 hn
    exact ⟨ad, e, hb, fun x => by omega, hc⟩⟩
theorem take_drop_all (d : List UInt8) (n : Nat) : (d.take d.length).drop n = d.drop n := by rw [List.take_length]
/-- none of the first i options is bad -/
def goodTo (os : List OptD) (i : Nat) : Prop := ∀ j o, j < i → os[j]? = some o → optBad o = false
theorem goodTo_any {os : List OptD} (h : goodTo os os.length) : os.any optBad = false := by
  rw [List.any_eq_false]
  intro o ho
  obtain ⟨j, hj, e⟩ := List.getElem_of_mem ho
  have := h j o hj (by rw [List.getElem?_eq_getElem hj, e])
  simp [this]

set_option maxRecDepth 20000 in
set_option maxHeartbeats 2000000 in
theorem dhcpWrite (rp : Bool) (xid client yours next : Nat) (m0 m1 m2 m3 m4 m5 : UInt8) (os : List OptD) (Ao : Option Addr) (cap : Nat) (w : World)
    (hxid : xid < 4294967296) (hcl : client < 4294967296) (hyo : yours < 4294967296) (hnx : next < 4294967296) (hA : SlR w noB 2 Ao os.length (optC os)) (hwt : wtO os ≤ 2097152) :
    Calls Tryz.prog 81 #[.agg #[.bool rp, .int .u32 (xid : Int), .int .u32 (client : Int), .int .u32 (yours : Int), .int .u32 (next : Int), .int .u8 (m0.toNat : Int), .int .u8 (m1.toNat : Int), .int .u8 (m2.toNat : Int), .int .u8 (m3.toNat : Int), .int .u8 (m4.toNat : Int), .int .u8 (m5.toNat : Int), .slice Ao os.length cap]] w (strPost (wrDHCP rp xid client yours next [m0, m1, m2, m3, m4, m5] os) w) := by
  have hpa := (Bk.new w 75 #[.bool rp, .int .u32 (xid : Int), .int .u32 (client : Int), .int .u32 (yours : Int), .int .u32 (next : Int), .int .u8 (m0.toNat : Int), .int .u8 (m1.toNat : Int), .int .u8 (m2.toNat : Int), .int .u8 (m3.toNat : Int), .int .u8 (m4.toNat : Int), .int .u8 (m5.toNat : Int), .slice Ao os.length cap]).alloc (.cells #[.slice none 0 0] 125)
  have hbw := Bk.new (w.alloc (.cells #[.bool rp, .int .u32 (xid : Int), .int .u32 (client : Int), .int .u32 (yours : Int), .int .u32 (next : Int), .int .u8 (m0.toNat : Int), .int .u8 (m1.toNat : Int), .int .u8 (m2.toNat : Int), .int .u8 (m3.toNat : Int), .int .u8 (m4.toNat : Int), .int .u8 (m5.toNat : Int), .slice Ao os.length cap] 75)) 125 #[.slice none 0 0]
  rw [show (w.alloc (.cells #[.bool rp, .int .u32 (xid : Int), .int .u32 (client : Int), .int .u32 (yours : Int), .int .u32 (next : Int), .int .u8 (m0.toNat : Int), .int .u8 (m1.toNat : Int), .int .u8 (m2.toNat : Int), .int .u8 (m3.toNat : Int), .int .u8 (m4.toNat : Int), .int .u8 (m5.toNat : Int), .slice Ao os.length cap] 75)).heap.size = w.heap.size + 1 by simp] at hbw
  have hpa0 := (Bk.new w 75 #[.bool rp, .int .u32 (xid : Int), .int .u32 (client : Int), .int .u32 (yours : Int), .int .u32 (next : Int), .int .u8 (m0.toNat : Int), .int .u8 (m1.toNat : Int), .int .u8 (m2.toNat : Int), .int .u8 (m3.toNat : Int), .int .u8 (m4.toNat : Int), .int .u8 (m5.toNat : Int), .slice Ao os.length cap]).cells
  obtain ⟨n, hn⟩ : ∃ n, os.length = n := ⟨_, rfl⟩
  rw [hn] at hA hpa hbw hpa0 ⊢
  go_enter Tryz.func81, Tryz.ntmps81
  go_upto_if 12 with fail
  go_cut [4] from 11 (fun s4 wx => s4 = .int .u8 ((if rp then (2 : UInt8) else 1).toNat : Int) ∧ wx = w.alloc (.cells #[.bool rp, .int .u32 (xid : Int), .int .u32 (client : Int), .int .u32 (yours : Int), .int .u32 (next : Int), .int .u8 (m0.toNat : Int), .int .u8 (m1.toNat : Int), .int .u8 (m2.toNat : Int), .int .u8 (m3.toNat : Int), .int .u8 (m4.toNat : Int), .int .u8 (m5.toNat : Int), .slice Ao n cap] 75))
  case first =>
    cases rp
    · go_wp2_with fail
      go_meet
      case rel => exact ⟨rfl, rfl⟩
    · go_wp2_with fail
      go_meet
      case rel => exact ⟨rfl, rfl⟩
  case rest =>
  obtain ⟨rfl, rfl⟩ := hcut
  clear hpa0
  go_upto_region 5 with fail
  have hf0 : Fr noB w ((w.alloc (.cells #[.bool rp, .int .u32 (xid : Int), .int .u32 (client : Int), .int .u32 (yours : Int), .int .u32 (next : Int), .int .u8 (m0.toNat : Int), .int .u8 (m1.toNat : Int), .int .u8 (m2.toNat : Int), .int .u8 (m3.toNat : Int), .int .u8 (m4.toNat : Int), .int .u8 (m5.toNat : Int), .slice Ao n cap] 75)).alloc (.cells #[.slice none 0 0] 125)) := ((Fr.refl _ _).alloc _).alloc _
  have hsz : ((w.alloc (.cells #[.bool rp, .int .u32 (xid : Int), .int .u32 (client : Int), .int .u32 (yours : Int), .int .u32 (next : Int), .int .u8 (m0.toNat : Int), .int .u8 (m1.toNat : Int), .int .u8 (m2.toNat : Int), .int .u8 (m3.toNat : Int), .int .u8 (m4.toNat : Int), .int .u8 (m5.toNat : Int), .slice Ao n cap] 75)).alloc (.cells #[.slice none 0 0] 125)).heap.size = w.heap.size + 2 := by simp
  have hA1 := hA.keep hf0
  generalize (w.alloc (.cells #[.bool rp, .int .u32 (xid : Int), .int .u32 (client : Int), .int .u32 (yours : Int), .int .u32 (next : Int), .int .u8 (m0.toNat : Int), .int .u8 (m1.toNat : Int), .int .u8 (m2.toNat : Int), .int .u8 (m3.toNat : Int), .int .u8 (m4.toNat : Int), .int .u8 (m5.toNat : Int), .slice Ao n cap] 75)).alloc (.cells #[.slice none 0 0] 125) = w1 at *
  have hwr0 := Chn.start0 (Wr.zero hbw) rfl
  refine wp_at (c := regionOf Tryz.f81 5) (by kernel_rfl) (dwR5 w.heap.size rp xid client yours next n cap Ao m0 m1 m2 m3 m4 m5 (if rp then 2 else 1) w1 (w.heap.size + 1) w1.heap.size none [] _ _ _ ⟨rfl, rfl⟩ rfl rfl rfl hpa (by omega) hxid hcl hyo hnx hwr0 (by simp) ?_)
  intro a5 w5 A5 hs5 kp5 hch5
  obtain ⟨l5, hl5⟩ : ∃ l, ([] ++ [(if rp then (2 : UInt8) else 1), 1, 6, 0] ++ big 4 (xid : Int).toNat ++ bigs 2 [0] : List UInt8) = l := ⟨_, rfl⟩
  rw [hl5] at hch5
  have hn5 : l5.length = 10 := by rw [← hl5]; simp [big_length, bigs_length]
  have Hl5 := Lib.hid hl5
  clear hl5 hwr0 hbw
  have hp5 : w1.heap.size = w.heap.size + 2 := hsz
  have Hsz := Lib.hid hsz
  clear hsz hp5
  have e1 : sl a5 1 = .pointer (some ⟨w.heap.size, 0, none⟩) := kp5 1 (by decide)
  have e2 : sl a5 2 = .string ⟨#[]⟩ := kp5 2 (by decide)
  have e3 : sl a5 3 = .int .i64 0 := kp5 3 (by decide)
  have e5 : sl a5 5 = .pointer (some ⟨w.heap.size + 1, 0, none⟩) := kp5 5 (by decide)
  rw [dwF_of hs5]
  simp only [dwF, e1, e2, e3, e5]
  clear kp5 hs5 e1 e2 e3 e5
  generalize sl a5 = z
  have hc5 := (hpa.keep hch5.fr (by unfold oneB; omega)).cells
  go_upto_if 26 with fail
  clear hc5
  go_cut [] from 11 (fun wx => ∃ A, Chn w1 (w.heap.size + 1) w1.heap.size A (l5 ++ (if client = 0 then [128, 0] else [0, 0])) wx)
  case first =>
    rename_i J K' hJ hK'
    by_cases hc : client = 0
    · have hci : (client : Int) = 0 := by omega
      rw [if_pos hc] at hJ
      clear hc
      go_upto_region 7 with fail
      refine wp_at (c := regionOf Tryz.f81 7) (by kernel_rfl) (dwR7 w1 (w.heap.size + 1) w1.heap.size A5 l5 _ _ _ ⟨rfl, rfl⟩ rfl hch5 (by omega) ?_)
      intro a6 w6 A6 hs6 kp6 hch6
      refine hK' _ _ (Met.intro (hJ _ _ ?_))
      rw [dwF_of hs6]
      simp only [dwF, kp6 0 (by decide), kp6 1 (by decide), kp6 2 (by decide), kp6 3 (by decide), kp6 4 (by decide), kp6 5 (by decide), kp6 6 (by decide), kp6 7 (by decide), kp6 8 (by decide), kp6 9 (by decide), kp6 10 (by decide)]
      repeat apply Exists.intro
      exact ⟨⟨A6, hch6⟩, rfl⟩
    · have hci : ¬ (client : Int) = 0 := by omega
      rw [if_neg hc] at hJ
      clear hc
      go_upto_region 8 with fail
      refine wp_at (c := regionOf Tryz.f81 8) (by kernel_rfl) (dwR8 w1 (w.heap.size + 1) w1.heap.size A5 l5 _ _ _ ⟨rfl, rfl⟩ rfl hch5 (by omega) ?_)
      intro a6 w6 A6 hs6 kp6 hch6
      refine hK' _ _ (Met.intro (hJ _ _ ?_))
      rw [dwF_of hs6]
      simp only [dwF, kp6 0 (by decide), kp6 1 (by decide), kp6 2 (by decide), kp6 3 (by decide), kp6 4 (by decide), kp6 5 (by decide), kp6 6 (by decide), kp6 7 (by decide), kp6 8 (by decide), kp6 9 (by decide), kp6 10 (by decide)]
      repeat apply Exists.intro
      exact ⟨⟨A6, hch6⟩, rfl⟩
  case rest =>
  obtain ⟨A6, hch6⟩ := hcut
  rename_i w6
  go_upto_region 9 with fail
  refine wp_at (c := regionOf Tryz.f81 9) (by kernel_rfl) (dwR9 w.heap.size rp xid client yours next n cap Ao m0 m1 m2 m3 m4 m5 w1 (w.heap.size + 1) w1.heap.size A6 _ _ _ _ ⟨rfl, rfl⟩ rfl rfl hpa (by omega) hxid hcl hyo hnx hch6 (by simp only [List.length_append, hn5]; split <;> simp) ?_)
  intro a9 w9 A9 hs9 kp9 hch9
  have hhead : (l5 ++ (if client = 0 then [128, 0] else [0, 0]) ++ bigs 4 [(client : Int), (yours : Int), (next : Int), 0] ++ List.flatMap macB [(m0, m1, m2, m3, m4, m5)] ++
      List.replicate (236 - List.length (α := UInt8) (l5 ++ (if client = 0 then [128, 0] else [0, 0]) ++ bigs 4 [(client : Int), (yours : Int), (next : Int), 0] ++ List.flatMap macB [(m0, m1, m2, m3, m4, m5)])) (0 : UInt8) ++ List.flatten [[99, 130, 83, 99]]) = dhcHead rp xid client yours next [m0, m1, m2, m3, m4, m5] := by
    rw [← Hl5.out]
    unfold dhcHead zeroTo
    have e0 : ([] ++ [(if rp then (2 : UInt8) else 1), 1, 6, 0] ++ big 4 (xid : Int).toNat ++ bigs 2 [0] ++ (if client = 0 then [128, 0] else [0, 0]) ++ bigs 4 [(client : Int), (yours : Int), (next : Int), 0] ++ List.flatMap macB [(m0, m1, m2, m3, m4, m5)] : List UInt8) =
      [if rp then 2 else 1, 1, 6, 0] ++ big 4 xid ++ [0, 0] ++ (if client = 0 then [128, 0] else [0, 0]) ++ big 4 client ++ big 4 yours ++ big 4 next ++ big 4 0 ++ [m0, m1, m2, m3, m4, m5] := by
      simp [bigs, macB, big]
    rw [e0]
    simp
  rw [hhead] at hch9
  obtain ⟨l9, hl9⟩ : ∃ l, dhcHead rp xid client yours next [m0, m1, m2, m3, m4, m5] = l := ⟨_, rfl⟩
  have hn9 : l9.length = 240 := by rw [← hl9]; exact dhcHead_length _ _ _ _ _ _ rfl
  rw [hl9] at hch9
  have Hl9 := Lib.hid hl9
  clear hl9 hhead hch6 Hl5 hn5
  have e1 : sl a9 1 = .pointer (some ⟨w.heap.size, 0, none⟩) := kp9 1 (by decide)
  have e2 : sl a9 2 = .string ⟨#[]⟩ := kp9 2 (by decide)
  have e3 : sl a9 3 = .int .i64 0 := kp9 3 (by decide)
  have e5 : sl a9 5 = .pointer (some ⟨w.heap.size + 1, 0, none⟩) := kp9 5 (by decide)
  rw [dwF_of hs9]
  simp only [dwF, e1, e2, e3, e5]
  clear kp9 hs9 e1 e2 e3 e5
  generalize sl a9 = z
  have hc9 := (hpa.keep hch9.fr (by unfold oneB; omega)).cells
  go_wp2_with fail
  have hlw := wtO_len os
  have hAf : SlR w1 (fun k => w.heap.size ≤ k) 2 Ao n (optC os) := hA.fresh.keep (hf0.of_no _)
  go_loopw [52] (fun iv wr => ∃ (i : Nat) (A : Option Addr), i ≤ n ∧ iv = .int .i64 (i : Int) ∧ Chn w1 (w.heap.size + 1) w1.heap.size A (l9 ++ optsB (os.take i)) wr ∧ goodTo os i) (fun iv _ => n - (intOf iv).toNat)
  case atStart => exact ⟨0, A9, by omega, rfl, by simpa [optsB] using hch9, fun j o h => absurd h (by omega)⟩
  case round =>
    obtain ⟨i, A, hi, rfl, hch, hgood⟩ := hrel
    have hbl : (l9 ++ optsB (os.take i)).length ≤ 20000000 := by
      have h1 := optsB_len (os.take i)
      have h2 := wtO_take os i
      rw [List.length_append]; omega
    by_cases hlt : i < n
    · obtain ⟨o, ho⟩ : ∃ o, os[i]? = some o := ⟨_, List.getElem?_eq_getElem (by omega)⟩
      obtain ⟨ad, rfl, c1, c2⟩ := (hAf.keep (hch.fr.mono (by rintro b _ rfl; omega))).optAt ho
      have hol := wtO_at os i o ho
      have hxo := AlS.beside hch 72 #[.int .u8 (o.code.toNat : Int), .string (bs o.data)]
      have hch2 := hch.alloc (.cells #[.int .u8 (o.code.toNat : Int), .string (bs o.data)] 72)
      have Ho := Lib.hid ho
      have Hgood := Lib.hid hgood
      have Hch2 := Lib.hid hch2
      have Hxo := Lib.hid hxo
      clear ho hgood hch2 hxo hc9
      have hfb : Fr noB w (wr.alloc (.cells #[.int .u8 (o.code.toNat : Int), .string (bs o.data)] 72)) := (hf0.trans' hch.fr (by rintro b hb rfl; omega)).alloc _
      have hbadP : optBad o = true → wrDHCP rp xid client yours next [m0, m1, m2, m3, m4, m5] os = ([], 2) := by
        intro hb; unfold wrDHCP; rw [if_pos (List.any_eq_true.2 ⟨o, List.mem_of_getElem? Ho.out, hb⟩)]
      have HbadP := Lib.hid hbadP
      clear hbadP
      have hk : o.code = 0 ∨ o.code = 255 ∨ o.code = 52 ∨ (o.code ≠ 0 ∧ o.code ≠ 255 ∧ o.code ≠ 52) := by
        by_cases h1 : o.code = 0
        · exact .inl h1
        · by_cases h2 : o.code = 255
          · exact .inr (.inl h2)
          · by_cases h3 : o.code = 52
            · exact .inr (.inr (.inl h3))
            · exact .inr (.inr (.inr ⟨h1, h2, h3⟩))
      rcases hk with hk | hk | hk | ⟨k1, k2, k3⟩
      · have hki : (o.code.toNat : Int) = 0 := by rw [hk]; decide
        have Hno := Lib.hid (HbadP.out (by unfold optBad; rw [hk]; decide))
        rw [hki] at hfb
        clear hk HbadP Hxo Hch2
        go_wp2_with fail
        go_ret2
        exact ⟨by rw [Hno.out]; rfl, hfb⟩
      · have hki : (o.code.toNat : Int) = 255 := by rw [hk]; decide
        have Hno := Lib.hid (HbadP.out (by unfold optBad; rw [hk]; decide))
        rw [hki] at hfb
        clear hk HbadP Hxo Hch2
        go_wp2_with fail
        go_ret2
        exact ⟨by rw [Hno.out]; rfl, hfb⟩
      · have hki : (o.code.toNat : Int) = 52 := by rw [hk]; decide
        have Hno := Lib.hid (HbadP.out (by unfold optBad; rw [hk]; decide))
        rw [hki] at hfb
        clear hk HbadP Hxo Hch2
        go_wp2_with fail
        go_ret2
        exact ⟨by rw [Hno.out]; rfl, hfb⟩
      · have k1i : ((o.code.toNat : Int) == 0) = false := u8_ne k1
        have k2i : ((o.code.toNat : Int) == 255) = false := u8_ne k2
        have k3i : ((o.code.toNat : Int) == 52) = false := u8_ne k3
        have Hg1 : Hid (goodTo os (i + 1)) := Lib.hid (by
          intro j o' hj h2
          rcases Nat.lt_or_ge j i with h3 | h3
          · exact Hgood.out j o' h3 h2
          · obtain rfl : j = i := by omega
            rw [Ho.out] at h2; cases h2
            unfold optBad; simp [k1, k2, k3])
        clear k1 k2 k3 HbadP hfb
        go_wp2_with fail
        obtain ⟨go, hgo⟩ : ∃ go, wr.heap.size = go := ⟨_, rfl⟩
        rw [hgo] at Hxo
        rw [hgo]
        obtain ⟨w4, hw4⟩ : ∃ w4, wr.alloc (.cells #[.int .u8 (o.code.toNat : Int), .string (bs o.data)] 72) = w4 := ⟨_, rfl⟩
        rw [hw4] at Hch2 Hxo
        rw [hw4]
        have hch4 := Hch2.out
        have hxo4 := Hxo.out
        clear hgo hw4 Hch2 Hxo c1 c2 hch
        obtain ⟨lb, hlb⟩ : ∃ lb, l9 ++ optsB (os.take i) = lb := ⟨_, rfl⟩
        rw [hlb] at hch4 hbl
        have Hlb := Lib.hid hlb
        clear hlb
        have hcl := chunk_len o.data.length o.code o.data (Nat.le_refl _)
        go_loopw [8] (fun dv wx => ∃ (d l : List UInt8) (A' : Option Addr), dv = .string (bs d) ∧ Chn w1 (w.heap.size + 1) w1.heap.size A' l wx ∧ AlS true (.slice (some ⟨go, 0, none⟩) 0 0) 0 72 #[.int .u8 (o.code.toNat : Int), .string (bs o.data)] w1.heap.size A' wx ∧
            l ++ chunk o.code d = lb ++ chunk o.code o.data ∧ d.length ≤ o.data.length) (fun dv _ => match dv with | .string s => s.size | _ => 0)
        case atStart => exact ⟨o.data, lb, A, rfl, hch4, hxo4, rfl, Nat.le_refl _⟩
        case round =>
          obtain ⟨d, l, A', rfl, hchd, hxd, hld, hdl⟩ := hrel
          have hll : l.length ≤ 30000000 := by
            have h1 := congrArg List.length hld
            rw [List.length_append, List.length_append] at h1
            omega
          rcases Nat.lt_or_ge 255 d.length with h255 | h255
          · have hmin : min (d.length : Int) 255 = ((255 : Nat) : Int) := by omega
            have hne : (d.drop 255 == []) = false := by rw [beq_eq_false_iff_ne]; intro h; have := congrArg List.length h; simp at this; omega
            go_upto_region 17 with fail
            refine wp_at (c := regionOf Tryz.f81 17) (by kernel_rfl) (dwR17 go 255 o.code o.data d w1 (w.heap.size + 1) w1.heap.size A' l _ _ _ ⟨rfl, rfl⟩ rfl rfl rfl rfl (by omega) (by omega) (by omega) hxd hchd (by omega) ?_)
            intro a17 w17 A17 hs17 kp17 hch17 hx17
            rw [kp17.eq_put (n := 101) [74, 75, 76, 77, 78, 79, 80, 81, 82, 83, 84, 85] ⟨rfl, rfl⟩ hs17 (by decide) (by decide)]
            simp only [List.foldl, Act.put, List.setIfInBounds_toArray, List.set_cons_succ, List.set_cons_zero]
            generalize sl a17 = z17
            go_wp2_with fail
            refine ⟨⟨d.drop 255, _, A17, rfl, hch17, hx17, ?_, by rw [List.length_drop]; omega⟩, by simp [bs_size]; omega⟩
            rw [← hld, chunk_big o.code d h255]
            simp
          · have hmin : min (d.length : Int) 255 = (d.length : Int) := by omega
            have hne : (d.drop d.length == []) = true := by rw [List.drop_length]; rfl
            go_upto_region 17 with fail
            refine wp_at (c := regionOf Tryz.f81 17) (by kernel_rfl) (dwR17 go d.length o.code o.data d w1 (w.heap.size + 1) w1.heap.size A' l _ _ _ ⟨rfl, rfl⟩ rfl rfl rfl rfl (by omega) (by omega) (by omega) hxd hchd (by omega) ?_)
            intro a17 w17 A17 hs17 kp17 hch17 hx17
            rw [kp17.eq_put (n := 101) [74, 75, 76, 77, 78, 79, 80, 81, 82, 83, 84, 85] ⟨rfl, rfl⟩ hs17 (by decide) (by decide)]
            simp only [List.foldl, Act.put, List.setIfInBounds_toArray, List.set_cons_succ, List.set_cons_zero]
            generalize sl a17 = z17
            go_wp2_with fail
            refine ⟨⟨i + 1, A17, by omega, by rw [Int.natCast_add]; rfl, ?_, Hg1.out⟩, by simp only [intOf]; omega⟩
            have e : l9 ++ optsB (os.take (i + 1)) = l ++ [o.code, UInt8.ofNat d.length] ++ List.flatten [List.take d.length d] := by
              rw [optsB_succ Ho.out, ← List.append_assoc, Hlb.out, ← hld, chunk_small o.code d h255]
              simp
            rw [e]
            exact hch17
    · obtain rfl : i = n := by omega
      rw [List.take_of_length_le (by omega)] at hch hbl
      have hg : os.any optBad = false := goodTo_any (by rw [hn]; exact hgood)
      have Hg := Lib.hid hg
      clear hg hgood
      go_upto_region 21 with fail
      refine wp_at (c := regionOf Tryz.f81 21) (by kernel_rfl) (dwR21 w1 (w.heap.size + 1) w1.heap.size A _ _ _ _ ⟨rfl, rfl⟩ rfl hch (by omega) ?_)
      intro a21 w21 A21 hs21 kp21 ho10 hch21
      obtain ⟨lf, hlf⟩ : ∃ lf, dhcBody (dhcHead rp xid client yours next [m0, m1, m2, m3, m4, m5]) os = lf := ⟨_, rfl⟩
      have e10 : sl a21 10 = .string (bs lf) := by
        rw [ho10, ← hlf, Hl9.out]
        unfold dhcBody zeroTo optsB
        rfl
      have hsp : wrDHCP rp xid client yours next [m0, m1, m2, m3, m4, m5] os = if 1472 < lf.length then ([], 7) else (lf, 0) := by
        unfold wrDHCP
        rw [Hg.out, hlf]
        rfl
      have Hsp := Lib.hid hsp
      have hfr : Fr noB w w21 := hf0.trans' hch21.fr (by rintro b hb rfl; omega)
      clear hlf ho10 hsp
      rw [kp21.eq_put (n := 101) [92, 93, 94, 95, 96, 10] ⟨rfl, rfl⟩ hs21 (by decide) (by decide)]
      simp only [List.foldl, Act.put, List.setIfInBounds_toArray, List.set_cons_succ, List.set_cons_zero, e10]
      generalize sl a21 = z21
      by_cases hlen : 1472 < lf.length
      · have hli : (1472 : Int) < (lf.length : Int) := by omega
        have Hr : Hid (wrDHCP rp xid client yours next [m0, m1, m2, m3, m4, m5] os = ([], 7)) := Lib.hid (by rw [Hsp.out, if_pos hlen])
        clear hlen
        go_wp2_with fail
        go_ret2
        exact ⟨by rw [Hr.out]; rfl, hfr⟩
      · have hli : ¬ (1472 : Int) < (lf.length : Int) := by omega
        have Hr : Hid (wrDHCP rp xid client yours next [m0, m1, m2, m3, m4, m5] os = (lf, 0)) := Lib.hid (by rw [Hsp.out, if_neg hlen])
        clear hlen
        go_wp2_with fail
        go_ret2
        exact ⟨by rw [Hr.out]; rfl, hfr⟩
end Go.Proofs.YtcbkaiakdhiloabGreatDoor
namespace Go.Proofs.YtcbkaiakdhiloabGreatDoor
open Go.RowKit Go.Proofs
attribute [local go_sem] bs_size bs_append bs_extract bs_toList

set_option maxRecDepth 20000 in
set_option maxHeartbeats 1000000 in
theorem bootWriteDHCP (rp : Bool) (xid client yours next : Nat) (m0 m1 m2 m3 m4 m5 : UInt8) (os : List OptD) (Ao : Option Addr) (cap : Nat) (w : World)
    (hxid : xid < 4294967296) (hcl : client < 4294967296) (hyo : yours < 4294967296) (hnx : next < 4294967296) (hA : SlR w noB 2 Ao os.length (optC os)) (hwt : wtO os ≤ 2097152) :
    Calls Tryz.prog 33 #[.agg #[.bool rp, .int .u32 (xid : Int), .int .u32 (client : Int), .int .u32 (yours : Int), .int .u32 (next : Int), .int .u8 (m0.toNat : Int), .int .u8 (m1.toNat : Int), .int .u8 (m2.toNat : Int), .int .u8 (m3.toNat : Int), .int .u8 (m4.toNat : Int), .int .u8 (m5.toNat : Int), .slice Ao os.length cap]] w (strPost (wrDHCP rp xid client yours next [m0, m1, m2, m3, m4, m5] os) w) := by
  have hpa := (Bk.new w 75 #[.bool rp, .int .u32 (xid : Int), .int .u32 (client : Int), .int .u32 (yours : Int), .int .u32 (next : Int), .int .u8 (m0.toNat : Int), .int .u8 (m1.toNat : Int), .int .u8 (m2.toNat : Int), .int .u8 (m3.toNat : Int), .int .u8 (m4.toNat : Int), .int .u8 (m5.toNat : Int), .slice Ao os.length cap]).cells
  have hf0 : Fr noB w (w.alloc (.cells #[.bool rp, .int .u32 (xid : Int), .int .u32 (client : Int), .int .u32 (yours : Int), .int .u32 (next : Int), .int .u8 (m0.toNat : Int), .int .u8 (m1.toNat : Int), .int .u8 (m2.toNat : Int), .int .u8 (m3.toNat : Int), .int .u8 (m4.toNat : Int), .int .u8 (m5.toNat : Int), .slice Ao os.length cap] 75)) := (Fr.refl _ _).alloc _
  have hA1 := hA.keep hf0
  go_enter Tryz.func33, Tryz.ntmps33
  go_wp2_with fail
  refine (dhcpWrite rp xid client yours next m0 m1 m2 m3 m4 m5 os Ao cap _ hxid hcl hyo hnx hA1 hwt).mono ?_
  rintro e w2 ⟨rfl, hf2⟩
  generalize wrDHCP rp xid client yours next [m0, m1, m2, m3, m4, m5] os = R at *
  go_wp2_with fail
  go_ret2
  exact ⟨rfl, hf0.none hf2⟩
end Go.Proofs.YtcbkaiakdhiloabGreatDoor
namespace Go.Proofs.YtcbkaiakdhiloabGreatDoor
open Go.RowKit Go.Proofs

def lowF (r : Int) : Int := if 65 ≤ r ∧ r ≤ 90 then r + 32 else r
def lowD (l : List UInt8) : List UInt8 := Lib.mapD lowF l
def asc (l : List UInt8) : Prop := ∀ b ∈ l, b.toNat < 128
theorem lowF_hi {r : Int} (h : 128 ≤ r) : lowF r = r := by unfold lowF; rw [if_neg (by omega)]
theorem lowC_asc (c : UInt8) (h : c.toNat < 128) : Lib.encodeRune (lowF (c.toNat : Int)) = [lowC c] := by
  have e : lowF (c.toNat : Int) = ((lowC c).toNat : Int) := by
    unfold lowF lowC
    by_cases h1 : 65 ≤ c.toNat ∧ c.toNat ≤ 90
    · rw [if_pos (by omega), if_pos h1, UInt8.toNat_add, show (32 : UInt8).toNat = 32 from rfl]; omega
    · rw [if_neg (by omega), if_neg h1]
  have hb : (lowC c).toNat ≤ 127 := by
    unfold lowC
    split
    · rw [UInt8.toNat_add, show (32 : UInt8).toNat = 32 from rfl]; omega
    · omega
  rw [e]
  unfold Lib.encodeRune
  rw [Lib.encodeRuneZ_one (by omega) (by omega)]
  simp
theorem lowD_asc : ∀ (l : List UInt8), asc l → lowD l = lowL l
  | [], _ => rfl
  | c :: r, h => by
    have hc : c.toNat < 128 := h c (by simp)
    unfold lowD
    rw [Lib.mapD_step lowF (c :: r) (by simp), Lib.decodeL_ascii c r hc]
    simp only
    rw [if_pos (by unfold lowF; split <;> omega), lowC_asc c hc]
    have ih := lowD_asc r (fun b hb => h b (by simp [hb]))
    unfold lowD at ih
    rw [show (c :: r).drop 1 = r from rfl, ih]
    rfl
theorem encode_hi (r : Int) (h : 128 ≤ r) : ∃ b t, Lib.encodeRune r = b :: t ∧ 128 ≤ b.toNat := by
  unfold Lib.encodeRune Lib.encodeRuneZ
  rw [if_neg (by omega)]
  split
  · exact ⟨_, _, rfl, by simp; omega⟩
  · split
    · exact ⟨_, _, rfl, by simp; omega⟩
    · split
      · exact ⟨_, _, rfl, by simp; omega⟩
      · exact ⟨_, _, rfl, by decide⟩
theorem asc_of_lowD : ∀ (n : Nat) (l : List UInt8), l.length ≤ n → asc (lowD l) → asc l
  | _, [], _, _ => fun b hb => by cases hb
  | 0, c :: r, h, _ => by simp at h
  | n + 1, c :: r, h, ha => by
    by_cases hc : c.toNat < 128
    · have e : lowD (c :: r) = [lowC c] ++ lowD r := by
        unfold lowD
        rw [Lib.mapD_step lowF (c :: r) (by simp), Lib.decodeL_ascii c r hc]
        simp only
        rw [if_pos (by unfold lowF; split <;> omega), lowC_asc c hc]
        rfl
      rw [e] at ha
      intro b hb
      rcases List.mem_cons.1 hb with rfl | hb
      · exact hc
      · exact asc_of_lowD n r (by simp at h; omega) (fun b hb => ha b (by simp [hb])) b hb
    · exfalso
      have hd : 128 ≤ (Lib.decodeL (c :: r)).1 := by
        rw [Lib.decodeL_N]
        have hc0 : ((c :: r).getD 0 0) = c := rfl
        rw [hc0]
        rcases Lib.decodeN_shape (c :: r).length c.toNat ((c :: r).getD 1 0).toNat ((c :: r).getD 2 0).toNat ((c :: r).getD 3 0).toNat with ⟨h1, _⟩ | ⟨_, _, _, h4, e⟩ | ⟨_, _, _, _, h5, _, e⟩ | ⟨_, _, _, _, _, h6, _, e⟩ | e
        · exact absurd h1 hc
        all_goals (rw [e]; simp only; omega)
      obtain ⟨b, t, e1, e2⟩ := encode_hi ((Lib.decodeL (c :: r)).1 : Int) (by omega)
      have e : lowD (c :: r) = (b :: t) ++ Lib.mapD lowF ((c :: r).drop (Lib.decodeL (c :: r)).2) := by
        unfold lowD
        rw [Lib.mapD_step lowF (c :: r) (by simp), lowF_hi (by omega), if_pos (by omega), e1]
      rw [e] at ha
      have := ha b (by simp)
      omega
/-- small letters make a text of ASCII of nothing but a text of ASCII -/
theorem lowD_iff (l t : List UInt8) (ht : asc t) : lowD l = t ↔ lowL l = t := by
  constructor
  · intro h
    have ha : asc l := asc_of_lowD l.length l (Nat.le_refl _) (by rw [h]; exact ht)
    rw [← lowD_asc l ha]; exact h
  · intro h
    have ha : asc l := by
      intro b hb
      have h1 : lowC b ∈ t := by rw [← h]; exact List.mem_map.2 ⟨b, hb, rfl⟩
      have h2 := ht _ h1
      unfold lowC at h2
      split at h2
      · omega
      · exact h2
    rw [lowD_asc l ha]; exact h
end Go.Proofs.YtcbkaiakdhiloabGreatDoor
namespace Go.Proofs.YtcbkaiakdhiloabGreatDoor
open Go.RowKit Go.Proofs
attribute [local go_sem] bs_size bs_append bs_extract

/-- the tables of utf8, as they were laid -/
def Tabs (w : World) : Prop := Lib.Utf8Tabs 7 8 w
theorem cell_lt' {w : World} {a : Addr} {v : Value} (h : w.cell? a = some v) : a.block < w.heap.size := by
  rcases Nat.lt_or_ge a.block w.heap.size with h1 | h1
  · exact h1
  · unfold World.cell? at h; rw [Array.getElem?_eq_none h1] at h; cases h
theorem Tabs.keep {w w' : World} {S : Nat → Prop} (h : Tabs w) (hf : Fr S w w') (h1 : ¬ S 7) (h2 : ¬ S 8) : Tabs w' := by
  refine ⟨fun c hc => ?_, fun i hi => ⟨?_, ?_⟩⟩
  · have := h.1 c hc; exact (hf.cell (cell_lt' this) h1).trans this
  · have := (h.2 i hi).1; exact (hf.cell (cell_lt' this) h2).trans this
  · have := (h.2 i hi).2; exact (hf.cell (cell_lt' this) h2).trans this
theorem Tabs.none {w w' : World} (h : Tabs w) (hf : Fr noB w w') : Tabs w' := h.keep hf (fun x => x) (fun x => x)
theorem Tabs.lt {w : World} (h : Tabs w) : 7 < w.heap.size ∧ 8 < w.heap.size := ⟨cell_lt' (h.1 0 (by omega)), cell_lt' (h.2 0 (by omega)).1⟩
theorem lower1 (W : World) (x : Nat) (hx : x ≤ 1114111) : FnGives Tryz.prog 162 #[] #[encR x] (.int .i32 (lowF x)) W := by
  unfold FnGives
  have e : (#[encR x] ++ #[] : Array Value) = #[.int .i32 (x : Int)] := rfl
  rw [e]
  obtain ⟨r, hr⟩ : ∃ r, lowF (x : Int) = r := ⟨_, rfl⟩
  rw [hr]
  have Hr := Lib.hid hr
  clear hr e
  go_enter Tryz.func162, Tryz.ntmps162
  by_cases h1 : 65 ≤ x
  · by_cases h2 : x ≤ 90
    · have h1i : (65 : Int) ≤ (x : Int) := by omega
      have h2i : (x : Int) ≤ 90 := by omega
      have e1 : IntKind.i32.wrap ((x : Int) + 97) = (x : Int) + 97 := IntWalk.i32_in ((x : Int) + 97) ⟨by omega, by omega⟩
      have e2 : IntKind.i32.wrap ((x : Int) + 97 - 65) = (x : Int) + 32 := (IntWalk.i32_in ((x : Int) + 97 - 65) ⟨by omega, by omega⟩).trans (by omega)
      go_wp2_with fail
      go_ret
      exact ⟨by rw [← Hr.out]; unfold lowF; rw [if_pos ⟨h1i, h2i⟩]; rfl, 0, rfl⟩
    · have h1i : (65 : Int) ≤ (x : Int) := by omega
      have h2i : ¬ (x : Int) ≤ 90 := by omega
      go_wp2_with fail
      go_ret
      exact ⟨by rw [← Hr.out]; unfold lowF; rw [if_neg (by omega)]; rfl, 0, rfl⟩
  · have h1i : ¬ (65 : Int) ≤ (x : Int) := by omega
    go_wp2_with fail
    go_ret
    exact ⟨by rw [← Hr.out]; unfold lowF; rw [if_neg (by omega)]; rfl, 0, rfl⟩
theorem tftLower (l : List UInt8) (w : World) (hl : l.length ≤ 1099511627776) (hT : Tabs w) :
    Calls Tryz.prog 122 #[.string (bs l)] w fun e w' => e = .returned (.string (bs (lowD l))) ∧ Fr noB w w' := by
  have hm := Tryz.strings_Map_runes 162 #[] (enters_of Tryz.func162 (by kernel_rfl) rfl) lowF (bs l) w (by rw [bs_size]; omega) (fun W x hx _ => lower1 W x hx)
    (fun x hx => by unfold lowF; split <;> omega) hT
  rw [bs_list] at hm
  go_enter Tryz.func122, Tryz.ntmps122
  go_wp2_with fail
  refine hm.mono ?_
  rintro e w1 ⟨rfl, hb⟩
  have hf := Fr.ofBelowAll hb
  go_wp2_with fail
  go_ret
  exact ⟨rfl, hf⟩
end Go.Proofs.YtcbkaiakdhiloabGreatDoor
namespace Go.Proofs.YtcbkaiakdhiloabGreatDoor
open Go.RowKit Go.Proofs
attribute [local go_sem] bs_size bs_append bs_extract

/-- what Line leaves -/
def LineP (p : Nat) (l : List UInt8) (w : World) (e : Ending) (w' : World) : Prop :=
  (∃ a r, lineOf l = some (a, r) ∧ e = .returned (.string (bs a)) ∧ Rd w' p r ∧ Fr (oneB p) w w') ∨ (lineOf l = none ∧ e = .panicked (faultC 2) ∧ Fr (oneB p) w w')
set_option maxRecDepth 20000 in
set_option maxHeartbeats 1000000 in
theorem rLine (p : Nat) (l : List UInt8) (w : World) (hR : Rd w p l) (hl : l.length ≤ 4611686018427387904) :
    Calls Tryz.prog 127 #[.pointer (some ⟨p, 0, none⟩)] w (LineP p l w) := by
  have hc0 := Bk.cells hR
  have hz0 := Bk.frees hR
  go_enter Tryz.func127, Tryz.ntmps127
  go_wp2_with fail
  go_loopw [10] (fun iv wr => ∃ (i : Nat), i ≤ l.length ∧ iv = .int .i64 (i : Int) ∧ (∀ j, j < i → l[j]? ≠ some 0) ∧ wr = w) (fun iv _ => l.length - (intOf iv).toNat)
  case atStart => exact ⟨0, by omega, rfl, fun j h => absurd h (by omega), rfl⟩
  case round =>
    obtain ⟨i, hi, rfl, ha, hw⟩ := hrel
    subst hw
    by_cases hlt : i < l.length
    · obtain ⟨c, hc⟩ : ∃ c, l[i]? = some c := ⟨_, List.getElem?_eq_getElem hlt⟩
      have hgi : ∀ h : i < (bs l).size, (bs l)[i]'h = c := fun h => by rw [bs_get l i h]; rw [List.getElem?_eq_getElem hlt] at hc; injection hc
      by_cases h0 : c = 0
      · subst h0
        have H := Lib.hid (lineOf_at l i hc ha)
        clear hc ha
        go_wp2_with fail
        go_ret
        refine .inl ⟨l.take i, l.drop (i + 1), H.out, rfl, ?_, (Fr.refl (oneB p) wr).setCell (p := ⟨p, 0, none⟩) (fun _ => rfl) _⟩
        have h := Bk.set hR 0 (.string (bs (l.drop (i + 1))))
        simpa [Rd] using h
      · have h0i : ((c.toNat : Int) == 0) = false := by rw [beq_eq_false_iff_ne]; intro e; exact h0 (UInt8.toNat.inj (by simpa using e))
        have h0j : ¬ c.toNat = 0 := fun e => h0 (UInt8.toNat.inj (by simpa using e))
        have Ha : Hid (∀ j, j < i + 1 → l[j]? ≠ some 0) := Lib.hid (by
          intro j hj e
          rcases Nat.lt_or_ge j i with h3 | h3
          · exact ha j h3 e
          · obtain rfl : j = i := by omega
            rw [hc] at e; cases e; exact h0 rfl)
        clear hc ha h0
        go_wp2_with fail
        exact ⟨⟨i + 1, by omega, by rw [Int.natCast_add]; rfl, Ha.out, trivial⟩, by simp only [intOf]; omega⟩
    · obtain rfl : i = l.length := by omega
      have H := Lib.hid (lineOf_none l ha)
      clear ha
      go_wp2_with fail
      refine (fail_any 2 _).mono ?_
      rintro x w1 ⟨rfl, rfl⟩
      exact ⟨rfl, .inr ⟨H.out, rfl, Fr.refl _ _⟩⟩
end Go.Proofs.YtcbkaiakdhiloabGreatDoor
