/- Parts of the walk; written by programs, merged. -/
import Derived.Test.YtcbkaiakdhiloabGreatDoorMaa
import Derived.Test.YtcbkaiakdhiloabGreatDoorMab
import Derived.Test.YtcbkaiakdhiloabGreatDoorMad
import Derived.Test.YtcbkaiakdhiloabGreatDoorMaf
import Derived.Test.YtcbkaiakdhiloabGreatDoorMam
import Derived.Test.YtcbkaiakdhiloabGreatDoorMan
import Derived.Test.YtcbkaiakdhiloabGreatDoorProg
import Derived.Test.YtcbkaiakdhiloabGreatDoorShelf
import Derived.WalkKit
import Derived.WalkLawsBesides
import Derived.WalkSpells
import Derived.Deep.AppendLies
import Derived.Deep.DrawnRows
import Derived.Maps.AppendAt
import Derived.StillTailTactics
import Derived.Lib.Hide
import Derived.Lib.AppendStr
import Derived.Lib.Strings
import Derived.Laws.MakeOwn
import Derived.Laws.OwnMore
import Derived.Laws.BitsAllLaws
import Derived.Orders
import Derived.Deep.MidRow
import Derived.Deep.DeepMust
import Derived.Deep.RegionHeld3
import Derived.Deep.RegionLaw
import Derived.Deep.LoopGhost
import Derived.Lib.ConvBytes
import Derived.Lib.LazyBuf
import Derived.Deep.Cut
import Derived.Deep.CutRange
import Derived.Lib.SlBytesRow
import Derived.Deep.QuietTactic
import Derived.BigQuiet
import Derived.Recover
import Derived.OrdersHeld
import Derived.Lib.MapLaws
import Derived.Lib.TrimAscii
import Derived.Lib.LaidTab
import Derived.Lib.ItoaNum
import Derived.Maps.Own
import Derived.Maps.OwnOps
import Derived.Maps.OwnSet
import Derived.Maps.Views
import Derived.Maps.RangeWalk
import Derived.Deep.CutBlock
set_option linter.unusedSimpArgs false
set_option linter.unusedVariables false
set_option maxRecDepth 20000
set_option maxHeartbeats 8000000
namespace Go.Proofs.YtcbkaiakdhiloabGreatDoor
open Go.RowKit Go.Proofs
attribute [local go_sem] bs_size bs_append bs_extract
theorem own_keep {w w' : World} {S : Nat → Prop} {base : Nat} {e : TypeId} {size n : Nat} {v : Value} {xs : List Value} (h : w.ownsRow base e size v n xs) (hf : Fr S w w') (hS : ∀ k, base ≤ k → ¬ S k) :
    w'.ownsRow base e size v n xs := by
  obtain ⟨h1, h2 | ⟨g', cap', cur, hv, hb, hg, hn, hm, hc, ht⟩⟩ := h
  · exact ⟨h1, .inl h2⟩
  · exact ⟨h1, .inr ⟨g', cap', cur, hv, hb, Bk.keep hg hf (hS g' hb), hn, hm, hc, ht⟩⟩
theorem own_far {w : World} {base : Nat} {e t : TypeId} {size n : Nat} {v : Value} {xs : List Value} {cs : Array Value} {p : Addr} (h : w.ownsRow base e size v n xs) (hp : Bk w p.block t cs) (ht : t ≠ e) (u : Value) :
    (w.setCell p u).ownsRow base e size v n xs := by
  obtain ⟨h1, h2 | ⟨g', cap', cur, hv, hb, hg, hn, hm, hc, ht'⟩⟩ := h
  · exact ⟨h1, .inl h2⟩
  · refine ⟨h1, .inr ⟨g', cap', cur, hv, hb, Bk.far hg (fun e1 => ?_) u, hn, hm, hc, ht'⟩⟩
    rw [← e1, Bk, hg] at hp
    injection hp with hp; injection hp with _ hp; exact ht hp.symm
theorem own_at {w : World} {base : Nat} {e : TypeId} {size n g cap j : Nat} {xs : List Value} {u : Value} (h : w.ownsRow base e size (.slice (some ⟨g, 0, none⟩) n cap) n xs) (hj : xs[j]? = some u) : w.cell? ⟨g, j, none⟩ = some u := by
  obtain ⟨h1, ⟨h2, _⟩ | ⟨g', cap', cur, hv, hb, hg, hn, hm, hc, ht⟩⟩ := h
  · cases h2
  · cases hv
    rw [Bk.cell hg j]
    have hl : j < xs.length := by
      rcases Nat.lt_or_ge j xs.length with h1 | h1
      · exact h1
      · rw [List.getElem?_eq_none h1] at hj; cases hj
    rw [← ht, List.getElem?_take, if_pos (by omega)] at hj
    simpa using hj
theorem optC_one {os : List OptD} : ∀ u ∈ optC os, u.oneCell' = true := by
  induction os with
  | nil => intro u h; cases h
  | cons o r ih =>
    intro u h
    simp only [optC, List.mem_cons] at h
    rcases h with rfl | rfl | h
    · rfl
    · rfl
    · exact ih u h
theorem opt_info : (Tryz.prog.info? 72).map (fun i => (i.zero, i.size, i.bytes)) = some (some (.agg #[.int .u8 0, .string ⟨#[]⟩]), 2, 24) := by kernel_rfl
theorem own_blk {w : World} {base : Nat} {e : TypeId} {size n cap : Nat} {A : Option Addr} {xs : List Value} (h : w.ownsRow base e size (.slice A n cap) n xs) : ∀ a, A = some a → base ≤ a.block := by
  rintro a rfl
  obtain ⟨h1, ⟨h2, _⟩ | ⟨g', cap', cur, hv, hb, _⟩⟩ := h
  · cases h2
  · cases hv; exact hb
def wtO : List OptD → Nat
  | [] => 0
  | o :: r => o.data.length + 1 + wtO r
theorem wtO_len : ∀ os : List OptD, os.length ≤ wtO os
  | [] => Nat.le_refl _
  | o :: r => by have := wtO_len r; simp only [List.length_cons, wtO]; omega
theorem wtO_at : ∀ (os : List OptD) (k : Nat) (o : OptD), os[k]? = some o → o.data.length ≤ wtO os
  | [], _, _, h => by cases h
  | o :: r, 0, o', h => by cases h; simp only [wtO]; omega
  | o :: r, k + 1, o', h => by have := wtO_at r k o' h; simp only [wtO]; omega
end Go.Proofs.YtcbkaiakdhiloabGreatDoor
namespace Go.Proofs.YtcbkaiakdhiloabGreatDoor
open Go.RowKit Go.Proofs
attribute [local go_sem] bs_size bs_append bs_extract
theorem own_slr {w : World} {base : Nat} {e : TypeId} {size n cap : Nat} {A : Option Addr} {xs : List Value} (h : w.ownsRow base e size (.slice A n cap) n xs) : SlR w noB size A n xs := by
  refine ⟨h.1, fun hn => ?_⟩
  obtain ⟨h1, ⟨h2, h3⟩ | ⟨g, cap', cur, hv, hb, hg, _⟩⟩ := id h
  · omega
  · cases hv
    exact ⟨_, rfl, Bk.lt hg, fun x => x, fun j u hu => by rw [addr_add, Nat.zero_add]; exact own_at h hu⟩
end Go.Proofs.YtcbkaiakdhiloabGreatDoor
namespace Go.Proofs.YtcbkaiakdhiloabGreatDoor
open Go.RowKit Go.Proofs
attribute [local go_sem] bs_size bs_append bs_extract bs_toList
theorem chunk_len : ∀ (k : Nat) (c : UInt8) (d : List UInt8), d.length ≤ k → (chunk c d).length ≤ 3 * d.length + 2
  | 0, c, d, h => by
    rw [chunk_small c d (by omega)]; simp; omega
  | k + 1, c, d, h => by
    rcases Nat.lt_or_ge 255 d.length with h1 | h1
    · rw [chunk_big c d h1]
      have := chunk_len k c (d.drop 255) (by rw [List.length_drop]; omega)
      rw [List.length_drop] at this
      simp [List.length_take]; omega
    · rw [chunk_small c d h1]; simp; omega
def optsB (os : List OptD) : List UInt8 := os.flatMap fun o => chunk o.code o.data
theorem optsB_len : ∀ os : List OptD, (optsB os).length ≤ 3 * wtO os
  | [] => Nat.le_refl _
  | o :: r => by
    have h1 := chunk_len o.data.length o.code o.data (Nat.le_refl _)
    have h2 := optsB_len r
    unfold optsB at h2 ⊢
    rw [List.flatMap_cons, List.length_append]
    simp only [wtO]; omega
theorem optsB_succ {os : List OptD} {i : Nat} {o : OptD} (h : os[i]? = some o) : optsB (os.take (i + 1)) = optsB (os.take i) ++ chunk o.code o.data := by
  have hi : i < os.length := by
    rcases Nat.lt_or_ge i os.length with h1 | h1
    · exact h1
    · rw [List.getElem?_eq_none h1] at h; cases h
  rw [List.getElem?_eq_getElem hi] at h
  cases h
  unfold optsB
  rw [List.take_succ_eq_append_getElem hi, List.flatMap_append]; simp
theorem wtO_take : ∀ (os : List OptD) (i : Nat), wtO (os.take i) ≤ wtO os
  | [], i => by simp
  | o :: r, 0 => Nat.zero_le _
  | o :: r, i + 1 => by have := wtO_take r i; simp only [List.take_succ_cons, wtO]; omega
theorem SlR.fresh {w : World} {S : Nat → Prop} {size n : Nat} {A : Option Addr} {xs : List Value} (h : SlR w S size A n xs) : SlR w (fun k => w.heap.size ≤ k) size A n xs :=
  ⟨h.1, fun hn => by
    obtain ⟨ad, e, hb, hS, hc⟩ := h.2 hn
    exact ⟨ad, e, hb, fun x => by omega, hc⟩⟩
def goodTo (os : List OptD) (i : Nat) : Prop := ∀ j o, j < i → os[j]? = some o → optBad o = false
theorem goodTo_any {os : List OptD} (h : goodTo os os.length) : os.any optBad = false := by
  rw [List.any_eq_false]
  intro o ho
  obtain ⟨j, hj, e⟩ := List.getElem_of_mem ho
  have := h j o hj (by rw [List.getElem?_eq_getElem hj, e])
  simp [this]
theorem dhcpWrite (rp : Bool) (xid client yours next : Nat) (m0 m1 m2 m3 m4 m5 : UInt8) (os : List OptD) (Ao : Option Addr) (cap : Nat) (w : World)
    (hxid : xid < 4294967296) (hcl : client < 4294967296) (hyo : yours < 4294967296) (hnx : next < 4294967296) (hA : SlR w noB 2 Ao os.length (optC os)) (hwt : wtO os ≤ 2097152) :
    Calls Tryz.prog 81 #[.agg #[.bool rp, .int .u32 (xid : Int), .int .u32 (client : Int), .int .u32 (yours : Int), .int .u32 (next : Int), .int .u8 (m0.toNat : Int), .int .u8 (m1.toNat : Int), .int .u8 (m2.toNat : Int), .int .u8 (m3.toNat : Int), .int .u8 (m4.toNat : Int), .int .u8 (m5.toNat : Int), .slice Ao os.length cap]] w (strPost (wrDHCP rp xid client yours next [m0, m1, m2, m3, m4, m5] os) w) := by
  have hpa := (Bk.new w 75 #[.bool rp, .int .u32 (xid : Int), .int .u32 (client : Int), .int .u32 (yours : Int), .int .u32 (next : Int), .int .u8 (m0.toNat : Int), .int .u8 (m1.toNat : Int), .int .u8 (m2.toNat : Int), .int .u8 (m3.toNat : Int), .int .u8 (m4.toNat : Int), .int .u8 (m5.toNat : Int), .slice Ao os.length cap]).alloc (.cells #[.slice none 0 0] 125)
  have hbw := Bk.new (w.alloc (.cells #[.bool rp, .int .u32 (xid : Int), .int .u32 (client : Int), .int .u32 (yours : Int), .int .u32 (next : Int), .int .u8 (m0.toNat : Int), .int .u8 (m1.toNat : Int), .int .u8 (m2.toNat : Int), .int .u8 (m3.toNat : Int), .int .u8 (m4.toNat : Int), .int .u8 (m5.toNat : Int), .slice Ao os.length cap] 75)) 125 #[.slice none 0 0]
  rw [show (w.alloc (.cells #[.bool rp, .int .u32 (xid : Int), .int .u32 (client : Int), .int .u32 (yours : Int), .int .u32 (next : Int), .int .u8 (m0.toNat : Int), .int .u8 (m1.toNat : Int), .int .u8 (m2.toNat : Int), .int .u8 (m3.toNat : Int), .int .u8 (m4.toNat : Int), .int .u8 (m5.toNat : Int), .slice Ao os.length cap] 75)).heap.size = w.heap.size + 1 by simp] at hbw
  have hpa0 := (Bk.new w 75 #[.bool rp, .int .u32 (xid : Int), .int .u32 (client : Int), .int .u32 (yours : Int), .int .u32 (next : Int), .int .u8 (m0.toNat : Int), .int .u8 (m1.toNat : Int), .int .u8 (m2.toNat : Int), .int .u8 (m3.toNat : Int), .int .u8 (m4.toNat : Int), .int .u8 (m5.toNat : Int), .slice Ao os.length cap]).cells
  obtain ⟨n, hn⟩ : ∃ n, os.length = n := ⟨_, rfl⟩
  rw [hn] at hA hpa hbw hpa0 ⊢
  go_enter Tryz.func81, Tryz.ntmps81
  go_upto_if 12 with fail
  go_cut [4] from 11 (fun s4 wx => s4 = .int .u8 ((if rp then (2 : UInt8) else 1).toNat : Int) ∧ wx = w.alloc (.cells #[.bool rp, .int .u32 (xid : Int), .int .u32 (client : Int), .int .u32 (yours : Int), .int .u32 (next : Int), .int .u8 (m0.toNat : Int), .int .u8 (m1.toNat : Int), .int .u8 (m2.toNat : Int), .int .u8 (m3.toNat : Int), .int .u8 (m4.toNat : Int), .int .u8 (m5.toNat : Int), .slice Ao n cap] 75))
  case first =>
    cases rp
    · go_wp2_with fail
      go_meet
      case rel => exact ⟨rfl, rfl⟩
    · go_wp2_with fail
      go_meet
      case rel => exact ⟨rfl, rfl⟩
  case rest =>
  obtain ⟨rfl, rfl⟩ := hcut
  clear hpa0
  go_upto_region 5 with fail
  have hf0 : Fr noB w ((w.alloc (.cells #[.bool rp, .int .u32 (xid : Int), .int .u32 (client : Int), .int .u32 (yours : Int), .int .u32 (next : Int), .int .u8 (m0.toNat : Int), .int .u8 (m1.toNat : Int), .int .u8 (m2.toNat : Int), .int .u8 (m3.toNat : Int), .int .u8 (m4.toNat : Int), .int .u8 (m5.toNat : Int), .slice Ao n cap] 75)).alloc (.cells #[.slice none 0 0] 125)) := ((Fr.refl _ _).alloc _).alloc _
  have hsz : ((w.alloc (.cells #[.bool rp, .int .u32 (xid : Int), .int .u32 (client : Int), .int .u32 (yours : Int), .int .u32 (next : Int), .int .u8 (m0.toNat : Int), .int .u8 (m1.toNat : Int), .int .u8 (m2.toNat : Int), .int .u8 (m3.toNat : Int), .int .u8 (m4.toNat : Int), .int .u8 (m5.toNat : Int), .slice Ao n cap] 75)).alloc (.cells #[.slice none 0 0] 125)).heap.size = w.heap.size + 2 := by simp
  have hA1 := hA.keep hf0
  generalize (w.alloc (.cells #[.bool rp, .int .u32 (xid : Int), .int .u32 (client : Int), .int .u32 (yours : Int), .int .u32 (next : Int), .int .u8 (m0.toNat : Int), .int .u8 (m1.toNat : Int), .int .u8 (m2.toNat : Int), .int .u8 (m3.toNat : Int), .int .u8 (m4.toNat : Int), .int .u8 (m5.toNat : Int), .slice Ao n cap] 75)).alloc (.cells #[.slice none 0 0] 125) = w1 at *
  have hwr0 := Chn.start0 (Wr.zero hbw) rfl
  refine wp_at (c := regionOf Tryz.f81 5) (by kernel_rfl) (dwR5 w.heap.size rp xid client yours next n cap Ao m0 m1 m2 m3 m4 m5 (if rp then 2 else 1) w1 (w.heap.size + 1) w1.heap.size none [] _ _ _ ⟨rfl, rfl⟩ rfl rfl rfl hpa (by omega) hxid hcl hyo hnx hwr0 (by simp) ?_)
  intro a5 w5 A5 hs5 kp5 hch5
  obtain ⟨l5, hl5⟩ : ∃ l, ([] ++ [(if rp then (2 : UInt8) else 1), 1, 6, 0] ++ big 4 (xid : Int).toNat ++ bigs 2 [0] : List UInt8) = l := ⟨_, rfl⟩
  rw [hl5] at hch5
  have hn5 : l5.length = 10 := by rw [← hl5]; simp [big_length, bigs_length]
  have Hl5 := Lib.hid hl5
  clear hl5 hwr0 hbw
  have hp5 : w1.heap.size = w.heap.size + 2 := hsz
  have Hsz := Lib.hid hsz
  clear hsz hp5
  have e1 : sl a5 1 = .pointer (some ⟨w.heap.size, 0, none⟩) := kp5 1 (by decide)
  have e2 : sl a5 2 = .string ⟨#[]⟩ := kp5 2 (by decide)
  have e3 : sl a5 3 = .int .i64 0 := kp5 3 (by decide)
  have e5 : sl a5 5 = .pointer (some ⟨w.heap.size + 1, 0, none⟩) := kp5 5 (by decide)
  rw [dwF_of hs5]
  simp only [dwF, e1, e2, e3, e5]
  clear kp5 hs5 e1 e2 e3 e5
  generalize sl a5 = z
  have hc5 := (hpa.keep hch5.fr (by unfold oneB; omega)).cells
  go_upto_if 26 with fail
  clear hc5
  go_cut [] from 11 (fun wx => ∃ A, Chn w1 (w.heap.size + 1) w1.heap.size A (l5 ++ (if client = 0 then [128, 0] else [0, 0])) wx)
  case first =>
    rename_i J K' hJ hK'
    by_cases hc : client = 0
    · have hci : (client : Int) = 0 := by omega
      rw [if_pos hc] at hJ
      clear hc
      go_upto_region 7 with fail
      refine wp_at (c := regionOf Tryz.f81 7) (by kernel_rfl) (dwR7 w1 (w.heap.size + 1) w1.heap.size A5 l5 _ _ _ ⟨rfl, rfl⟩ rfl hch5 (by omega) ?_)
      intro a6 w6 A6 hs6 kp6 hch6
      refine hK' _ _ (Met.intro (hJ _ _ ?_))
      rw [dwF_of hs6]
      simp only [dwF, kp6 0 (by decide), kp6 1 (by decide), kp6 2 (by decide), kp6 3 (by decide), kp6 4 (by decide), kp6 5 (by decide), kp6 6 (by decide), kp6 7 (by decide), kp6 8 (by decide), kp6 9 (by decide), kp6 10 (by decide)]
      repeat apply Exists.intro
      exact ⟨⟨A6, hch6⟩, rfl⟩
    · have hci : ¬ (client : Int) = 0 := by omega
      rw [if_neg hc] at hJ
      clear hc
      go_upto_region 8 with fail
      refine wp_at (c := regionOf Tryz.f81 8) (by kernel_rfl) (dwR8 w1 (w.heap.size + 1) w1.heap.size A5 l5 _ _ _ ⟨rfl, rfl⟩ rfl hch5 (by omega) ?_)
      intro a6 w6 A6 hs6 kp6 hch6
      refine hK' _ _ (Met.intro (hJ _ _ ?_))
      rw [dwF_of hs6]
      simp only [dwF, kp6 0 (by decide), kp6 1 (by decide), kp6 2 (by decide), kp6 3 (by decide), kp6 4 (by decide), kp6 5 (by decide), kp6 6 (by decide), kp6 7 (by decide), kp6 8 (by decide), kp6 9 (by decide), kp6 10 (by decide)]
      repeat apply Exists.intro
      exact ⟨⟨A6, hch6⟩, rfl⟩
  case rest =>
  obtain ⟨A6, hch6⟩ := hcut
  rename_i w6
  go_upto_region 9 with fail
  refine wp_at (c := regionOf Tryz.f81 9) (by kernel_rfl) (dwR9 w.heap.size rp xid client yours next n cap Ao m0 m1 m2 m3 m4 m5 w1 (w.heap.size + 1) w1.heap.size A6 _ _ _ _ ⟨rfl, rfl⟩ rfl rfl hpa (by omega) hxid hcl hyo hnx hch6 (by simp only [List.length_append, hn5]; split <;> simp) ?_)
  intro a9 w9 A9 hs9 kp9 hch9
  have hhead : (l5 ++ (if client = 0 then [128, 0] else [0, 0]) ++ bigs 4 [(client : Int), (yours : Int), (next : Int), 0] ++ List.flatMap macB [(m0, m1, m2, m3, m4, m5)] ++
      List.replicate (236 - List.length (α := UInt8) (l5 ++ (if client = 0 then [128, 0] else [0, 0]) ++ bigs 4 [(client : Int), (yours : Int), (next : Int), 0] ++ List.flatMap macB [(m0, m1, m2, m3, m4, m5)])) (0 : UInt8) ++ List.flatten [[99, 130, 83, 99]]) = dhcHead rp xid client yours next [m0, m1, m2, m3, m4, m5] := by
    rw [← Hl5.out]
    unfold dhcHead zeroTo
    have e0 : ([] ++ [(if rp then (2 : UInt8) else 1), 1, 6, 0] ++ big 4 (xid : Int).toNat ++ bigs 2 [0] ++ (if client = 0 then [128, 0] else [0, 0]) ++ bigs 4 [(client : Int), (yours : Int), (next : Int), 0] ++ List.flatMap macB [(m0, m1, m2, m3, m4, m5)] : List UInt8) =
      [if rp then 2 else 1, 1, 6, 0] ++ big 4 xid ++ [0, 0] ++ (if client = 0 then [128, 0] else [0, 0]) ++ big 4 client ++ big 4 yours ++ big 4 next ++ big 4 0 ++ [m0, m1, m2, m3, m4, m5] := by
      simp [bigs, macB, big]
    rw [e0]
    simp
  rw [hhead] at hch9
  obtain ⟨l9, hl9⟩ : ∃ l, dhcHead rp xid client yours next [m0, m1, m2, m3, m4, m5] = l := ⟨_, rfl⟩
  have hn9 : l9.length = 240 := by rw [← hl9]; exact dhcHead_length _ _ _ _ _ _ rfl
  rw [hl9] at hch9
  have Hl9 := Lib.hid hl9
  clear hl9 hhead hch6 Hl5 hn5
  have e1 : sl a9 1 = .pointer (some ⟨w.heap.size, 0, none⟩) := kp9 1 (by decide)
  have e2 : sl a9 2 = .string ⟨#[]⟩ := kp9 2 (by decide)
  have e3 : sl a9 3 = .int .i64 0 := kp9 3 (by decide)
  have e5 : sl a9 5 = .pointer (some ⟨w.heap.size + 1, 0, none⟩) := kp9 5 (by decide)
  rw [dwF_of hs9]
  simp only [dwF, e1, e2, e3, e5]
  clear kp9 hs9 e1 e2 e3 e5
  generalize sl a9 = z
  have hc9 := (hpa.keep hch9.fr (by unfold oneB; omega)).cells
  go_wp2_with fail
  have hlw := wtO_len os
  have hAf : SlR w1 (fun k => w.heap.size ≤ k) 2 Ao n (optC os) := hA.fresh.keep (hf0.of_no _)
  go_loopw [52] (fun iv wr => ∃ (i : Nat) (A : Option Addr), i ≤ n ∧ iv = .int .i64 (i : Int) ∧ Chn w1 (w.heap.size + 1) w1.heap.size A (l9 ++ optsB (os.take i)) wr ∧ goodTo os i) (fun iv _ => n - (intOf iv).toNat)
  case atStart => exact ⟨0, A9, by omega, rfl, by simpa [optsB] using hch9, fun j o h => absurd h (by omega)⟩
  case round =>
    obtain ⟨i, A, hi, rfl, hch, hgood⟩ := hrel
    have hbl : (l9 ++ optsB (os.take i)).length ≤ 20000000 := by
      have h1 := optsB_len (os.take i)
      have h2 := wtO_take os i
      rw [List.length_append]; omega
    by_cases hlt : i < n
    · obtain ⟨o, ho⟩ : ∃ o, os[i]? = some o := ⟨_, List.getElem?_eq_getElem (by omega)⟩
      obtain ⟨ad, rfl, c1, c2⟩ := (hAf.keep (hch.fr.mono (by rintro b _ rfl; omega))).optAt ho
      have hol := wtO_at os i o ho
      have hxo := AlS.beside hch 72 #[.int .u8 (o.code.toNat : Int), .string (bs o.data)]
      have hch2 := hch.alloc (.cells #[.int .u8 (o.code.toNat : Int), .string (bs o.data)] 72)
      have Ho := Lib.hid ho
      have Hgood := Lib.hid hgood
      have Hch2 := Lib.hid hch2
      have Hxo := Lib.hid hxo
      clear ho hgood hch2 hxo hc9
      have hfb : Fr noB w (wr.alloc (.cells #[.int .u8 (o.code.toNat : Int), .string (bs o.data)] 72)) := (hf0.trans' hch.fr (by rintro b hb rfl; omega)).alloc _
      have hbadP : optBad o = true → wrDHCP rp xid client yours next [m0, m1, m2, m3, m4, m5] os = ([], 2) := by
        intro hb; unfold wrDHCP; rw [if_pos (List.any_eq_true.2 ⟨o, List.mem_of_getElem? Ho.out, hb⟩)]
      have HbadP := Lib.hid hbadP
      clear hbadP
      have hk : o.code = 0 ∨ o.code = 255 ∨ o.code = 52 ∨ (o.code ≠ 0 ∧ o.code ≠ 255 ∧ o.code ≠ 52) := by
        by_cases h1 : o.code = 0
        · exact .inl h1
        · by_cases h2 : o.code = 255
          · exact .inr (.inl h2)
          · by_cases h3 : o.code = 52
            · exact .inr (.inr (.inl h3))
            · exact .inr (.inr (.inr ⟨h1, h2, h3⟩))
      rcases hk with hk | hk | hk | ⟨k1, k2, k3⟩
      · have hki : (o.code.toNat : Int) = 0 := by rw [hk]; decide
        have Hno := Lib.hid (HbadP.out (by unfold optBad; rw [hk]; decide))
        rw [hki] at hfb
        clear hk HbadP Hxo Hch2
        go_wp2_with fail
        go_ret2
        exact ⟨by rw [Hno.out]; rfl, hfb⟩
      · have hki : (o.code.toNat : Int) = 255 := by rw [hk]; decide
        have Hno := Lib.hid (HbadP.out (by unfold optBad; rw [hk]; decide))
        rw [hki] at hfb
        clear hk HbadP Hxo Hch2
        go_wp2_with fail
        go_ret2
        exact ⟨by rw [Hno.out]; rfl, hfb⟩
      · have hki : (o.code.toNat : Int) = 52 := by rw [hk]; decide
        have Hno := Lib.hid (HbadP.out (by unfold optBad; rw [hk]; decide))
        rw [hki] at hfb
        clear hk HbadP Hxo Hch2
        go_wp2_with fail
        go_ret2
        exact ⟨by rw [Hno.out]; rfl, hfb⟩
      · have k1i : ((o.code.toNat : Int) == 0) = false := u8_ne k1
        have k2i : ((o.code.toNat : Int) == 255) = false := u8_ne k2
        have k3i : ((o.code.toNat : Int) == 52) = false := u8_ne k3
        have Hg1 : Hid (goodTo os (i + 1)) := Lib.hid (by
          intro j o' hj h2
          rcases Nat.lt_or_ge j i with h3 | h3
          · exact Hgood.out j o' h3 h2
          · obtain rfl : j = i := by omega
            rw [Ho.out] at h2; cases h2
            unfold optBad; simp [k1, k2, k3])
        clear k1 k2 k3 HbadP hfb
        go_wp2_with fail
        obtain ⟨go, hgo⟩ : ∃ go, wr.heap.size = go := ⟨_, rfl⟩
        rw [hgo] at Hxo
        rw [hgo]
        obtain ⟨w4, hw4⟩ : ∃ w4, wr.alloc (.cells #[.int .u8 (o.code.toNat : Int), .string (bs o.data)] 72) = w4 := ⟨_, rfl⟩
        rw [hw4] at Hch2 Hxo
        rw [hw4]
        have hch4 := Hch2.out
        have hxo4 := Hxo.out
        clear hgo hw4 Hch2 Hxo c1 c2 hch
        obtain ⟨lb, hlb⟩ : ∃ lb, l9 ++ optsB (os.take i) = lb := ⟨_, rfl⟩
        rw [hlb] at hch4 hbl
        have Hlb := Lib.hid hlb
        clear hlb
        have hcl := chunk_len o.data.length o.code o.data (Nat.le_refl _)
        go_loopw [8] (fun dv wx => ∃ (d l : List UInt8) (A' : Option Addr), dv = .string (bs d) ∧ Chn w1 (w.heap.size + 1) w1.heap.size A' l wx ∧ AlS true (.slice (some ⟨go, 0, none⟩) 0 0) 0 72 #[.int .u8 (o.code.toNat : Int), .string (bs o.data)] w1.heap.size A' wx ∧
            l ++ chunk o.code d = lb ++ chunk o.code o.data ∧ d.length ≤ o.data.length) (fun dv _ => match dv with | .string s => s.size | _ => 0)
        case atStart => exact ⟨o.data, lb, A, rfl, hch4, hxo4, rfl, Nat.le_refl _⟩
        case round =>
          obtain ⟨d, l, A', rfl, hchd, hxd, hld, hdl⟩ := hrel
          have hll : l.length ≤ 30000000 := by
            have h1 := congrArg List.length hld
            rw [List.length_append, List.length_append] at h1
            omega
          rcases Nat.lt_or_ge 255 d.length with h255 | h255
          · have hmin : min (d.length : Int) 255 = ((255 : Nat) : Int) := by omega
            have hne : (d.drop 255 == []) = false := by rw [beq_eq_false_iff_ne]; intro h; have := congrArg List.length h; simp at this; omega
            go_upto_region 17 with fail
            refine wp_at (c := regionOf Tryz.f81 17) (by kernel_rfl) (dwR17 go 255 o.code o.data d w1 (w.heap.size + 1) w1.heap.size A' l _ _ _ ⟨rfl, rfl⟩ rfl rfl rfl rfl (by omega) (by omega) (by omega) hxd hchd (by omega) ?_)
            intro a17 w17 A17 hs17 kp17 hch17 hx17
            rw [kp17.eq_put (n := 101) [74, 75, 76, 77, 78, 79, 80, 81, 82, 83, 84, 85] ⟨rfl, rfl⟩ hs17 (by decide) (by decide)]
            simp only [List.foldl, Act.put, List.setIfInBounds_toArray, List.set_cons_succ, List.set_cons_zero]
            generalize sl a17 = z17
            go_wp2_with fail
            refine ⟨⟨d.drop 255, _, A17, rfl, hch17, hx17, ?_, by rw [List.length_drop]; omega⟩, by simp [bs_size]; omega⟩
            rw [← hld, chunk_big o.code d h255]
            simp
          · have hmin : min (d.length : Int) 255 = (d.length : Int) := by omega
            have hne : (d.drop d.length == []) = true := by rw [List.drop_length]; rfl
            go_upto_region 17 with fail
            refine wp_at (c := regionOf Tryz.f81 17) (by kernel_rfl) (dwR17 go d.length o.code o.data d w1 (w.heap.size + 1) w1.heap.size A' l _ _ _ ⟨rfl, rfl⟩ rfl rfl rfl rfl (by omega) (by omega) (by omega) hxd hchd (by omega) ?_)
            intro a17 w17 A17 hs17 kp17 hch17 hx17
            rw [kp17.eq_put (n := 101) [74, 75, 76, 77, 78, 79, 80, 81, 82, 83, 84, 85] ⟨rfl, rfl⟩ hs17 (by decide) (by decide)]
            simp only [List.foldl, Act.put, List.setIfInBounds_toArray, List.set_cons_succ, List.set_cons_zero]
            generalize sl a17 = z17
            go_wp2_with fail
            refine ⟨⟨i + 1, A17, by omega, by rw [Int.natCast_add]; rfl, ?_, Hg1.out⟩, by simp only [intOf]; omega⟩
            have e : l9 ++ optsB (os.take (i + 1)) = l ++ [o.code, UInt8.ofNat d.length] ++ List.flatten [List.take d.length d] := by
              rw [optsB_succ Ho.out, ← List.append_assoc, Hlb.out, ← hld, chunk_small o.code d h255]
              simp
            rw [e]
            exact hch17
    · obtain rfl : i = n := by omega
      rw [List.take_of_length_le (by omega)] at hch hbl
      have hg : os.any optBad = false := goodTo_any (by rw [hn]; exact hgood)
      have Hg := Lib.hid hg
      clear hg hgood
      go_upto_region 21 with fail
      refine wp_at (c := regionOf Tryz.f81 21) (by kernel_rfl) (dwR21 w1 (w.heap.size + 1) w1.heap.size A _ _ _ _ ⟨rfl, rfl⟩ rfl hch (by omega) ?_)
      intro a21 w21 A21 hs21 kp21 ho10 hch21
      obtain ⟨lf, hlf⟩ : ∃ lf, dhcBody (dhcHead rp xid client yours next [m0, m1, m2, m3, m4, m5]) os = lf := ⟨_, rfl⟩
      have e10 : sl a21 10 = .string (bs lf) := by
        rw [ho10, ← hlf, Hl9.out]
        unfold dhcBody zeroTo optsB
        rfl
      have hsp : wrDHCP rp xid client yours next [m0, m1, m2, m3, m4, m5] os = if 1472 < lf.length then ([], 7) else (lf, 0) := by
        unfold wrDHCP
        rw [Hg.out, hlf]
        rfl
      have Hsp := Lib.hid hsp
      have hfr : Fr noB w w21 := hf0.trans' hch21.fr (by rintro b hb rfl; omega)
      clear hlf ho10 hsp
      rw [kp21.eq_put (n := 101) [92, 93, 94, 95, 96, 10] ⟨rfl, rfl⟩ hs21 (by decide) (by decide)]
      simp only [List.foldl, Act.put, List.setIfInBounds_toArray, List.set_cons_succ, List.set_cons_zero, e10]
      generalize sl a21 = z21
      by_cases hlen : 1472 < lf.length
      · have hli : (1472 : Int) < (lf.length : Int) := by omega
        have Hr : Hid (wrDHCP rp xid client yours next [m0, m1, m2, m3, m4, m5] os = ([], 7)) := Lib.hid (by rw [Hsp.out, if_pos hlen])
        clear hlen
        go_wp2_with fail
        go_ret2
        exact ⟨by rw [Hr.out]; rfl, hfr⟩
      · have hli : ¬ (1472 : Int) < (lf.length : Int) := by omega
        have Hr : Hid (wrDHCP rp xid client yours next [m0, m1, m2, m3, m4, m5] os = (lf, 0)) := Lib.hid (by rw [Hsp.out, if_neg hlen])
        clear hlen
        go_wp2_with fail
        go_ret2
        exact ⟨by rw [Hr.out]; rfl, hfr⟩
end Go.Proofs.YtcbkaiakdhiloabGreatDoor
namespace Go.Proofs.YtcbkaiakdhiloabGreatDoor
open Go.RowKit Go.Proofs
theorem conv_one {P : Program} (w : World) (src dst e : TypeId) (g : Nat) (c : UInt8) (hs : P.underlying src = some (.slice e)) (he : P.underlying e = some (.int .u8)) (hd : P.underlying dst = some .string) (hc : w.cell? ⟨g, 0, none⟩ = some (.int .u8 (c.toNat : Int))) :
    (convert src dst (.slice (some ⟨g, 0, none⟩) 1 1)).run P w = .ok (.string (bs [c])) w :=
  Lib.run_convert_whole w src e dst hs he hd g 0 (bs [c]) (fun i h => by
    have h1 : i < 1 := h
    obtain rfl : i = 0 := by omega
    exact hc) 1
end Go.Proofs.YtcbkaiakdhiloabGreatDoor
namespace Go.Proofs.YtcbkaiakdhiloabGreatDoor
open Go.RowKit Go.Proofs
attribute [local go_sem] bs_size bs_append bs_extract bs_toList
theorem wrDHCP_len (rp : Bool) (a b c d : Nat) (m : List UInt8) (os : List OptD) : (wrDHCP rp a b c d m os).1.length ≤ 1472 := by
  unfold wrDHCP
  split
  · simp
  · split
    · simp
    · simp only []; omega
theorem optC_app : ∀ a b : List OptD, optC (a ++ b) = optC a ++ optC b
  | [], b => rfl
  | o :: r, b => by simp only [List.cons_append, optC, optC_app r b]
theorem own_ne {w : World} {base : Nat} {e t : TypeId} {size n cap p : Nat} {A : Option Addr} {xs : List Value} {cs : Array Value} (h : w.ownsRow base e size (.slice A n cap) n xs) (hp : Bk w p t cs) (ht : t ≠ e) : ∀ a, A = some a → p ≠ a.block := by
  rintro a rfl rfl
  obtain ⟨_, ⟨h2, _⟩ | ⟨g', cap', cur, hv, hb, hg, _⟩⟩ := h
  · cases h2
  · cases hv
    rw [Bk, hg] at hp
    cases hp
    exact ht rfl
theorem wtO_app : ∀ (a b : List OptD), wtO (a ++ b) = wtO a + wtO b
  | [], b => by simp [wtO]
  | o :: r, b => by simp only [List.cons_append, wtO, wtO_app r b]; omega
theorem bootSayL0 (L : Lay) (s : St) (kind : UInt8) (os : List OptD) (A : Option Addr) (cap n : Nat) (w : World) (h : BootAt w L s) (hn : os.length = n) (hA : SlR w noB 2 A n (optC os)) (hwt : wtO os ≤ 1000) :
    Calls Tryz.prog 135 #[.pointer (some ⟨L.p, 0, none⟩), .int .u8 (kind.toNat : Int), .bool false, .slice A n cap] w (LPost L (s.say kind false os) (.tuple #[]) w) := by
  obtain ⟨mb, hmb⟩ : ∃ mb, (wrDHCP false s.xid s.address 0 0 [s.c.card.1, s.c.card.2.1, s.c.card.2.2.1, s.c.card.2.2.2.1, s.c.card.2.2.2.2.1, s.c.card.2.2.2.2.2] (St.msgO kind os)).1 = mb := ⟨_, rfl⟩
  have hmbl : mb.length ≤ 1472 := by rw [← hmb]; exact wrDHCP_len _ _ _ _ _ _ _
  have hsay : s.say kind false os = s.took.send (255, 255, 255, 255, 255, 255) 2048 (s.packet 4294967295 68 67 mb) := by rw [← hmb]; rfl
  have hadr : s.address < 4294967296 := by unfold St.address; split; exact h.ok.addr; omega
  have hnw : n ≤ 1000 := by have := wtO_len os; omega
  have Hn := Lib.hid hn
  have Hmb := Lib.hid hmb
  have Hsay := Lib.hid hsay
  clear hmb hsay hn
  go_enter Tryz.func135, Tryz.ntmps135
  go_upto_region 0 with fail
  go_cut [8] from 11 to 23 (fun v wx => ∃ g, v = .pointer (some ⟨g, 0, none⟩) ∧ w.heap.size ≤ g ∧ Bk wx g 75 #[.bool false, .int .u32 (s.xid : Int), .int .u32 (s.address : Int), .int .u32 0, .int .u32 0, .int .u8 (s.c.card.1.toNat : Int), .int .u8 (s.c.card.2.1.toNat : Int), .int .u8 (s.c.card.2.2.1.toNat : Int), .int .u8 (s.c.card.2.2.2.1.toNat : Int), .int .u8 (s.c.card.2.2.2.2.1.toNat : Int), .int .u8 (s.c.card.2.2.2.2.2.toNat : Int), .slice none 0 0] ∧ Fr noB w wx)
  case first =>
    refine wp_region_pls (by kernel_rfl) (fun w' => BootAt w' L s ∧ SlR w' noB 2 A n (optC os) ∧ Fr noB w w') [14] (.p 0 (.p 1 (.p 2 (.p 3 (.p 5 (.p 7 (.p 8 (.p 9 (.p 10 (.q 4 (.q 11 (.e2 6 (.p 12 (.e 13 (.e 14 (.nil)))) 13 (.e 6 (.p 12 (.e 14 (.nil)))))))))))))))) (by kernel_rfl) (⟨h.drew, hA.keep (Fr.refl _ _).drew, (Fr.refl _ _).drew⟩) ?_
    intro ops Q' hO hQ' wr1 hR1
    iterate 9 (refine pl_p0 hO rfl rfl ?_ (fun w' => ?_) ?_; rotate_left 1; (focus (go_simp; ((try with_reducible rfl); done))); simp only [Act.put, List.setIfInBounds_toArray, List.set_cons_zero, List.set_cons_succ])
    iterate 2 (refine pl_q0 hO rfl rfl ?_ (fun w' hS => ?_) ?_; rotate_left 1; (focus (obtain ⟨hB, hA', hF⟩ := hS; have c0 := hB.g0; have c1 := hB.g1; have c2 := hB.g2; have c3 := hB.g3; have c4 := hB.g4; have c5 := hB.g5; have c22 := hB.g22; go_simp; ((try with_reducible rfl); done))); simp only [Act.put, List.setIfInBounds_toArray, List.set_cons_zero, List.set_cons_succ])
    refine pl_e2 ?_ ?_
    · skip
      refine pl_e0 hO rfl rfl rfl (fun K hK => ?_)
      go_simp
      refine (bootAddress L s _ hR1.1).mono ?_
      rintro e w2 ⟨rfl, h2⟩
      subst h2
      refine hK _ _ (hR1) (fun hR_6 => ?_)
      clear hK K
      refine pl_p0 hO rfl rfl ?_ (fun w' => ?_) ?_; rotate_left 1; (focus (go_simp; ((try with_reducible rfl); done))); simp only [Act.put, List.setIfInBounds_toArray, List.set_cons_zero, List.set_cons_succ]
      refine pl_e0 hO rfl rfl rfl (fun K hK => ?_)
      go_simp
      refine hK _ _ (⟨hR_6.1.none ((Fr.refl _ _).alloc _), hR_6.2.1.keep ((Fr.refl _ _).alloc _), hR_6.2.2.none ((Fr.refl _ _).alloc _)⟩) (fun hR_13 => ?_)
      clear hK K
      refine pl_b0 hO rfl rfl rfl (fun K hK => ?_)
      refine wp_store_bk 75 (.tmp 8) (.tmp 23) rfl wr1.heap.size _ _ #[.bool false, .int .u32 (s.xid : Int), .int .u32 (s.address : Int), .int .u32 0, .int .u32 0, .int .u8 (s.c.card.1.toNat : Int), .int .u8 (s.c.card.2.1.toNat : Int), .int .u8 (s.c.card.2.2.1.toNat : Int), .int .u8 (s.c.card.2.2.2.1.toNat : Int), .int .u8 (s.c.card.2.2.2.2.1.toNat : Int), .int .u8 (s.c.card.2.2.2.2.2.toNat : Int), .slice none 0 0] rfl rfl (Bk.new wr1 75 #[.bool false, .int .u32 0, .int .u32 0, .int .u32 0, .int .u32 0, .int .u8 0, .int .u8 0, .int .u8 0, .int .u8 0, .int .u8 0, .int .u8 0, .slice none 0 0]) rfl (by kernel_rfl) (by kernel_rfl) ?_
      intro w9 hx9 hf9
      refine hK _ _ ?_
      clear hK K
      refine pl_nil (hQ' _ _ ?_)
      go_wp2_with fail
      go_meet
      case rel => exact ⟨_, rfl, hR1.2.2.size, hx9, (hR1.2.2.alloc (.cells #[.bool false, .int .u32 0, .int .u32 0, .int .u32 0, .int .u32 0, .int .u8 0, .int .u8 0, .int .u8 0, .int .u8 0, .int .u8 0, .int .u8 0, .slice none 0 0] 75)).trans' hf9 (fun b hb e => by have e' : b = wr1.heap.size := e; have := hR1.2.2.size; omega)⟩
    · skip
      refine pl_e0 hO rfl rfl rfl (fun K hK => ?_)
      go_simp
      refine hK _ _ (⟨hR1.1.none ((Fr.refl _ _).alloc _), hR1.2.1.keep ((Fr.refl _ _).alloc _), hR1.2.2.none ((Fr.refl _ _).alloc _)⟩) (fun hR_13 => ?_)
      clear hK K
      refine pl_e0 hO rfl rfl rfl (fun K hK => ?_)
      go_simp
      refine (bootAddress L s _ hR_13.1).mono ?_
      rintro e w2 ⟨rfl, h2⟩
      subst h2
      refine hK _ _ (hR_13) (fun hR_6 => ?_)
      clear hK K
      refine pl_p0 hO rfl rfl ?_ (fun w' => ?_) ?_; rotate_left 1; (focus (go_simp; ((try with_reducible rfl); done))); simp only [Act.put, List.setIfInBounds_toArray, List.set_cons_zero, List.set_cons_succ]
      refine pl_b0 hO rfl rfl rfl (fun K hK => ?_)
      refine wp_store_bk 75 (.tmp 8) (.tmp 23) rfl wr1.heap.size _ _ #[.bool false, .int .u32 (s.xid : Int), .int .u32 (s.address : Int), .int .u32 0, .int .u32 0, .int .u8 (s.c.card.1.toNat : Int), .int .u8 (s.c.card.2.1.toNat : Int), .int .u8 (s.c.card.2.2.1.toNat : Int), .int .u8 (s.c.card.2.2.2.1.toNat : Int), .int .u8 (s.c.card.2.2.2.2.1.toNat : Int), .int .u8 (s.c.card.2.2.2.2.2.toNat : Int), .slice none 0 0] rfl rfl (Bk.new wr1 75 #[.bool false, .int .u32 0, .int .u32 0, .int .u32 0, .int .u32 0, .int .u8 0, .int .u8 0, .int .u8 0, .int .u8 0, .int .u8 0, .int .u8 0, .slice none 0 0]) rfl (by kernel_rfl) (by kernel_rfl) ?_
      intro w9 hx9 hf9
      refine hK _ _ ?_
      clear hK K
      refine pl_nil (hQ' _ _ ?_)
      go_wp2_with fail
      go_meet
      case rel => exact ⟨_, rfl, hR1.2.2.size, hx9, (hR1.2.2.alloc (.cells #[.bool false, .int .u32 0, .int .u32 0, .int .u32 0, .int .u32 0, .int .u8 0, .int .u8 0, .int .u8 0, .int .u8 0, .int .u8 0, .int .u8 0, .slice none 0 0] 75)).trans' hf9 (fun b hb e => by have e' : b = wr1.heap.size := e; have := hR1.2.2.size; omega)⟩
  case rest =>
  obtain ⟨g, rfl, hg, hB, hF⟩ := hcut
  obtain ⟨i0, hi0, hz0, hz1, hz2⟩ := info_parts opt_info
  have hcv := conv_one (P := Tryz.prog) (wc.alloc (.cells #[.int .u8 (kind.toNat : Int)] 5)) 98 9 5 wc.heap.size kind Tryz.underlying98 Tryz.underlying5 Tryz.underlying9 ((Bk.new wc 5 #[.int .u8 (kind.toNat : Int)]).cells 0)
  have hO1 := World.ownsRow_lit (base := w.heap.size) (e := 72) (size := 2) (wc.alloc (.cells #[.int .u8 (kind.toNat : Int)] 5)) #[.int .u8 53, .string (bs [kind])] 1 (by have := hF.size; simp; omega) (by decide) rfl
  rw [show (wc.alloc (.cells #[.int .u8 (kind.toNat : Int)] 5)).heap.size = wc.heap.size + 1 by simp] at hO1
  have f2 : Fr noB wc ((wc.alloc (.cells #[.int .u8 (kind.toNat : Int)] 5)).alloc (.cells #[.int .u8 53, .string (bs [kind])] 72)) := ((Fr.refl _ _).alloc _).alloc _
  have hA2 := (hA.keep hF).keep f2
  have hlt := hB.lt
  have HO1 := Lib.hid hO1
  have Hwl := Lib.hid hF.size
  have HA2 := Lib.hid hA2
  have Hlt := Lib.hid hlt
  have Hg := Lib.hid hg
  clear hO1 hA2 hlt hg
  go_upto_region 1 with fail
  go_cut [] from 24 to 31 (fun wx => ∃ A3 cap3, Bk wx g 75 #[.bool false, .int .u32 (s.xid : Int), .int .u32 (s.address : Int), .int .u32 0, .int .u32 0, .int .u8 (s.c.card.1.toNat : Int), .int .u8 (s.c.card.2.1.toNat : Int), .int .u8 (s.c.card.2.2.1.toNat : Int), .int .u8 (s.c.card.2.2.2.1.toNat : Int), .int .u8 (s.c.card.2.2.2.2.1.toNat : Int), .int .u8 (s.c.card.2.2.2.2.2.toNat : Int), .slice A3 (1 + n) cap3] ∧ wx.ownsRow w.heap.size 72 2 (.slice A3 (1 + n) cap3) (1 + n) (optC ([⟨53, [kind]⟩] ++ os)) ∧ Fr noB w wx)
  case first =>
    go_wp2_with ((refine wpList_app rfl (.tmp 28) (.tmp 29) _ rfl w.heap.size 72 i0 _ 2 24 Tryz.underlying73 hi0 hz0 hz1 hz2 rfl (by omega) (some ⟨wc.heap.size + 1, 0, none⟩) 1 _ _ rfl HO1.out noB A n _ _ rfl HA2.out optC_one (by unfold maxLen; omega) (by omega) (by have := Hwl.out; simp; omega) ?_); intro A3 cap3 w3 hap; have f3 : Fr noB wc w3 := f2.trans' hap.fr (by rintro b hb ⟨a, e, e2⟩; cases e; simp only at e2; omega); have hB3 := hB.keep f3 (fun x => x); have hBc3 := hB3.cells; have hBf3 := hB3.frees; have Hap := Lib.hid hap; have HB3 := Lib.hid hB3; have HF3 := Lib.hid f3; clear hap hB3 f3 hcv hi0 hz0 hz1 hz2 f2 hB)
    go_meet
    case rel =>
      have hap := Hap.out
      have f3 := HF3.out
      have hB3 := HB3.out
      exact ⟨A3, cap3, hB3.set 11 (.slice A3 (1 + n) cap3), own_far hap.own (p := ⟨g, 11, none⟩) hB3 (by decide) (.slice A3 (1 + n) cap3), (hF.none f3).setCell (p := ⟨g, 11, none⟩) (fun x => absurd x (by have := Hg.out; show ¬ g < w.heap.size; omega)) _⟩
  case rest =>
  obtain ⟨A3, cap3, hB4, hO4, f4⟩ := hcut
  obtain ⟨N, hN⟩ : ∃ N, 1 + n = N := ⟨_, rfl⟩
  rw [hN] at hB4 hO4
  have hNb : N ≤ 1001 := by omega
  have HN := Lib.hid hN
  have Hws := Lib.hid f4.size
  clear hN hcv f2 hB hF
  obtain ⟨w4, hw4⟩ : ∃ w4, w4 = wc := ⟨_, rfl⟩
  subst hw4
  by_cases hk : kind = 4
  · have hk1 : ((kind.toNat : Int) != 4) = false := by rw [hk]; rfl
    have hm : St.msgO kind os = [⟨53, [kind]⟩] ++ os := by unfold St.msgO; rw [if_pos hk, List.append_nil]
    have hO5 : w4.ownsRow w.heap.size 72 2 (.slice A3 N cap3) N (optC (St.msgO kind os)) := by rw [hm]; exact hO4
    have hN2 : (St.msgO kind os).length = N := by rw [hm, List.length_append, Hn.out]; exact HN.out
    have hosw : wtO (St.msgO kind os) ≤ 2097152 := by rw [hm, wtO_app]; simp only [wtO, List.length_cons, List.length_nil]; omega
    clear hm hk hO4
    have hBt := hB4
    have hBc := hBt.cells
    have hAt := own_slr hO5
    have hFt := f4
    have hMt := h.none hFt
    have hw := dhcpWrite false s.xid s.address 0 0 s.c.card.1 s.c.card.2.1 s.c.card.2.2.1 s.c.card.2.2.2.1 s.c.card.2.2.2.2.1 s.c.card.2.2.2.2.2 ((St.msgO kind os)) A3 cap3 w4 h.ok.xid hadr (by decide) (by decide) (by rw [hN2]; exact hAt) hosw
    rw [hN2] at hw
    have Hw := Lib.hid hw
    clear hw
    go_wp2_with fail
    refine Hw.out.mono ?_
    rintro e w6 ⟨rfl, f6⟩
    rw [Hmb.out]
    have hM6 := hMt.none f6
    have hF6 := hFt.none f6
    go_upto_region 7 with fail
    refine wp_region_pls (by kernel_rfl) (fun w' => BootAt w' L s ∧ Fr noB w w') [4, 5] (.p 0 (.p 2 (.p 3 (.e2 1 (.e 4 (.e 5 (.nil))) 4 (.e 1 (.e 5 (.nil))))))) (by kernel_rfl) (⟨hM6.drew, hF6.drew⟩) ?_
    intro ops Q' hO hQ' wr1 hR1
    iterate 3 (refine pl_p0 hO rfl rfl ?_ (fun w' => ?_) ?_; rotate_left 1; (focus (go_simp; ((try with_reducible rfl); done))); simp only [Act.put, List.setIfInBounds_toArray, List.set_cons_zero, List.set_cons_succ])
    refine pl_e2 ?_ ?_
    · skip
      refine pl_e0 hO rfl rfl rfl (fun K hK => ?_)
      have o0 := hR1.1.gb.all.2 0 _ rfl; have o1 := hR1.1.gb.all.2 1 _ rfl; have o2 := hR1.1.gb.all.2 2 _ rfl; have o3 := hR1.1.gb.all.2 3 _ rfl; have o4 := hR1.1.gb.all.2 4 _ rfl; have o5 := hR1.1.gb.all.2 5 _ rfl
      go_simp
      refine hK _ _ (hR1) (fun hR_1 => ?_)
      clear hK K
      refine pl_b0 hO rfl rfl rfl (fun K hK => ?_)
      go_simp
      refine (bootPacketL L s 4294967295 68 67 mb _ hR_1.1 (by decide) (by decide) (by decide) (by omega)).mono ?_
      rintro e w7 ⟨rfl, hM7, f7⟩
      have hpl := packet_len s 4294967295 68 67 mb
      obtain ⟨pk, hpk⟩ : ∃ pk, s.packet 4294967295 68 67 mb = pk := ⟨_, rfl⟩
      rw [hpk] at hpl ⊢
      have Hpk := Lib.hid hpk
      clear hpk
      refine hK _ _ ?_
      clear hK K
      refine pl_b0 hO rfl rfl rfl (fun K hK => ?_)
      go_simp
      refine (bootSendL L s.took 255 255 255 255 255 255 2048 pk _ hM7 (by decide) (by omega)).mono ?_
      rintro e w8 ⟨rfl, hM8, f8⟩
      refine hK _ _ ?_
      clear hK K
      refine pl_nil (hQ' _ _ ?_)
      go_wp2_with fail
      refine bodyPost_end (results_none rfl _ _ _) rfl ?_
      rw [Hsay.out, Hpk.out]
      exact ⟨rfl, hM8, (hR1.2.of_no (own' L)).trans (f7.trans f8)⟩
    · skip
      refine pl_b0 hO rfl rfl rfl (fun K hK => ?_)
      go_simp
      refine (bootPacketL L s 4294967295 68 67 mb _ hR1.1 (by decide) (by decide) (by decide) (by omega)).mono ?_
      rintro e w7 ⟨rfl, hM7, f7⟩
      have hpl := packet_len s 4294967295 68 67 mb
      obtain ⟨pk, hpk⟩ : ∃ pk, s.packet 4294967295 68 67 mb = pk := ⟨_, rfl⟩
      rw [hpk] at hpl ⊢
      have Hpk := Lib.hid hpk
      clear hpk
      refine hK _ _ ?_
      clear hK K
      refine pl_b0 hO rfl rfl rfl (fun K hK => ?_)
      have o0 := hM7.gb.all.2 0 _ rfl; have o1 := hM7.gb.all.2 1 _ rfl; have o2 := hM7.gb.all.2 2 _ rfl; have o3 := hM7.gb.all.2 3 _ rfl; have o4 := hM7.gb.all.2 4 _ rfl; have o5 := hM7.gb.all.2 5 _ rfl
      go_simp
      refine hK _ _ ?_
      clear hK K
      refine pl_b0 hO rfl rfl rfl (fun K hK => ?_)
      go_simp
      refine (bootSendL L s.took 255 255 255 255 255 255 2048 pk _ hM7 (by decide) (by omega)).mono ?_
      rintro e w8 ⟨rfl, hM8, f8⟩
      refine hK _ _ ?_
      clear hK K
      refine pl_nil (hQ' _ _ ?_)
      go_wp2_with fail
      refine bodyPost_end (results_none rfl _ _ _) rfl ?_
      rw [Hsay.out, Hpk.out]
      exact ⟨rfl, hM8, (hR1.2.of_no (own' L)).trans (f7.trans f8)⟩
  · have hk1 : ((kind.toNat : Int) != 4) = true := by
      have h1 : kind.toNat ≠ 4 := fun e => hk (UInt8.toNat_inj.1 e)
      simp; omega
    have hm : St.msgO kind os = ([⟨53, [kind]⟩] ++ os) ++ [⟨55, [1, 3, 51, 54, 58, 59]⟩] := by unfold St.msgO; rw [if_neg hk]
    obtain ⟨i0, hi0, hz0, hz1, hz2⟩ := info_parts opt_info
    have hBc4 := hB4.cells
    have hO5 := hO4.alloc (.cells #[.int .u8 55, .string ⟨#[1, 3, 51, 54, 58, 59]⟩] 72)
    have hsr : SlR (w4.alloc (.cells #[.int .u8 55, .string ⟨#[1, 3, 51, 54, 58, 59]⟩] 72)) noB 2 (some ⟨w4.heap.size, 0, none⟩) 1 (optC [⟨55, [1, 3, 51, 54, 58, 59]⟩]) := SlR.of_bk (Bk.new w4 72 #[.int .u8 55, .string ⟨#[1, 3, 51, 54, 58, 59]⟩]) (fun x => x) rfl
    have hblk := own_blk hO4
    have hgne := own_ne hO4 hB4 (by decide)
    go_upto_region 3 with fail
    go_cut [] from 34 to 39 (fun wx => ∃ A4 cap4, Bk wx g 75 #[.bool false, .int .u32 (s.xid : Int), .int .u32 (s.address : Int), .int .u32 0, .int .u32 0, .int .u8 (s.c.card.1.toNat : Int), .int .u8 (s.c.card.2.1.toNat : Int), .int .u8 (s.c.card.2.2.1.toNat : Int), .int .u8 (s.c.card.2.2.2.1.toNat : Int), .int .u8 (s.c.card.2.2.2.2.1.toNat : Int), .int .u8 (s.c.card.2.2.2.2.2.toNat : Int), .slice A4 (N + 1) cap4] ∧ wx.ownsRow w.heap.size 72 2 (.slice A4 (N + 1) cap4) (N + 1) (optC (St.msgO kind os)) ∧ Fr noB w wx)
    case first =>
      go_wp2_with ((refine wpList_app rfl (.tmp 35) (.tmp 37) _ rfl w.heap.size 72 i0 _ 2 24 Tryz.underlying73 hi0 hz0 hz1 hz2 rfl (by omega) A3 N _ _ rfl hO5 noB (some ⟨w4.heap.size, 0, none⟩) 1 _ _ rfl hsr optC_one (by unfold maxLen; omega) (by omega) (by have := Hws.out; simp; omega) ?_); intro A4 cap4 w6 hap2; have f6 : Fr noB w w6 := (f4.alloc (.cells #[.int .u8 55, .string ⟨#[1, 3, 51, 54, 58, 59]⟩] 72)).trans' hap2.fr (by rintro b hb ⟨a, e, e2⟩; have := hblk a e; omega); have hB6 := (hB4.alloc (.cells #[.int .u8 55, .string ⟨#[1, 3, 51, 54, 58, 59]⟩] 72)).keep hap2.fr (by rintro ⟨a, e, e2⟩; exact hgne a e e2.symm); have hBc6 := hB6.cells; have hBf6 := hB6.frees; have Hap2 := Lib.hid hap2; have HB6 := Lib.hid hB6; have HF6 := Lib.hid f6; clear hap2 hB6 f6 hi0 hz0 hz1 hz2)
      go_meet
      case rel =>
        have hap2 := Hap2.out
        have f6 := HF6.out
        have hB6 := HB6.out
        exact ⟨A4, cap4, hB6.set 11 (.slice A4 (N + 1) cap4), by rw [hm, optC_app]; exact own_far hap2.own (p := ⟨g, 11, none⟩) hB6 (by decide) (.slice A4 (N + 1) cap4), f6.setCell (p := ⟨g, 11, none⟩) (fun x => absurd x (by have := Hg.out; show ¬ g < w.heap.size; omega)) _⟩
    case rest =>
    obtain ⟨A4, cap4, hB7, hO8, f7⟩ := hcut
    obtain ⟨w7, hw7⟩ : ∃ w7, w7 = wc := ⟨_, rfl⟩
    subst hw7
    obtain ⟨N2, hN⟩ : ∃ N2, N + 1 = N2 := ⟨_, rfl⟩
    rw [hN] at hB7 hO8
    have hN2 : (St.msgO kind os).length = N2 := by rw [hm, List.length_append, List.length_append, Hn.out]; have := HN.out; simp only [List.length_cons, List.length_nil]; omega
    have hosw : wtO (St.msgO kind os) ≤ 2097152 := by rw [hm, wtO_app, wtO_app]; simp only [wtO, List.length_cons, List.length_nil]; omega
    clear hm hk hN
    have hBt := hB7
    have hBc := hBt.cells
    have hAt := own_slr hO8
    have hFt := f7
    have hMt := h.none hFt
    have hw := dhcpWrite false s.xid s.address 0 0 s.c.card.1 s.c.card.2.1 s.c.card.2.2.1 s.c.card.2.2.2.1 s.c.card.2.2.2.2.1 s.c.card.2.2.2.2.2 ((St.msgO kind os)) A4 cap4 w7 h.ok.xid hadr (by decide) (by decide) (by rw [hN2]; exact hAt) hosw
    rw [hN2] at hw
    have Hw := Lib.hid hw
    clear hw
    go_wp2_with fail
    refine Hw.out.mono ?_
    rintro e w6 ⟨rfl, f6⟩
    rw [Hmb.out]
    have hM6 := hMt.none f6
    have hF6 := hFt.none f6
    go_upto_region 7 with fail
    refine wp_region_pls (by kernel_rfl) (fun w' => BootAt w' L s ∧ Fr noB w w') [4, 5] (.p 0 (.p 2 (.p 3 (.e2 1 (.e 4 (.e 5 (.nil))) 4 (.e 1 (.e 5 (.nil))))))) (by kernel_rfl) (⟨hM6.drew, hF6.drew⟩) ?_
    intro ops Q' hO hQ' wr1 hR1
    iterate 3 (refine pl_p0 hO rfl rfl ?_ (fun w' => ?_) ?_; rotate_left 1; (focus (go_simp; ((try with_reducible rfl); done))); simp only [Act.put, List.setIfInBounds_toArray, List.set_cons_zero, List.set_cons_succ])
    refine pl_e2 ?_ ?_
    · skip
      refine pl_e0 hO rfl rfl rfl (fun K hK => ?_)
      have o0 := hR1.1.gb.all.2 0 _ rfl; have o1 := hR1.1.gb.all.2 1 _ rfl; have o2 := hR1.1.gb.all.2 2 _ rfl; have o3 := hR1.1.gb.all.2 3 _ rfl; have o4 := hR1.1.gb.all.2 4 _ rfl; have o5 := hR1.1.gb.all.2 5 _ rfl
      go_simp
      refine hK _ _ (hR1) (fun hR_1 => ?_)
      clear hK K
      refine pl_b0 hO rfl rfl rfl (fun K hK => ?_)
      go_simp
      refine (bootPacketL L s 4294967295 68 67 mb _ hR_1.1 (by decide) (by decide) (by decide) (by omega)).mono ?_
      rintro e w7 ⟨rfl, hM7, f7⟩
      have hpl := packet_len s 4294967295 68 67 mb
      obtain ⟨pk, hpk⟩ : ∃ pk, s.packet 4294967295 68 67 mb = pk := ⟨_, rfl⟩
      rw [hpk] at hpl ⊢
      have Hpk := Lib.hid hpk
      clear hpk
      refine hK _ _ ?_
      clear hK K
      refine pl_b0 hO rfl rfl rfl (fun K hK => ?_)
      go_simp
      refine (bootSendL L s.took 255 255 255 255 255 255 2048 pk _ hM7 (by decide) (by omega)).mono ?_
      rintro e w8 ⟨rfl, hM8, f8⟩
      refine hK _ _ ?_
      clear hK K
      refine pl_nil (hQ' _ _ ?_)
      go_wp2_with fail
      refine bodyPost_end (results_none rfl _ _ _) rfl ?_
      rw [Hsay.out, Hpk.out]
      exact ⟨rfl, hM8, (hR1.2.of_no (own' L)).trans (f7.trans f8)⟩
    · skip
      refine pl_b0 hO rfl rfl rfl (fun K hK => ?_)
      go_simp
      refine (bootPacketL L s 4294967295 68 67 mb _ hR1.1 (by decide) (by decide) (by decide) (by omega)).mono ?_
      rintro e w7 ⟨rfl, hM7, f7⟩
      have hpl := packet_len s 4294967295 68 67 mb
      obtain ⟨pk, hpk⟩ : ∃ pk, s.packet 4294967295 68 67 mb = pk := ⟨_, rfl⟩
      rw [hpk] at hpl ⊢
      have Hpk := Lib.hid hpk
      clear hpk
      refine hK _ _ ?_
      clear hK K
      refine pl_b0 hO rfl rfl rfl (fun K hK => ?_)
      have o0 := hM7.gb.all.2 0 _ rfl; have o1 := hM7.gb.all.2 1 _ rfl; have o2 := hM7.gb.all.2 2 _ rfl; have o3 := hM7.gb.all.2 3 _ rfl; have o4 := hM7.gb.all.2 4 _ rfl; have o5 := hM7.gb.all.2 5 _ rfl
      go_simp
      refine hK _ _ ?_
      clear hK K
      refine pl_b0 hO rfl rfl rfl (fun K hK => ?_)
      go_simp
      refine (bootSendL L s.took 255 255 255 255 255 255 2048 pk _ hM7 (by decide) (by omega)).mono ?_
      rintro e w8 ⟨rfl, hM8, f8⟩
      refine hK _ _ ?_
      clear hK K
      refine pl_nil (hQ' _ _ ?_)
      go_wp2_with fail
      refine bodyPost_end (results_none rfl _ _ _) rfl ?_
      rw [Hsay.out, Hpk.out]
      exact ⟨rfl, hM8, (hR1.2.of_no (own' L)).trans (f7.trans f8)⟩
end Go.Proofs.YtcbkaiakdhiloabGreatDoor
namespace Go.Proofs.YtcbkaiakdhiloabGreatDoor
open Go.RowKit Go.Proofs
attribute [local go_sem] bs_size bs_append bs_extract bs_toList
theorem bootFailL (L : Lay) (s : St) (w : World) (h : BootAt w L s) :
    Calls Tryz.prog 46 #[.pointer (some ⟨L.p, 0, none⟩)] w (LPost2 L s.fail (.tuple #[]) w) := by
  have hcall := bootDropL L s w h
  have Hcall := Lib.hid hcall
  clear hcall
  go_enter Tryz.func46, Tryz.ntmps46
  go_wp2_with fail
  refine Hcall.out.mono ?_
  rintro e w1 ⟨rfl, ⟨p', rx', rxs', tx', txs', mp', im', ic'⟩, hp, ho, hB, hF⟩
  have hp' : p' = L.p := hp
  subst hp'
  have c18 := hB.g18
  have c33 := hB.g33
  have hfz := hB.fr
  dsimp only at c18 c33 hfz
  have hs : s.drop.boots = s.boots := rfl
  have hph : s.drop.phase = 0 := rfl
  rw [hs] at c18
  rw [hph] at c33
  have hown : ∀ b, b < w.heap.size → own' ⟨L.p, rx', rxs', tx', txs', mp', im', ic'⟩ b → own' L b := fun b hb hx => by
    rcases ho b hx with h | h
    · exact h
    · omega
  have hw := i64w (s.boots + 1)
  by_cases h3 : wrap64 (s.boots + 1) = 3
  · have hu : s.fail = { s.drop with boots := wrap64 (s.boots + 1), phase := 4 } := by unfold St.fail; rw [if_pos h3]
    rw [h3] at hw hu
    have Hu := Lib.hid hu
    clear hu h3 hs hph
    go_wp2_with fail
    refine bodyPost_end (results_none rfl _ _ _) rfl ⟨rfl, ⟨L.p, rx', rxs', tx', txs', mp', im', ic'⟩, rfl, ho, ?_, ?_⟩
    · rw [Hu.out]
      have hf := ((Fr.refl (oneB L.p) w1).setCell (p := ⟨L.p, 18, none⟩) (fun _ => rfl) (.int .i64 3)).setCell (p := ⟨L.p, 33, none⟩) (fun _ => rfl) (.int .i64 4)
      exact hB.turn _ hf ((hB.bk.set 18 _).set 33 _) rfl rfl rfl rfl rfl { drop_ok h.ok with }
    · exact hF.trans' (((Fr.refl (own' ⟨L.p, rx', rxs', tx', txs', mp', im', ic'⟩) w1).setCell (p := ⟨L.p, 18, none⟩) (fun _ => own_p ⟨L.p, rx', rxs', tx', txs', mp', im', ic'⟩) _).setCell (p := ⟨L.p, 33, none⟩) (fun _ => own_p ⟨L.p, rx', rxs', tx', txs', mp', im', ic'⟩) _) hown
  · have hu : s.fail = { s.drop with boots := wrap64 (s.boots + 1) } := by unfold St.fail; rw [if_neg h3]
    have h3b : (wrap64 (s.boots + 1) == 3) = false := by rw [beq_eq_false_iff_ne]; exact h3
    have Hu := Lib.hid hu
    clear hu h3 hs hph
    go_wp2_with fail
    refine bodyPost_end (results_none rfl _ _ _) rfl ⟨rfl, ⟨L.p, rx', rxs', tx', txs', mp', im', ic'⟩, rfl, ho, ?_, ?_⟩
    · rw [Hu.out]
      have hf := (Fr.refl (oneB L.p) w1).setCell (p := ⟨L.p, 18, none⟩) (fun _ => rfl) (.int .i64 (wrap64 (s.boots + 1)))
      exact hB.turn _ hf (hB.bk.set 18 _) rfl rfl rfl rfl rfl { drop_ok h.ok with }
    · exact hF.trans' ((Fr.refl (own' ⟨L.p, rx', rxs', tx', txs', mp', im', ic'⟩) w1).setCell (p := ⟨L.p, 18, none⟩) (fun _ => own_p ⟨L.p, rx', rxs', tx', txs', mp', im', ic'⟩) _) hown
end Go.Proofs.YtcbkaiakdhiloabGreatDoor
namespace Go.Proofs.YtcbkaiakdhiloabGreatDoor
open Go.RowKit Go.Proofs
attribute [local go_sem] bs_size bs_append bs_extract bs_toList
theorem BootAt.set1 {w : World} {L : Lay} {s : St} (h : BootAt w L s) (k : Nat) (v : Value) (s' : St) (he : (bootC s L).setIfInBounds k v = bootC s' L) (hc : s'.c = s.c) (hr : s'.rx = s.rx) (ht : s'.tx = s.tx) (hm : s'.cache = s.cache) (hi : s'.image = s.image) (ok : s'.Ok) :
    BootAt (w.setCell ⟨L.p, k, Option.none⟩ v) L s' := by
  have hb : Bk (w.setCell ⟨L.p, k, Option.none⟩ v) L.p 102 (bootC s' L) := by rw [← he]; exact h.bk.set k v
  exact h.turn s' ((Fr.refl (oneB L.p) w).setCell (p := ⟨L.p, k, Option.none⟩) (fun _ => rfl) v) hb hc hr ht hm hi ok
theorem fr_set1 (L : Lay) (w : World) (k : Nat) (v : Value) : Fr (own' L) w (w.setCell ⟨L.p, k, none⟩ v) := (Fr.refl (own' L) w).setCell (p := ⟨L.p, k, none⟩) (fun _ => own_p L) v
theorem both_wt (s : St) : wtO s.both ≤ 1000 := by simp [St.both, wtO, big_length]
theorem bootAsksL (L : Lay) (s : St) (w : World) (h : BootAt w L s) :
    Calls Tryz.prog 90 #[.pointer (some ⟨L.p, 0, none⟩)] w (LPost L s.asks (.tuple #[]) w) := by
  have c21 := h.g21
  by_cases hl : s.lease = 1
  · have hu : s.asks = s.say 1 false [] := by unfold St.asks; rw [if_pos hl]
    have b1 : ((s.lease : Int) == 1) = true := by rw [hl]; rfl
    have hcall := bootSayL0 L s 1 [] none 0 0 w h rfl SlR.nil (by decide)
    have Hcall := Lib.hid hcall
    have Hu := Lib.hid hu
    clear hcall hu hl
    go_enter Tryz.func90, Tryz.ntmps90
    go_wp2_with fail
    refine Hcall.out.mono ?_
    rintro e w2 ⟨rfl, hM, f2⟩
    go_wp2_with fail
    refine bodyPost_end (results_none rfl _ _ _) rfl ?_
    rw [Hu.out]
    exact ⟨rfl, hM, f2⟩
  · have hu : s.asks = s.say 3 false s.both := by unfold St.asks; rw [if_neg hl]
    have b1 : ((s.lease : Int) == 1) = false := by simp; omega
    have Hu := Lib.hid hu
    clear hu hl
    go_enter Tryz.func90, Tryz.ntmps90
    go_upto_region 2 with fail
    refine wp_region_pls (by kernel_rfl) (fun w' => BootAt w' L s ∧ Fr noB w w') [16] (.p 0 (.p 1 (.p 2 (.p 3 (.p 4 (.p 8 (.p 9 (.p 10 (.p 11 (.q 5 (.q 12 (.e 6 (.p 7 (.e 13 (.p 14 (.e 15 (.e 16 (.nil)))))))))))))))))) (by kernel_rfl) (⟨h.drew, (Fr.refl _ _).drew⟩) ?_
    intro ops Q' hO hQ' wr1 hR1
    iterate 9 (refine pl_p0 hO rfl rfl ?_ (fun w' => ?_) ?_; rotate_left 1; (focus (go_simp; ((try with_reducible rfl); done))); simp only [Act.put, List.setIfInBounds_toArray, List.set_cons_zero, List.set_cons_succ])
    iterate 2 (refine pl_q0 hO rfl rfl ?_ (fun w' hS => ?_) ?_; rotate_left 1; (focus (obtain ⟨hB, hF⟩ := hS; have c23 := hB.g23; have c26 := hB.g26; go_simp; ((try with_reducible rfl); done))); simp only [Act.put, List.setIfInBounds_toArray, List.set_cons_zero, List.set_cons_succ])
    refine pl_e0 hO rfl rfl rfl (fun K hK => ?_)
    go_simp
    refine (bootFour s.addr _ h.ok.addr).mono ?_
    rintro e w2 ⟨rfl, fw2⟩
    refine hK _ _ (⟨hR1.1.none fw2, hR1.2.none fw2⟩) (fun hR_6 => ?_)
    clear hK K
    refine pl_p0 hO rfl rfl ?_ (fun w' => ?_) ?_; rotate_left 1; (focus (go_simp; ((try with_reducible rfl); done))); simp only [Act.put, List.setIfInBounds_toArray, List.set_cons_zero, List.set_cons_succ]
    refine pl_e0 hO rfl rfl rfl (fun K hK => ?_)
    go_simp
    refine (bootFour s.server _ h.ok.server).mono ?_
    rintro e w3 ⟨rfl, fw3⟩
    refine hK _ _ (⟨hR_6.1.none fw3, hR_6.2.none fw3⟩) (fun hR_13 => ?_)
    clear hK K
    refine pl_p0 hO rfl rfl ?_ (fun w' => ?_) ?_; rotate_left 1; (focus (go_simp; ((try with_reducible rfl); done))); simp only [Act.put, List.setIfInBounds_toArray, List.set_cons_zero, List.set_cons_succ]
    refine pl_e0 hO rfl rfl rfl (fun K hK => ?_)
    go_simp
    refine hK _ _ (⟨hR_13.1.none ((Fr.refl _ _).alloc _), hR_13.2.none ((Fr.refl _ _).alloc _)⟩) (fun hR_15 => ?_)
    clear hK K
    refine pl_b0 hO rfl rfl rfl (fun K hK => ?_)
    go_simp
    refine (bootSayL0 L s 3 s.both (some ⟨w3.heap.size, 0, none⟩) 2 2 _ hR_15.1 rfl (SlR.of_bk (Bk.new w3 72 #[.int .u8 50, .string (bs (big 4 s.addr)), .int .u8 54, .string (bs (big 4 s.server))]) (fun x => x) rfl) (both_wt s)).mono ?_
    rintro e w4 ⟨rfl, hM4, f4⟩
    refine hK _ _ ?_
    clear hK K
    refine pl_nil (hQ' _ _ ?_)
    go_wp2_with fail
    refine bodyPost_end (results_none rfl _ _ _) rfl ?_
    rw [Hu.out]
    exact ⟨rfl, hM4, (hR_15.2.of_no (own' L)).trans f4⟩
theorem bootGoesL (L : Lay) (s : St) (l : Nat) (w : World) (h : BootAt w L s) :
    Calls Tryz.prog 89 #[.pointer (some ⟨L.p, 0, none⟩), .int .i64 (l : Int)] w (LPost L (s.goes l) (.tuple #[]) w) := by
  obtain ⟨s2, hs2⟩ : ∃ s2 : St, { s with lease := l, lsends := 1 } = s2 := ⟨_, rfl⟩
  have hM2 : BootAt ((w.setCell ⟨L.p, 21, none⟩ (.int .i64 (l : Int))).setCell ⟨L.p, 32, none⟩ (.int .i64 1)) L s2 := by
    rw [← hs2]
    exact (h.set1 21 (.int .i64 (l : Int)) { s with lease := l } rfl rfl rfl rfl rfl rfl { h.ok with }).set1 32 (.int .i64 1) { s with lease := l, lsends := 1 } rfl rfl rfl rfl rfl rfl { h.ok with lsends := by show 1 ≤ 4; decide }
  have f2 : Fr (own' L) w ((w.setCell ⟨L.p, 21, none⟩ (.int .i64 (l : Int))).setCell ⟨L.p, 32, none⟩ (.int .i64 1)) := (fr_set1 L w _ _).trans (fr_set1 L _ _ _)
  have c21 := h.g21
  have c32 := h.g32
  have hfz := h.fr
  go_enter Tryz.func89, Tryz.ntmps89
  go_upto_region 2 with fail
  generalize (w.setCell ⟨L.p, 21, none⟩ (.int .i64 (l : Int))).setCell ⟨L.p, 32, none⟩ (.int .i64 1) = w2 at *
  have q := i64w (s2.now + s2.wait 0)
  refine wp_region_pls (by kernel_rfl) (fun w' => BootAt w' L s2 ∧ Fr noB w2 w') [11] (.p 0 (.p 1 (.p 2 (.p 3 (.p 5 (.q 4 (.e 6 (.p 7 (.p 8 (.p 9 (.p 10 (.e 11 (.nil))))))))))))) (by kernel_rfl) (⟨hM2.drew, (Fr.refl _ _).drew⟩) ?_
  intro ops Q' hO hQ' wr1 hR1
  iterate 5 (refine pl_p0 hO rfl rfl ?_ (fun w' => ?_) ?_; rotate_left 1; (focus (go_simp; ((try with_reducible rfl); done))); simp only [Act.put, List.setIfInBounds_toArray, List.set_cons_zero, List.set_cons_succ])
  refine pl_q0 hO rfl rfl ?_ (fun w' hS => ?_) ?_; rotate_left 1; (focus (obtain ⟨hB, hF⟩ := hS; have c16 := hB.g16; go_simp; ((try with_reducible rfl); done))); simp only [Act.put, List.setIfInBounds_toArray, List.set_cons_zero, List.set_cons_succ]
  refine pl_e0 hO rfl rfl rfl (fun K hK => ?_)
  go_simp
  refine (bootWait L s2 0 (by decide) _ hR1.1).mono ?_
  rintro e w5 ⟨rfl, fw5⟩
  refine hK _ _ (⟨hR1.1.none fw5, hR1.2.none fw5⟩) (fun hR_6 => ?_)
  clear hK K
  iterate 4 (refine pl_p0 hO rfl rfl ?_ (fun w' => ?_) ?_; rotate_left 1; (focus (go_simp; ((try with_reducible rfl); done))); simp only [Act.put, List.setIfInBounds_toArray, List.set_cons_zero, List.set_cons_succ])
  refine pl_b0 hO rfl rfl rfl (fun K hK => ?_)
  have c31 := hR_6.1.g31
  have hfz := hR_6.1.fr
  go_simp
  refine hK _ _ ?_
  clear hK K
  refine pl_nil (hQ' _ _ ?_)
  have hM6 := hR_6.1.set1 31 (.int .i64 (wrap64 (s2.now + s2.wait 0))) { s2 with lagain := wrap64 (s2.now + s2.wait 0) } rfl rfl rfl rfl rfl rfl { hR_6.1.ok with }
  have f6 := fr_set1 L w5 31 (.int .i64 (wrap64 (s2.now + s2.wait 0)))
  generalize w5.setCell ⟨L.p, 31, none⟩ (.int .i64 (wrap64 (s2.now + s2.wait 0))) = w6 at *
  go_wp2_with fail
  refine (bootAsksL L _ _ hM6).mono ?_
  rintro e w7 ⟨rfl, hM7, f7⟩
  go_wp2_with fail
  refine bodyPost_end (results_none rfl _ _ _) rfl ?_
  exact ⟨rfl, by rw [← hs2] at hM7; exact hM7, f2.trans ((hR_6.2.of_no (own' L)).trans (f6.trans f7))⟩
end Go.Proofs.YtcbkaiakdhiloabGreatDoor
namespace Go.Proofs.YtcbkaiakdhiloabGreatDoor
open Go.RowKit Go.Proofs
attribute [local go_sem] bs_size bs_append bs_extract bs_toList
theorem tick0 (L : Lay) (s : St) (w : World) (h : BootAt w L s) (hl : s.lease = 0) :
    Calls Tryz.prog 45 #[.pointer (some ⟨L.p, 0, none⟩)] w (LPost L (({ s with xid := s.draw } : St).goes 1) (.tuple #[]) w) := by
  have c21 := h.g21
  have hfz := h.fr
  rw [hl] at c21
  have c17 := h.g17
  have c22 := h.g22
  have hM2 := h.set1 22 (.int .u32 (s.draw : Int)) { s with xid := s.draw } rfl rfl rfl rfl rfl rfl { h.ok with xid := h.ok.draw }
  go_enter Tryz.func45, Tryz.ntmps45
  go_wp2_with fail
  refine (bootGoesL L { s with xid := s.draw } 1 _ hM2).mono ?_
  rintro e w2 ⟨rfl, hM3, f3⟩
  go_wp2_with fail
  exact bodyPost_end (results_none rfl _ _ _) rfl ⟨rfl, hM3, (fr_set1 L w 22 _).trans f3⟩
theorem tick1a (L : Lay) (s : St) (w : World) (h : BootAt w L s) (hl : s.lease = 1) (h1 : s.now < s.lagain) :
    Calls Tryz.prog 45 #[.pointer (some ⟨L.p, 0, none⟩)] w (LPost L s (.tuple #[]) w) := by
  have c21 := h.g21
  have hfz := h.fr
  rw [hl] at c21
  go_enter Tryz.func45, Tryz.ntmps45
  go_upto_region 8 with fail
  refine wp_region_pls (by kernel_rfl) (fun w' => BootAt w' L s ∧ Fr noB w w') [] (.p 0 (.p 1 (.p 2 (.p 4 (.p 5 (.p 6 (.q 3 (.q 7 (.p 8 .nil))))))))) (by kernel_rfl) (⟨h.drew, (Fr.refl _ _).drew⟩) ?_
  intro ops Q' hO hQ' wr1 hR1
  iterate 6 (refine pl_p0 hO rfl rfl ?_ (fun w' => ?_) ?_; rotate_left 1; (focus (go_simp; ((try with_reducible rfl); done))); simp only [Act.put, List.setIfInBounds_toArray, List.set_cons_zero, List.set_cons_succ])
  iterate 2 (refine pl_q0 hO rfl rfl ?_ (fun w' hS => ?_) ?_; rotate_left 1; (focus (obtain ⟨hB, hF⟩ := hS; have c16 := hB.g16; have c31 := hB.g31; have c32 := hB.g32; go_simp; ((try with_reducible rfl); done))); simp only [Act.put, List.setIfInBounds_toArray, List.set_cons_zero, List.set_cons_succ])
  refine pl_p0 hO rfl rfl ?_ (fun w' => ?_) ?_; rotate_left 1; (focus (go_simp; ((try with_reducible rfl); done))); simp only [Act.put, List.setIfInBounds_toArray, List.set_cons_zero, List.set_cons_succ]
  refine pl_nil (hQ' _ _ ?_)
  go_wp2_with fail
  exact bodyPost_end (results_none rfl _ _ _) rfl ⟨rfl, hR1.1, hR1.2.of_no _⟩
theorem tick1b (L : Lay) (s : St) (w : World) (h : BootAt w L s) (hl : s.lease = 1) (h1 : s.lagain ≤ s.now) (h4 : s.lsends = 4) :
    Calls Tryz.prog 45 #[.pointer (some ⟨L.p, 0, none⟩)] w (LPost2 L s.fail (.tuple #[]) w) := by
  have c21 := h.g21
  have hfz := h.fr
  rw [hl] at c21
  have g1 : decide (s.now < s.lagain) = false := by simp; omega
  go_enter Tryz.func45, Tryz.ntmps45
  go_upto_region 8 with fail
  refine wp_region_pls (by kernel_rfl) (fun w' => BootAt w' L s ∧ Fr noB w w') [] (.p 0 (.p 1 (.p 2 (.p 4 (.p 5 (.p 6 (.q 3 (.q 7 (.p 8 .nil))))))))) (by kernel_rfl) (⟨h.drew, (Fr.refl _ _).drew⟩) ?_
  intro ops Q' hO hQ' wr1 hR1
  iterate 6 (refine pl_p0 hO rfl rfl ?_ (fun w' => ?_) ?_; rotate_left 1; (focus (go_simp; ((try with_reducible rfl); done))); simp only [Act.put, List.setIfInBounds_toArray, List.set_cons_zero, List.set_cons_succ])
  iterate 2 (refine pl_q0 hO rfl rfl ?_ (fun w' hS => ?_) ?_; rotate_left 1; (focus (obtain ⟨hB, hF⟩ := hS; have c16 := hB.g16; have c31 := hB.g31; have c32 := hB.g32; go_simp; ((try with_reducible rfl); done))); simp only [Act.put, List.setIfInBounds_toArray, List.set_cons_zero, List.set_cons_succ])
  refine pl_p0 hO rfl rfl ?_ (fun w' => ?_) ?_; rotate_left 1; (focus (go_simp; ((try with_reducible rfl); done))); simp only [Act.put, List.setIfInBounds_toArray, List.set_cons_zero, List.set_cons_succ]
  refine pl_nil (hQ' _ _ ?_)
  have d32 := hR1.1.g32
  rw [h4] at d32
  go_wp2_with fail
  refine (bootFailL L s _ hR1.1).mono ?_
  intro e w2 hp
  obtain ⟨rfl, hp⟩ := hp
  go_wp2_with fail
  exact bodyPost_end (results_none rfl _ _ _) rfl (LPost2.comp (L1 := L) rfl (fun b hb => .inl hb) (hR1.2.of_no _) ⟨rfl, hp⟩)
theorem tick1c (L : Lay) (s : St) (w : World) (h : BootAt w L s) (hl : s.lease = 1) (h1 : s.lagain ≤ s.now) (h4 : s.lsends ≠ 4) :
    Calls Tryz.prog 45 #[.pointer (some ⟨L.p, 0, none⟩)] w (LPost L (({ s with lagain := wrap64 (s.now + s.wait s.lsends), lsends := s.lsends + 1 } : St).asks) (.tuple #[]) w) := by
  have c21 := h.g21
  have hfz := h.fr
  rw [hl] at c21
  have g1 : decide (s.now < s.lagain) = false := by simp; omega
  have b4 : ((s.lsends : Int) == 4) = false := by simp; omega
  have hls := h.ok.lsends
  obtain ⟨n1, hn1⟩ : ∃ n1, s.lsends + 1 = n1 := ⟨_, rfl⟩
  have hn4 : n1 ≤ 4 := by omega
  have q1 : IntKind.i64.wrap ((s.lsends : Int) + 1) = (n1 : Int) := by rw [IntWalk.i64_in _ (by omega)]; omega
  have q := i64w (s.now + s.wait s.lsends)
  have Hn1 := Lib.hid hn1
  have H4 := Lib.hid h4
  have Hls := Lib.hid hls
  clear hn1 h4 hls
  go_enter Tryz.func45, Tryz.ntmps45
  go_upto_region 8 with fail
  refine wp_region_pls (by kernel_rfl) (fun w' => BootAt w' L s ∧ Fr noB w w') [] (.p 0 (.p 1 (.p 2 (.p 4 (.p 5 (.p 6 (.q 3 (.q 7 (.p 8 .nil))))))))) (by kernel_rfl) (⟨h.drew, (Fr.refl _ _).drew⟩) ?_
  intro ops Q' hO hQ' wr1 hR1
  iterate 6 (refine pl_p0 hO rfl rfl ?_ (fun w' => ?_) ?_; rotate_left 1; (focus (go_simp; ((try with_reducible rfl); done))); simp only [Act.put, List.setIfInBounds_toArray, List.set_cons_zero, List.set_cons_succ])
  iterate 2 (refine pl_q0 hO rfl rfl ?_ (fun w' hS => ?_) ?_; rotate_left 1; (focus (obtain ⟨hB, hF⟩ := hS; have c16 := hB.g16; have c31 := hB.g31; have c32 := hB.g32; go_simp; ((try with_reducible rfl); done))); simp only [Act.put, List.setIfInBounds_toArray, List.set_cons_zero, List.set_cons_succ])
  refine pl_p0 hO rfl rfl ?_ (fun w' => ?_) ?_; rotate_left 1; (focus (go_simp; ((try with_reducible rfl); done))); simp only [Act.put, List.setIfInBounds_toArray, List.set_cons_zero, List.set_cons_succ]
  refine pl_nil (hQ' _ _ ?_)
  have d32 := hR1.1.g32
  go_upto_region 11 with fail
  refine wp_region_pls (by kernel_rfl) (fun w' => BootAt w' L s ∧ Fr noB w w') [14] (.p 0 (.p 1 (.p 2 (.p 3 (.p 5 (.p 6 (.p 7 (.p 8 (.q 4 (.q 9 (.e 10 (.p 11 (.p 12 (.p 13 (.e 14 (.nil)))))))))))))))) (by kernel_rfl) (⟨hR1.1.drew, hR1.2.drew⟩) ?_
  intro ops Q' hO hQ' wr2 hR2
  iterate 8 (refine pl_p0 hO rfl rfl ?_ (fun w' => ?_) ?_; rotate_left 1; (focus (go_simp; ((try with_reducible rfl); done))); simp only [Act.put, List.setIfInBounds_toArray, List.set_cons_zero, List.set_cons_succ])
  iterate 2 (refine pl_q0 hO rfl rfl ?_ (fun w' hS => ?_) ?_; rotate_left 1; (focus (obtain ⟨hB, hF⟩ := hS; have c16 := hB.g16; have c31 := hB.g31; have c32 := hB.g32; go_simp; ((try with_reducible rfl); done))); simp only [Act.put, List.setIfInBounds_toArray, List.set_cons_zero, List.set_cons_succ])
  refine pl_e0 hO rfl rfl rfl (fun K hK => ?_)
  go_simp
  refine (bootWait L s s.lsends h.ok.lsends _ hR2.1).mono ?_
  rintro e w5 ⟨rfl, fw5⟩
  refine hK _ _ (⟨hR2.1.none fw5, hR2.2.none fw5⟩) (fun hR_10 => ?_)
  clear hK K
  iterate 3 (refine pl_p0 hO rfl rfl ?_ (fun w' => ?_) ?_; rotate_left 1; (focus (go_simp; ((try with_reducible rfl); done))); simp only [Act.put, List.setIfInBounds_toArray, List.set_cons_zero, List.set_cons_succ])
  refine pl_b0 hO rfl rfl rfl (fun K hK => ?_)
  have d31 := hR_10.1.g31
  have hfz2 := hR_10.1.fr
  go_simp
  refine hK _ _ ?_
  clear hK K
  refine pl_nil (hQ' _ _ ?_)
  have hM6 := (hR_10.1.set1 31 (.int .i64 (wrap64 (s.now + s.wait s.lsends))) { s with lagain := wrap64 (s.now + s.wait s.lsends) } rfl rfl rfl rfl rfl rfl { h.ok with })
  have hM7 := hM6.set1 32 (.int .i64 (n1 : Int)) { s with lagain := wrap64 (s.now + s.wait s.lsends), lsends := n1 } rfl rfl rfl rfl rfl rfl { h.ok with lsends := hn4 }
  have f7 := (fr_set1 L w5 31 (.int .i64 (wrap64 (s.now + s.wait s.lsends)))).trans (fr_set1 L _ 32 (.int .i64 (n1 : Int)))
  have d32 := hR_10.1.g32
  have hfz3 := hR_10.1.fr
  go_wp2_with fail
  refine (bootAsksL L _ _ hM7).mono ?_
  rintro e w8 ⟨rfl, hM8, f8⟩
  go_wp2_with fail
  refine bodyPost_end (results_none rfl _ _ _) rfl ?_
  rw [Hn1.out] 
  exact ⟨rfl, hM8, (hR_10.2.of_no (own' L)).trans (f7.trans f8)⟩
end Go.Proofs.YtcbkaiakdhiloabGreatDoor
