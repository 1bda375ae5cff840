/- Parts of the walk; written by programs, merged. -/
import Derived.Test.YtcbkaiakdhiloabGreatDoorMaa
import Derived.Test.YtcbkaiakdhiloabGreatDoorMab
import Derived.Test.YtcbkaiakdhiloabGreatDoorMai
import Derived.Test.YtcbkaiakdhiloabGreatDoorMam
import Derived.Test.YtcbkaiakdhiloabGreatDoorMan
import Derived.Test.YtcbkaiakdhiloabGreatDoorMap
import Derived.Test.YtcbkaiakdhiloabGreatDoorMaq
import Derived.Test.YtcbkaiakdhiloabGreatDoorProg
import Derived.Test.YtcbkaiakdhiloabGreatDoorShelf
import Derived.WalkKit
import Derived.WalkLawsBesides
import Derived.WalkSpells
import Derived.Deep.AppendLies
import Derived.Deep.DrawnRows
import Derived.Maps.AppendAt
import Derived.StillTailTactics
import Derived.Lib.Hide
import Derived.Lib.AppendStr
import Derived.Lib.Strings
import Derived.Laws.MakeOwn
import Derived.Laws.OwnMore
import Derived.Laws.BitsAllLaws
import Derived.BigQuiet
import Derived.Orders
import Derived.Deep.MidRow
import Derived.Lib.ConvBytes
import Derived.Deep.DeepMust
import Derived.Deep.RegionHeld3
import Derived.Deep.RegionLaw
import Derived.Deep.LoopGhost
import Derived.Deep.Cut
import Derived.Deep.CutRange
import Derived.Deep.QuietTactic
import Derived.Lib.LazyBuf
import Derived.Recover
import Derived.OrdersHeld
import Derived.Lib.MapLaws
import Derived.Lib.TrimAscii
import Derived.Lib.LaidTab
import Derived.Lib.ItoaNum
import Derived.Maps.Own
import Derived.Maps.OwnOps
import Derived.Maps.OwnSet
import Derived.Maps.Views
import Derived.Maps.RangeWalk
import Derived.Lib.SlBytesRow
import Derived.Deep.CutBlock
import Derived.Lib.ItoaMem
import Derived.Laws.StructEq
import Derived.DeepKeys
import Derived.RangeFuncGives
import Derived.Sort.MapsRangeIn
import Derived.OwnWalkIn
import Derived.TacticsInMore
import Derived.RegionIn
import Derived.LoopNIn
import Derived.LoopIn
import Derived.Shelf.Abstract
import Derived.Laws.RangeString
import Derived.Lib.OthersKept
set_option linter.unusedSimpArgs false
set_option linter.unusedVariables false
namespace Go.Proofs.YtcbkaiakdhiloabGreatDoor
open Go.RowKit Go.Proofs
set_option maxRecDepth 20000 in
theorem bootHash (l : List UInt8) (hl : l.length ≤ 100000000000) (w : World) (hRk : RU w 5 kTab) (hRb : RU w 3 h0.list) :
    Calls Tryz.prog 38 #[.string (bs l)] w fun e w' => e = .returned (.string (bs (sha l))) ∧ Fr noB w w' := by
  go_enter Tryz.func38, Tryz.ntmps38
  have hfa : Fr noB w (w.alloc (.cells #[.string (bs l)] 9)) := (Fr.refl _ _).alloc _
  have hcall := hashSum l hl w.heap.size 1 (w.alloc (.cells #[.string (bs l)] 9)) ((Bk.new w _ _).cell 0) (by rw [alloc_sz]; omega) (hRk.keep hfa id) (hRb.keep hfa id)
  clear hRk hRb
  obtain ⟨o, ho⟩ : ∃ o, o = sha l := ⟨_, rfl⟩
  rw [← ho]
  have hol : o.length = 32 := by rw [ho]; rfl
  rw [← ho] at hcall
  clear ho
  have hsz32 : (Tryz.prog.info? 148).map (·.size) = some 32 := by kernel_rfl
  have h32 : ((u8s o).toArray).size = 32 := by simp [u8s, hol]
  have hone : ((u8s o).toArray).all (·.oneCell') = true := by rw [Array.all_eq_true]; intro k hk; exact u8s_one o _ (by simp)
  obtain ⟨cb, hcb⟩ : ∃ z, z = (u8s o).toArray := ⟨_, rfl⟩
  rw [← hcb] at hcall h32 hone
  have HCB := Lib.hid hcb
  clear hcb
  go_wp2_with (first
    | (go_at_call 85; refine hcall.mono ?_; rintro e w9 ⟨rfl, hf9⟩)
    | (refine wpList_store_bk rfl 148 (.tmp 3) (.tmp 6) rfl w9.heap.size 148 (u8s (List.replicate 32 0)).toArray cb rfl rfl (Bk.new w9 _ _) (by rw [h32]; rfl) (by rw [hsz32, h32]) hone ?_; intro w10 hx10 hf10; have hcv := run_str_of (P := Tryz.prog) w10 98 9 5 Tryz.underlying98 Tryz.underlying5 Tryz.underlying9 noB (some ⟨w9.heap.size, 0, none⟩) 32 32 o (by have h := SlR.of_bk (S := noB) (n := 32) (size := 1) hx10 id h32; rw [HCB.out] at h; exact h) (.inr ⟨_, _, rfl⟩)))
  go_ret
  exact ⟨rfl, ((hfa.trans hf9).alloc _).trans' hf10 fun b hb h => by
    unfold oneB at h
    have := (hfa.trans hf9).size
    omega⟩
end Go.Proofs.YtcbkaiakdhiloabGreatDoor
namespace Go.Proofs.YtcbkaiakdhiloabGreatDoor
open Go.RowKit Go.Proofs
attribute [local go_sem] bs_size bs_append bs_sub bs_toList
def pickI (c : Int) (n : Nat) : Nat := ((if c < 0 then -(c + 1) else c) % (n : Int)).toNat
theorem pickI_lt (c : Int) (n : Nat) (h : 0 < n) : pickI c n < n := by
  unfold pickI
  have h1 := Int.emod_lt_of_pos (if c < 0 then -(c + 1) else c) (by omega : (0 : Int) < (n : Int))
  have h2 := Int.emod_nonneg (if c < 0 then -(c + 1) else c) (by omega : (n : Int) ≠ 0)
  omega
theorem pickI_int (c : Int) (n : Nat) (h : 0 < n) : ((pickI c n : Nat) : Int) = (if c < 0 then -(c + 1) else c) % (n : Int) := by
  unfold pickI
  exact Int.toNat_of_nonneg (Int.emod_nonneg _ (by omega))
set_option maxRecDepth 20000 in
theorem pickFn (c : Int) (n : Nat) (w : World) (h : 0 < n) (hn : n ≤ 4611686018427387904) (h0 : -9223372036854775808 ≤ c) (h1 : c ≤ 9223372036854775807) :
    Calls Tryz.prog 8 #[.int .i64 c, .int .i64 n] w fun e w' => e = .returned (.int .i64 (pickI c n : Nat)) ∧ w = w' := by
  have hp := Lib.hid (pickI_int c n h)
  have hz : ((n : Int) == 0) = false := by simp; omega
  by_cases hc : c < 0
  · have e1 : IntKind.i64.wrap (c + 1) = c + 1 := IntWalk.i64_in _ (by omega)
    have e2 : IntKind.i64.wrap (-(c + 1)) = -(c + 1) := IntWalk.i64_in _ (by omega)
    have hp2 : Hid (((pickI c n : Nat) : Int) = (-(c + 1)) % (n : Int)) := by unfold Hid; rw [hp.out, if_pos hc]
    obtain ⟨d, hd⟩ : ∃ d : Int, d = -(c + 1) := ⟨_, rfl⟩
    have d0 : 0 ≤ d := by omega
    have d1 : d ≤ 9223372036854775807 := by omega
    have Hd := Lib.hid hd
    go_enter Tryz.func8, Tryz.ntmps8
    have hd' := hd.symm
    clear hd
    go_wp2_with fail
    go_ret
    refine ⟨?_, rfl⟩
    rw [hp2.out, ← Hd.out]
    try rfl
  · have hp2 : Hid (((pickI c n : Nat) : Int) = c % (n : Int)) := by unfold Hid; rw [hp.out, if_neg hc]
    have c0 : 0 ≤ c := by omega
    clear hc
    go_enter Tryz.func8, Tryz.ntmps8
    go_wp2_with fail
    go_ret
    refine ⟨?_, rfl⟩
    rw [hp2.out]
    try rfl
theorem pickK (c : Int) (n k : Nat) (w : World) (hk : k = pickI c n) (h : 0 < n) (hn : n ≤ 4611686018427387904) (h0 : -9223372036854775808 ≤ c) (h1 : c ≤ 9223372036854775807) :
    Calls Tryz.prog 8 #[.int .i64 c, .int .i64 n] w fun e w' => e = .returned (.int .i64 (k : Int)) ∧ w' = w := by
  subst hk; exact (pickFn c n w h hn h0 h1).mono fun e w' h => ⟨h.1, h.2.symm⟩
end Go.Proofs.YtcbkaiakdhiloabGreatDoor
set_option maxRecDepth 20000
namespace Go.Proofs.YtcbkaiakdhiloabGreatDoor
open Go.RowKit Go.Proofs
attribute [local go_sem] bs_size bs_append bs_extract bs_toList
theorem inBlock_ne {id j : Nat} {Q : Exit → Act → World → Prop} {a : Act} {w : World} (hne : j ≠ id) (h : Q (.exit j) a w) : Exit.inBlock id Q (.exit j) a w := by
  simp only [Exit.inBlock, if_neg hne]; exact h
def MSt (w0 : World) (p : Nat) (s : St) (w : World) : Prop := ∃ L : Lay, L.p = p ∧ BootAt w L s ∧ (∀ b, own' L b → w0.heap.size ≤ b) ∧ Fr noB w0 w
theorem MSt.two {w0 w w' : World} {s' : St} {L : Lay} {r : Value} {e : Ending} (ho : ∀ b, own' L b → w0.heap.size ≤ b) (hf : Fr noB w0 w) (h : LPost2 L s' r w e w') : e = .returned r ∧ MSt w0 L.p s' w' := by
  obtain ⟨he, L', hp, ho', hB, hF⟩ := h
  exact ⟨he, L', hp, hB, fun b hb => (ho' b hb).elim (ho b) fun h => Nat.le_trans hf.size h, hf.trans' hF fun b hb hx => absurd (ho b hx) (by omega)⟩
theorem MSt.fr {w0 w : World} {p : Nat} {s : St} (h : MSt w0 p s w) : Fr noB w0 w := by obtain ⟨_, _, _, _, h⟩ := h; exact h
theorem keepTickQ {w0 w : World} {p : Nat} {s : St} (dr : Nat) (h : MSt w0 p s w) (hq : Quiet s) (hn : s.now < 4611686018427387904) (hdr : dr < 4294967296) :
    Calls Tryz.prog 19 #[.pointer (some ⟨p, 0, Option.none⟩), .int .u32 (dr : Int)] w fun e w' => e = .returned (.tuple #[]) ∧ MSt w0 p (s.tick dr) w' := by
  obtain ⟨L, rfl, hB, ho, hF⟩ := h
  exact (bootTickQ L s dr w hB hq hn hdr).mono fun e w' hp => MSt.two ho hF hp
def lookV (s : St) : Value := .agg #[.int .i64 s.now, .int .i64 (s.lease : Int), .int .i64 (s.phase : Int), .int .u32 (s.address : Int), .int .i64 s.boots, .int .i64 (s.image.length : Int), .int .i64 s.lost, .int .i64 (s.cache.length : Int)]
theorem keepLook {w0 w : World} {p : Nat} {s : St} (h : MSt w0 p s w) :
    Calls Tryz.prog 21 #[.pointer (some ⟨p, 0, Option.none⟩)] w fun e w' => e = .returned (lookV s) ∧ MSt w0 p s w' := by
  obtain ⟨L, rfl, hB, ho, hF⟩ := h
  exact (bootLookL L s w hB).mono fun e w' hp => MSt.two ho hF hp.two
theorem keepLookF {w0 w : World} {p : Nat} {s : St} (h : MSt w0 p s w) :
    Calls Tryz.prog 21 #[.pointer (some ⟨p, 0, Option.none⟩)] w fun e w' => e = .returned (lookV s) ∧ MSt w0 p s w' ∧ Fr noB w w' := by
  obtain ⟨L, rfl, hB, ho, hF⟩ := h
  exact (bootLookN L s w hB).mono fun e w' hp => ⟨hp.1, ⟨L, rfl, hB.none hp.2, ho, hF.none hp.2⟩, hp.2⟩
theorem cell_ltK {W : World} {g i : Nat} {v : Value} (h : W.cell? ⟨g, i, Option.none⟩ = some v) : g < W.heap.size := by
  rcases Nat.lt_or_ge g W.heap.size with h1 | h1
  · exact h1
  · simp [World.cell?, Array.getElem?_eq_none h1] at h
theorem strInf : (Tryz.prog.info? 9).map (fun i => (i.zero, i.size, i.bytes)) = some (some (.string ⟨#[]⟩), 1, 16) := by kernel_rfl
def txV (l : List (List UInt8)) : List Value := l.map fun f => .string (bs f)
theorem own_keepS {w w' : World} {base : Nat} {v : Value} {k : Nat} {xs : List Value} {S : Nat → Prop} {t : TypeId} (h : w.ownsRow base t 1 v k xs) (hf : Fr S w w') (hb : ∀ b, v.ownBlock = some b → ¬ S b) : w'.ownsRow base t 1 v k xs := by
  refine ⟨h.1, ?_⟩
  rcases h.2 with h1 | ⟨g, cap, cur, h1, h2, h3, h4⟩
  · exact .inl h1
  · have hl : g < w.heap.size := (Array.getElem?_eq_some_iff.1 h3).1
    exact .inr ⟨g, cap, cur, h1, h2, (hf.block g hl (hb g (by rw [h1]; rfl))).trans h3, h4⟩
def tnF (u : Nat → Value) : Act := ⟨#[u 0, u 1, u 2, u 3, u 4, u 5, u 6, u 7, u 8, u 9, u 10, u 11, u 12, u 13, u 14, u 15, u 16, u 17, u 18, u 19, u 20], []⟩
set_option maxRecDepth 100000 in
theorem tnF_eq (u : Nat → Value) : tnF u = frN 21 u := rfl
theorem tnF_of {a : Act} (h : Sz 21 a) : a = tnF (sl a) := h.eq.trans (tnF_eq _).symm
set_option maxRecDepth 20000 in
set_option maxHeartbeats 1000000 in
theorem tnR0  (a : Act) (w : World) (K : Exit → Act → World → Prop) (hs : Sz 21 a)
     
    (hK : ∀ a' w', Sz 21 a' → Kp [0, 3, 4, 5, 6] a a' → w' = w → K .normal a' w') :
    (regionOf Tryz.f20 0).wp Tryz.prog K a w := by
  unfold Kp at hK; rw [tnF_of hs]; clear hs; generalize sl a = u at *; clear a; have HK := Lib.hid hK; clear hK; conv => arg 2; whnf
  simp only [tnF]
  go_wp2_with fail
  exact HK.out _ _  ⟨rfl, rfl⟩ (KpU.cons (rfl) (KpU.cons (rfl) (KpU.cons (rfl) (KpU.cons (rfl) (KpU.cons (rfl) (KpU.nil _ _))))))  rfl
set_option maxRecDepth 20000 in
set_option maxHeartbeats 1000000 in
theorem tnR1  (a : Act) (w : World) (K : Exit → Act → World → Prop) (hs : Sz 21 a)
     
    (hK : ∀ a' w', Sz 21 a' → Kp [0, 2, 4, 5, 6] a a' → sl a' 3 = .slice none 0 0 → w' = w → K .normal a' w') :
    (regionOf Tryz.f20 1).wp Tryz.prog K a w := by
  unfold Kp at hK; rw [tnF_of hs]; clear hs; generalize sl a = u at *; clear a; have HK := Lib.hid hK; clear hK; conv => arg 2; whnf
  simp only [tnF]
  go_wp2_with fail
  exact HK.out _ _  ⟨rfl, rfl⟩ (KpU.cons (rfl) (KpU.cons (rfl) (KpU.cons (rfl) (KpU.cons (rfl) (KpU.cons (rfl) (KpU.nil _ _)))))) (rfl) rfl
set_option maxRecDepth 20000 in
set_option maxHeartbeats 1000000 in
theorem tnR2  (a : Act) (w : World) (K : Exit → Act → World → Prop) (hs : Sz 21 a)
     
    (hK : ∀ a' w', Sz 21 a' → Kp [0, 2, 3, 4, 5] a a' → sl a' 6 = .int .i64 ((0 : Nat) : Int) → w' = w → K .normal a' w') :
    (regionOf Tryz.f20 2).wp Tryz.prog K a w := by
  unfold Kp at hK; rw [tnF_of hs]; clear hs; generalize sl a = u at *; clear a; have HK := Lib.hid hK; clear hK; conv => arg 2; whnf
  simp only [tnF]
  go_wp2_with fail
  exact HK.out _ _  ⟨rfl, rfl⟩ (KpU.cons (rfl) (KpU.cons (rfl) (KpU.cons (rfl) (KpU.cons (rfl) (KpU.cons (rfl) (KpU.nil _ _)))))) (rfl) rfl
set_option maxRecDepth 20000 in
set_option maxHeartbeats 1000000 in
theorem tnR3 (i : Nat) (a : Act) (w : World) (K : Exit → Act → World → Prop) (hs : Sz 21 a)
    (h6 : sl a 6 = .int .i64 (i : Int)) 
    (hK : ∀ a' w', Sz 21 a' → Kp [0, 2, 3, 4, 5, 6] a a' → sl a' 7 = .bool (decide (i < 17)) → w' = w → K .normal a' w') :
    (regionOf Tryz.f20 3).wp Tryz.prog K a w := by
  unfold Kp at hK; rw [tnF_of hs]; clear hs; generalize sl a = u at *; clear a; have HK := Lib.hid hK; clear hK; conv => arg 2; whnf
  simp only [tnF, h6]
  go_wp2_with fail
  exact HK.out _ _  ⟨rfl, rfl⟩ (KpU.cons (rfl) (KpU.cons (rfl) (KpU.cons (rfl) (KpU.cons (rfl) (KpU.cons (rfl) (KpU.cons (h6.symm) (KpU.nil _ _))))))) (congrArg Value.bool (decide_eq_decide.2 (by omega))) rfl
set_option maxRecDepth 20000 in
set_option maxHeartbeats 1000000 in
theorem tnR4 (L : Lay) (s : St) (a : Act) (w : World) (K : Exit → Act → World → Prop) (hs : Sz 21 a)
    (h0 : sl a 0 = .pointer (some ⟨L.p, 0, none⟩)) (h : BootAt w L s)
    (hK : ∀ a' w', Sz 21 a' → Kp [0, 2, 3, 6] a a' → sl a' 4 = .string (bs (s.take.2.getD [])) → sl a' 5 = .bool s.take.2.isSome → BootAt w' L s.take.1 → Fr (own' L) w w' → K .normal a' w') :
    (regionOf Tryz.f20 4).wp Tryz.prog K a w := by
  unfold Kp at hK; rw [tnF_of hs]; clear hs; generalize sl a = u at *; clear a; have HK := Lib.hid hK; clear hK; conv => arg 2; whnf
  simp only [tnF, h0]
  go_wp2_with fail
  refine (bootTakeL L s _ h).mono ?_
  rintro e w1 ⟨rfl, hB1, hF1⟩
  go_wp2_with fail
  exact HK.out _ _  ⟨rfl, rfl⟩ (KpU.cons (h0.symm) (KpU.cons (rfl) (KpU.cons (rfl) (KpU.cons (rfl) (KpU.nil _ _))))) (rfl) (rfl) hB1 hF1
set_option maxRecDepth 20000 in
set_option maxHeartbeats 1000000 in
theorem tnR5 (b : Bool) (a : Act) (w : World) (K : Exit → Act → World → Prop) (hs : Sz 21 a)
    (h5 : sl a 5 = .bool b) 
    (hK : ∀ a' w', Sz 21 a' → Kp [0, 2, 3, 4, 5, 6] a a' → sl a' 14 = .bool (!b) → w' = w → K .normal a' w') :
    (regionOf Tryz.f20 5).wp Tryz.prog K a w := by
  unfold Kp at hK; rw [tnF_of hs]; clear hs; generalize sl a = u at *; clear a; have HK := Lib.hid hK; clear hK; conv => arg 2; whnf
  simp only [tnF, h5]
  go_wp2_with fail
  exact HK.out _ _  ⟨rfl, rfl⟩ (KpU.cons (rfl) (KpU.cons (rfl) (KpU.cons (rfl) (KpU.cons (rfl) (KpU.cons (h5.symm) (KpU.cons (rfl) (KpU.nil _ _))))))) (rfl) rfl
set_option maxRecDepth 20000 in
set_option maxHeartbeats 1000000 in
theorem tnR6 (base k : Nat) (v : Value) (xs : List Value) (f : List UInt8) (a : Act) (w : World) (K : Exit → Act → World → Prop) (hs : Sz 21 a)
    (h3 : sl a 3 = v) (h4 : sl a 4 = .string (bs f)) (hv : w.ownsRow base 9 1 v k xs) (hk : k ≤ 1000) (hb : base ≤ w.heap.size)
    (hK : ∀ a' w' v', Sz 21 a' → Kp [0, 2, 4, 5, 6] a a' → sl a' 3 = v' → w'.ownsRow base 9 1 v' (k + 1) (xs ++ [.string (bs f)]) → (v'.ownBlock = v.ownBlock ∨ ∃ b, v'.ownBlock = some b ∧ w.heap.size ≤ b) → Fr (fun j => v.ownBlock = some j) w w' → K .normal a' w') :
    (regionOf Tryz.f20 6).wp Tryz.prog K a w := by
  unfold Kp at hK; rw [tnF_of hs]; clear hs; generalize sl a = u at *; clear a; have HK := Lib.hid hK; clear hK; conv => arg 2; whnf
  simp only [tnF, h3, h4]
  clear h3
  obtain ⟨i0, hi, hz0, hz1, hz2⟩ := info_parts strInf
  go_wp2_with (at_builtin; refine wpList_append_own_at _ rfl _ _ 54 rfl base 9 i0 (.string ⟨#[]⟩) 1 16 Tryz.underlying54 hi hz0 hz1 hz2 rfl (by decide) _ _ _ rfl (hv.alloc _) ⟨w.heap.size, 0, none⟩ 1 1 [.string (bs f)] rfl rfl (cell_one_new _ _ _) (by simp [Value.oneCell']) (by unfold maxLen; omega) (by omega) (by simp; omega) ?_; intro v' w3 hown' hg3 hnil3 hbk3)
  have hfg : Fr (fun j => v.ownBlock = some j) (w.alloc (.cells #[.string (bs f)] 9)) w3 := (Fr.refl _ _).grown hg3 (fun g h _ => h)
  have hbk4 : v'.ownBlock = v.ownBlock ∨ ∃ b, v'.ownBlock = some b ∧ w.heap.size ≤ b := hbk3.elim .inl fun e => .inr ⟨_, e, by simp⟩
  exact HK.out _ _ v' ⟨rfl, rfl⟩ (KpU.cons (rfl) (KpU.cons (rfl) (KpU.cons (h4.symm) (KpU.cons (rfl) (KpU.cons (rfl) (KpU.nil _ _)))))) (rfl) hown' hbk4 ((Fr.refl (fun j => v.ownBlock = some j) w).alloc _ |>.trans hfg)
set_option maxRecDepth 20000 in
set_option maxHeartbeats 1000000 in
theorem tnR7 (i j : Nat) (a : Act) (w : World) (K : Exit → Act → World → Prop) (hs : Sz 21 a)
    (h6 : sl a 6 = .int .i64 (i : Int)) (q : IntKind.i64.wrap ((i : Int) + 1) = (j : Int))
    (hK : ∀ a' w', Sz 21 a' → Kp [0, 2, 3, 4, 5] a a' → sl a' 6 = .int .i64 (j : Int) → w' = w → K .normal a' w') :
    (regionOf Tryz.f20 7).wp Tryz.prog K a w := by
  unfold Kp at hK; rw [tnF_of hs]; clear hs; generalize sl a = u at *; clear a; have HK := Lib.hid hK; clear hK; conv => arg 2; whnf
  simp only [tnF, h6]
  clear h6
  go_wp2_with fail
  exact HK.out _ _  ⟨rfl, rfl⟩ (KpU.cons (rfl) (KpU.cons (rfl) (KpU.cons (rfl) (KpU.cons (rfl) (KpU.cons (rfl) (KpU.nil _ _)))))) (rfl) rfl
set_option maxRecDepth 20000 in
set_option maxHeartbeats 1000000 in
theorem tnR8 (v : Value) (a : Act) (w : World) (K : Exit → Act → World → Prop) (hs : Sz 21 a)
    (h3 : sl a 3 = v) 
    (hK : ∀ a' w', Sz 21 a' → Kp [0, 3, 4, 5, 6] a a' → sl a' 2 = v → w' = w → K .normal a' w') :
    (regionOf Tryz.f20 8).wp Tryz.prog K a w := by
  unfold Kp at hK; rw [tnF_of hs]; clear hs; generalize sl a = u at *; clear a; have HK := Lib.hid hK; clear hK; conv => arg 2; whnf
  simp only [tnF, h3]
  go_wp2_with fail
  exact HK.out _ _  ⟨rfl, rfl⟩ (KpU.cons (rfl) (KpU.cons (h3.symm) (KpU.cons (rfl) (KpU.cons (rfl) (KpU.cons (rfl) (KpU.nil _ _)))))) (rfl) rfl
theorem take_nil (s : St) (h : s.tx = []) : s.take = (s, none) := by unfold St.take; rw [h]
theorem take_cons (s : St) (f : List UInt8) (r : List (List UInt8)) (h : s.tx = f :: r) : s.take = ({ s with tx := r }, some f) := by unfold St.take; rw [h]
theorem takenL (L : Lay) (s : St) (w : World) (h : BootAt w L s) (hn : s.tx.length ≤ 16) :
    Calls Tryz.prog 20 #[.pointer (some ⟨L.p, 0, none⟩)] w fun e w' => ∃ v, e = .returned v ∧ w'.ownsRow w.heap.size 9 1 v s.tx.length (txV s.tx) ∧ (∀ b, v.ownBlock = some b → ¬ own' L b) ∧ BootAt w' L { s with tx := [] } ∧ Fr (own' L) w w' := by
  go_enter Tryz.func20, Tryz.ntmps20
  refine wp_seq ?_
  refine tnR0 _ w _ ⟨rfl, rfl⟩ ?_
  intro a0 w0 hs0 k0 hw; subst w0
  have e0 : sl a0 0 = .pointer (some ⟨L.p, 0, none⟩) := (k0 0 (by decide)).trans rfl
  clear k0
  refine wp_seq ?_
  refine tnR1 a0 w _ hs0 ?_
  intro a1 w1 hs1 k1 o3 hw; subst w1
  have e0 := (k1 0 (by decide)).trans e0
  refine wp_seq (wp_seq ?_)
  refine tnR2 a1 w _ hs1 ?_
  intro a2 w2 hs2 k2 o6 hw; subst w2
  have e0 := (k2 0 (by decide)).trans e0
  have o3 := (k2 3 (by decide)).trans o3
  refine wp_block ?_
  refine wp_loop_sz 21 (fun a' w' => ∃ (i : Nat) (v : Value), i ≤ s.tx.length ∧ sl a' 6 = .int .i64 (i : Int) ∧ sl a' 3 = v ∧ sl a' 0 = .pointer (some ⟨L.p, 0, none⟩) ∧ w'.ownsRow w.heap.size 9 1 v i (txV (s.tx.take i)) ∧ (∀ b, v.ownBlock = some b → ¬ own' L b) ∧ BootAt w' L { s with tx := s.tx.drop i } ∧ Fr (own' L) w w') (fun a' _ => 17 - (intOf (sl a' 6)).toNat)
    hs2 ⟨0, _, Nat.zero_le _, o6, o3, e0, ⟨rfl, .inl ⟨rfl, rfl⟩⟩, (fun b hb => by cases hb), by rw [List.drop_zero]; exact h, Fr.refl _ _⟩ ?_
  rintro b1 v1 hs1' ⟨i, v, hi, i6, i3, z0, hrow, hap, hB, hF⟩
  have i60 := i6
  have hgl := glb_lt h.gb
  refine wp_seq ?_
  refine tnR3 i b1 v1 _ hs1' i6 ?_
  intro b2 v2 hs2' j2 i7 hw; subst v2
  refine wp_seq ?_
  refine wp_if i7 (fun hb => ?_) (fun hb => absurd (of_decide_eq_false hb) (by omega))
  refine wp_skip ?_
  refine wp_seq (wp_block (wp_seq ?_))
  refine tnR4 L _ b2 v1 _ hs2' ((j2 0 (by decide)).trans z0) hB ?_
  intro b3 v3 hs3' j3 i4 i5 hB3 hF3
  have hF13 : Fr (own' L) w v3 := hF.trans hF3
  have i3 := (j3 3 (by decide)).trans ((j2 3 (by decide)).trans i3)
  have i6 := (j3 6 (by decide)).trans ((j2 6 (by decide)).trans i6)
  have z0 := (j3 0 (by decide)).trans ((j2 0 (by decide)).trans z0)
  have hrow3 := own_keepS hrow hF3 hap
  refine wp_seq (wp_seq ?_)
  refine tnR5 _ b3 v3 _ hs3' i5 ?_
  intro b4 v4 hs4' j4 i14 hw; subst v4
  have i3 := (j4 3 (by decide)).trans i3
  have i6 := (j4 6 (by decide)).trans i6
  have i4 := (j4 4 (by decide)).trans i4
  have z0 := (j4 0 (by decide)).trans z0
  rcases hd : s.tx.drop i with _ | ⟨f, r⟩
  · have hl : i = s.tx.length := by have := List.drop_eq_nil_iff.1 hd; omega
    have ht := take_nil { s with tx := s.tx.drop i } hd
    rw [ht] at i14 hB3
    refine wp_if i14 (fun _ => ?_) (fun hb => by cases hb)
    refine wp_exit (then_exit (inBlock_ne (by decide) (then_exit (then_exit (inBlock_self ?_)))))
    refine wp_seq ?_
    refine tnR8 v b4 v3 _ hs4' i3 ?_
    intro b5 v5 hs5' j5 i2 hw; subst v5
    refine wp_ret ?_
    refine bodyPost_ret (results_tmp rfl _ _ _) hs5'.defers ⟨v, by rw [show b5.tmps.getD 2 undef = v from i2], ?_, hap, ?_, hF13⟩
    · rw [hl, List.take_length] at hrow3; exact hrow3
    · have hB4 : BootAt v3 L { s with tx := s.tx.drop i } := hB3
      rw [hd] at hB4; exact hB4
  · have ht := take_cons { s with tx := s.tx.drop i } f r hd
    rw [ht] at i14 hB3 i4
    have hlt : i < s.tx.length := by
      rcases Nat.lt_or_ge i s.tx.length with h1 | h1
      · exact h1
      · rw [List.drop_eq_nil_of_le h1] at hd; cases hd
    have hfi : s.tx[i]? = some f := by
      have h1 : (s.tx.drop i)[0]? = some f := by rw [hd]; rfl
      rw [List.getElem?_drop] at h1; exact h1
    have hr : s.tx.drop (i + 1) = r := by rw [← List.drop_drop, hd]; rfl
    refine wp_if i14 (fun hb => by cases hb) (fun _ => ?_)
    refine wp_skip ?_
    refine tnR6 w.heap.size i v _ f b4 v3 _ hs4' i3 i4 hrow3 (by omega) hF13.size ?_
    intro b5 v5 v' hs5' j5 i3' hrow5 hbk5 hF5
    refine tnR7 i (i + 1) b5 v5 _ hs5' ((j5 6 (by decide)).trans i6) ((IntWalk.i64_in _ (by omega)).trans (by omega)) ?_
    intro b6 v6 hs6' j6 i6' hw; subst v6
    have hap5 : ∀ b, v'.ownBlock = some b → ¬ own' L b := by
      intro b hb hx
      rcases hbk5 with e | ⟨b', e, hle⟩
      · exact hap b (e.symm.trans hb) hx
      · rw [e] at hb; injection hb with hb; have := hB3.lt b hx; omega
    refine ⟨hs6', ⟨i + 1, v', by omega, i6', (j6 3 (by decide)).trans i3', (j6 0 (by decide)).trans ((j5 0 (by decide)).trans z0), ?_, hap5, ?_, ?_⟩, ?_⟩
    · have hx : txV (s.tx.take (i + 1)) = txV (s.tx.take i) ++ [.string (bs f)] := by
        rw [List.take_add_one, hfi]; simp [txV]
      rw [hx]; exact hrow5
    · rw [hr]; exact hB3.keep hF5 (fun b hb hx => hap b hx hb) (fun b hb hx => absurd ((hrow3.lt b hx).1) (by have := hgl b hb; omega))
    · exact hF13.trans' hF5 (fun b hb hx => absurd ((hrow3.lt b hx).1) (by omega))
    · rw [i6', i60]; simp only [intOf]; omega
theorem keepTaken {w0 w : World} {p : Nat} {s : St} (h : MSt w0 p s w) (hn : s.tx.length ≤ 16) :
    Calls Tryz.prog 20 #[.pointer (some ⟨p, 0, none⟩)] w fun e w' => ∃ A c, e = .returned (.slice A s.tx.length c) ∧ s.tx.length ≤ c ∧ (∀ i f, s.tx[i]? = some f → ∃ g, A = some ⟨g, 0, none⟩ ∧ w'.cell? ⟨g, i, none⟩ = some (.string (bs f))) ∧ MSt w0 p { s with tx := [] } w' := by
  obtain ⟨L, rfl, hB, ho, hF⟩ := h
  refine (takenL L s w hB hn).mono ?_
  rintro e w' ⟨v, rfl, hrow, hap, hB', hF'⟩
  have hM : MSt w0 L.p { s with tx := [] } w' := (MSt.two (e := .returned (.tuple #[])) ho hF (LPost.two ⟨rfl, hB', hF'⟩)).2
  obtain ⟨h1, ⟨rfl, h2⟩ | ⟨g, cap, cur, rfl, hb, hg, hnc, hm, hc, ht⟩⟩ := id hrow
  · refine ⟨none, 0, by rw [h2], by omega, fun i f hi => ?_, hM⟩
    rw [List.length_eq_zero_iff.1 h2] at hi; simp at hi
  · refine ⟨some ⟨g, 0, none⟩, cap, rfl, hnc, fun i f hi => ⟨_, rfl, ?_⟩, hM⟩
    have h3 : (txV s.tx)[i]? = some (.string (bs f)) := by unfold txV; rw [List.getElem?_map, hi]; rfl
    have h4 := own_at hrow h3
    exact h4
end Go.Proofs.YtcbkaiakdhiloabGreatDoor
namespace Go.Proofs.YtcbkaiakdhiloabGreatDoor
open Go.RowKit Go.Proofs
def askF (c : CfgD) (d id : Nat) : List UInt8 := (wrEther aMac c.card 2048 (wrIP (id % 65536) 64 17 0 4294967295 (wrUDP 68 67 0 4294967295 (wrDHCP false d 0 0 0 (macB c.card) (St.msgO 1 [])).1).1).1).1
theorem wrIP_len2 (i j : Nat) (t p : UInt8) (f g : Nat) (l : List UInt8) : (wrIP i t p f g l).1.length = (wrIP j t p f g l).1.length := by
  unfold wrIP; split
  · rfl
  split
  · rfl
  · simp only [ipBytes, List.length_append, ipHead_length]
theorem wrEther_len2 (a b : Mac) (k : Nat) (x y : List UInt8) (h : x.length = y.length) : (wrEther a b k x).1.length = (wrEther a b k y).1.length := by
  unfold wrEther; split
  · rfl
  rw [h]; split
  · rfl
  · simp [ethBytes, ethBody, h]
theorem askF_len (c : CfgD) (d i j : Nat) : (askF c d i).length = (askF c d j).length := wrEther_len2 _ _ _ _ _ (wrIP_len2 _ _ _ _ _ _ _)
structure KeepA (s t : St) : Prop where
  c : t.c = s.c
  now : t.now = s.now
  draw : t.draw = s.draw
  boots : t.boots = s.boots
  cache : t.cache = s.cache
  lease : t.lease = s.lease
  xid : t.xid = s.xid
  sends : t.lsends = s.lsends
  again : t.lagain = s.lagain
  phase : t.phase = s.phase
theorem asks_sel (s : St) (hl : s.lease = 1) (ht : s.tx = []) (hc : s.c.tx ≠ 0) : s.asks.tx = [askF s.c s.xid s.id] ∧ KeepA s s.asks := by
  have ha : s.address = 0 := by unfold St.address; rw [if_neg (by omega)]
  have e : s.asks = s.took.send aMac 2048 (s.packet 4294967295 68 67 (s.msg 1 [])) := by unfold St.asks St.say; rw [if_pos hl, if_neg (by decide)]
  rw [e]
  unfold St.send
  rw [if_neg (by show ¬ s.tx.length = s.c.tx; rw [ht]; exact fun x => hc x.symm)]
  refine ⟨?_, ⟨rfl, rfl, rfl, rfl, rfl, rfl, rfl, rfl, rfl, rfl⟩⟩
  show s.tx ++ [(wrEther aMac s.c.card 2048 (s.packet 4294967295 68 67 (s.msg 1 []))).1] = _
  rw [ht]; unfold St.packet St.msg; rw [ha]; rfl
structure Fresh (c : CfgD) (b t : Int) (s : St) : Prop where
  c : s.c = c
  tx : s.tx = []
  now : s.now = t
  boots : s.boots = b
  cache : s.cache = []
  lease : s.lease = 0
  phase : s.phase = 0
structure Sel (c : CfgD) (d : Nat) (b t : Int) (k : Nat) (ag : Int) (s : St) : Prop where
  c : s.c = c
  tx : s.tx = []
  now : s.now = t
  draw : s.draw = d
  boots : s.boots = b
  cache : s.cache = []
  lease : s.lease = 1
  xid : s.xid = d
  sends : s.lsends = k
  again : s.lagain = ag
  phase : s.phase = 0
theorem Fresh.quiet {c : CfgD} {b t : Int} {s : St} (h : Fresh c b t s) : Quiet s := ⟨h.cache, by rw [h.lease]; omega, .inl h.phase⟩
theorem Sel.quiet {c : CfgD} {d : Nat} {b t : Int} {k : Nat} {ag : Int} {s : St} (h : Sel c d b t k ag s) : Quiet s := ⟨h.cache, by rw [h.lease]; omega, .inl h.phase⟩
def Wt (d k : Nat) : Int := ((2 * 2 ^ k + d % 3 : Nat) : Int) - 1
theorem Wt_le (d k : Nat) (hk : k ≤ 4) : 1 ≤ Wt d k ∧ Wt d k ≤ 40 := by
  unfold Wt
  have := Nat.mod_lt d (by omega : 0 < 3)
  rcases (by omega : k = 0 ∨ k = 1 ∨ k = 2 ∨ k = 3 ∨ k = 4) with rfl | rfl | rfl | rfl | rfl <;> omega
theorem wr_in {x : Int} (h0 : 0 ≤ x) (h1 : x ≤ 1000000) : wrap64 x = x := by unfold wrap64; omega
theorem Fresh.tick {c : CfgD} {b t : Int} {s : St} (d : Nat) (h : Fresh c b t s) (hc : c.tx ≠ 0) (h0 : 0 ≤ t) (h1 : t ≤ 100000) :
    (s.tick d).tx = [askF c d s.id] ∧ Sel c d b (t + 1) 1 (t + 1 + Wt d 0) { s.tick d with tx := [] } := by
  rw [h.quiet.tick_eq, if_neg (by rw [h.phase]; omega)]
  unfold St.leases
  rw [if_pos h.lease]
  unfold St.goes
  have w := Wt_le d 0 (by omega)
  have hw : ∀ u : St, u.draw = d → u.wait 0 = Wt d 0 := fun u e => by unfold St.wait Wt; rw [e]
  have e : wrap64 (s.now + 1) = t + 1 := by rw [h.now, wr_in (by omega) (by omega)]
  have key : ∀ u : St, u = ({ s with now := wrap64 (s.now + 1), draw := d, xid := d, lease := 1, lsends := 1, lagain := wrap64 (wrap64 (s.now + 1) + St.wait { s with now := wrap64 (s.now + 1), draw := d, xid := d } 0) } : St) → (St.asks u).tx = [askF c d s.id] ∧ Sel c d b (t + 1) (1) (t + 1 + Wt d 0) { St.asks u with tx := [] } := fun u hu => by
    have fc : u.c = c := by rw [hu]; exact h.c
    have ft : u.tx = [] := by rw [hu]; exact h.tx
    have fl : u.lease = 1 := by rw [hu]
    have fx : u.xid = d := by rw [hu]
    have fi : u.id = s.id := by rw [hu]
    have fn : u.now = t + 1 := by rw [hu]; exact e
    have fd : u.draw = d := by rw [hu]
    have fb : u.boots = b := by rw [hu]; exact h.boots
    have fm : u.cache = [] := by rw [hu]; exact h.cache
    have fs : u.lsends = 1 := by rw [hu]
    have fp : u.phase = 0 := by rw [hu]; exact h.phase
    have fa : u.lagain = t + 1 + Wt d 0 := by rw [hu]; dsimp only; rw [hw _ rfl, e, wr_in (by omega) (by omega)]
    obtain ⟨k1, k⟩ := asks_sel u fl ft (by rw [fc]; exact hc)
    exact ⟨by rw [k1, fc, fx, fi], ⟨k.c.trans fc, rfl, k.now.trans fn, k.draw.trans fd, k.boots.trans fb, k.cache.trans fm, k.lease.trans fl, k.xid.trans fx, k.sends.trans fs, k.again.trans fa, k.phase.trans fp⟩⟩
  exact key _ rfl
theorem Sel.early {c : CfgD} {b t : Int} {s : St} {d k : Nat} {ag : Int} (h : Sel c d b t k ag s) (hn : t + 1 < ag) (h0 : 0 ≤ t) (h1 : t ≤ 100000) :
    (s.tick d).tx = [] ∧ Sel c d b (t + 1) k ag (s.tick d) := by
  rw [h.quiet.tick_eq, if_neg (by rw [h.phase]; omega)]
  unfold St.leases
  rw [if_neg (by show ¬ s.lease = 0; rw [h.lease]; omega), if_pos (.inl h.lease)]
  have e : wrap64 (s.now + 1) = t + 1 := by rw [h.now, wr_in (by omega) (by omega)]
  rw [if_pos (by show wrap64 (s.now + 1) < s.lagain; rw [e, h.again]; exact hn)]
  exact ⟨h.tx, ⟨h.c, h.tx, e, rfl, h.boots, h.cache, h.lease, h.xid, h.sends, h.again, h.phase⟩⟩
theorem Sel.send {c : CfgD} {b t : Int} {s : St} {d k : Nat} {ag : Int} (h : Sel c d b t k ag s) (hn : ag ≤ t + 1) (hk : k < 4) (hc : c.tx ≠ 0) (h0 : 0 ≤ t) (h1 : t ≤ 100000) :
    (s.tick d).tx = [askF c d s.id] ∧ Sel c d b (t + 1) (k + 1) (t + 1 + Wt d k) { s.tick d with tx := [] } := by
  rw [h.quiet.tick_eq, if_neg (by rw [h.phase]; omega)]
  unfold St.leases
  have e : wrap64 (s.now + 1) = t + 1 := by rw [h.now, wr_in (by omega) (by omega)]
  have w := Wt_le d k (by omega)
  have hw : ∀ u : St, u.draw = d → u.wait k = Wt d k := fun u e => by unfold St.wait Wt; rw [e]
  rw [if_neg (by show ¬ s.lease = 0; rw [h.lease]; omega), if_pos (.inl h.lease), if_neg (by show ¬ wrap64 (s.now + 1) < s.lagain; rw [e, h.again]; omega), if_neg (by show ¬ s.lsends = 4; rw [h.sends]; omega)]
  have key : ∀ u : St, u = ({ s with now := wrap64 (s.now + 1), draw := d, lagain := wrap64 (wrap64 (s.now + 1) + St.wait { s with now := wrap64 (s.now + 1), draw := d } s.lsends), lsends := s.lsends + 1 } : St) → (St.asks u).tx = [askF c d s.id] ∧ Sel c d b (t + 1) (k + 1) (t + 1 + Wt d k) { St.asks u with tx := [] } := fun u hu => by
    have fc : u.c = c := by rw [hu]; exact h.c
    have ft : u.tx = [] := by rw [hu]; exact h.tx
    have fl : u.lease = 1 := by rw [hu]; exact h.lease
    have fx : u.xid = d := by rw [hu]; exact h.xid
    have fi : u.id = s.id := by rw [hu]
    have fn : u.now = t + 1 := by rw [hu]; exact e
    have fd : u.draw = d := by rw [hu]
    have fb : u.boots = b := by rw [hu]; exact h.boots
    have fm : u.cache = [] := by rw [hu]; exact h.cache
    have fs : u.lsends = k + 1 := by rw [hu]; dsimp only; rw [h.sends]
    have fp : u.phase = 0 := by rw [hu]; exact h.phase
    have fa : u.lagain = t + 1 + Wt d k := by rw [hu]; dsimp only; rw [h.sends, hw _ rfl, e, wr_in (by omega) (by omega)]
    obtain ⟨k1, k⟩ := asks_sel u fl ft (by rw [fc]; exact hc)
    exact ⟨by rw [k1, fc, fx, fi], ⟨k.c.trans fc, rfl, k.now.trans fn, k.draw.trans fd, k.boots.trans fb, k.cache.trans fm, k.lease.trans fl, k.xid.trans fx, k.sends.trans fs, k.again.trans fa, k.phase.trans fp⟩⟩
  exact key _ rfl
structure Dead (s : St) : Prop where
  q : Quiet s
  tx : s.tx = []
  now : 0 ≤ s.now
  phase : s.phase = 4
theorem Sel.over {c : CfgD} {b t : Int} {s : St} {d : Nat} {ag : Int} (h : Sel c d b t 4 ag s) (hn : ag ≤ t + 1) (h0 : 0 ≤ t) (h1 : t ≤ 100000) (hb0 : 0 ≤ b) (hb : b ≤ 2) :
    (s.tick d).tx = [] ∧ (s.tick d).boots = b + 1 ∧ (s.tick d).now = t + 1 ∧ (b < 2 → Fresh c (b + 1) (t + 1) (s.tick d)) ∧ (b = 2 → Dead (s.tick d)) := by
  rw [h.quiet.tick_eq, if_neg (by rw [h.phase]; omega)]
  unfold St.leases
  have e : wrap64 (s.now + 1) = t + 1 := by rw [h.now, wr_in (by omega) (by omega)]
  rw [if_neg (by show ¬ s.lease = 0; rw [h.lease]; omega), if_pos (.inl h.lease), if_neg (by show ¬ wrap64 (s.now + 1) < s.lagain; rw [e, h.again]; omega), if_pos h.sends]
  have eb : wrap64 (s.boots + 1) = b + 1 := by rw [h.boots, wr_in (by omega) (by omega)]
  unfold St.fail
  dsimp only
  rw [eb]
  split
  · next h3 => exact ⟨h.tx, rfl, e, fun x => by omega, fun _ => ⟨⟨rfl, Nat.zero_le _, .inr rfl⟩, h.tx, by show 0 ≤ wrap64 (s.now + 1); omega, rfl⟩⟩
  · next h3 => exact ⟨h.tx, rfl, e, fun _ => ⟨h.c, h.tx, e, rfl, rfl, rfl, rfl⟩, fun x => by omega⟩
theorem Dead.tick {s : St} (h : Dead s) (d : Nat) (h1 : s.now ≤ 100000) : Dead (s.tick d) ∧ (s.tick d).now = s.now + 1 := by
  have h0 := h.now
  have e : wrap64 (s.now + 1) = s.now + 1 := wr_in (by omega) (by omega)
  rw [h.q.tick_eq, if_pos h.phase]
  exact ⟨⟨⟨h.q.cache, h.q.lease, h.q.phase⟩, h.tx, by show 0 ≤ wrap64 _; omega, h.phase⟩, e⟩
def Ready (c : CfgD) (d : Nat) (b t : Int) (k : Nat) (s : St) : Prop := (k = 0 ∧ Fresh c b t s) ∨ (0 < k ∧ Sel c d b t k (t + 1) s)
theorem Ready.quiet {c : CfgD} {d : Nat} {b t : Int} {k : Nat} {s : St} (h : Ready c d b t k s) : Quiet s := by rcases h with ⟨_, h⟩ | ⟨_, h⟩ <;> exact h.quiet
theorem Ready.now {c : CfgD} {d : Nat} {b t : Int} {k : Nat} {s : St} (h : Ready c d b t k s) : s.now = t := by rcases h with ⟨_, h⟩ | ⟨_, h⟩ <;> exact h.now
theorem Ready.tick {c : CfgD} {d : Nat} {b t : Int} {k : Nat} {s : St} (h : Ready c d b t k s) (hk : k < 4) (hc : c.tx ≠ 0) (h0 : 0 ≤ t) (h1 : t ≤ 100000) :
    (s.tick d).tx = [askF c d s.id] ∧ Sel c d b (t + 1) (k + 1) (t + 1 + Wt d k) { s.tick d with tx := [] } := by
  rcases h with ⟨rfl, h⟩ | ⟨_, h⟩
  · exact h.tick d hc h0 h1
  · exact h.send (by omega) hk hc h0 h1
theorem tx_none {s : St} (h : s.tx = []) : ({ s with tx := [] } : St) = s := by
  rcases s with ⟨c, rx, tx, now, draw, boots, lost, id, cache, lease, xid, addr, mask, router, server, source, t1, t2, untl, lagain, lsends, phase, port, peer, block, wind, next, came, tagain, tsends, goal, last, image⟩
  dsimp only at h; subst h; rfl
end Go.Proofs.YtcbkaiakdhiloabGreatDoor
