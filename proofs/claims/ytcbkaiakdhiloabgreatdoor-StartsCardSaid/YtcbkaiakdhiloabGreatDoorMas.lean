/- Parts of the walk; written by programs, merged. -/
import Derived.Test.YtcbkaiakdhiloabGreatDoorMaf
import Derived.Test.YtcbkaiakdhiloabGreatDoorMar
import Derived.Test.YtcbkaiakdhiloabGreatDoorProg
import Derived.Test.YtcbkaiakdhiloabGreatDoorShelf
import Derived.WalkKit
import Derived.WalkLawsBesides
import Derived.WalkSpells
import Derived.Deep.AppendLies
import Derived.Deep.DrawnRows
import Derived.Maps.AppendAt
import Derived.StillTailTactics
import Derived.Lib.Hide
import Derived.Lib.AppendStr
import Derived.Lib.Strings
import Derived.Laws.MakeOwn
import Derived.Laws.OwnMore
import Derived.Laws.BitsAllLaws
import Derived.Orders
import Derived.Deep.MidRow
import Derived.Deep.DeepMust
import Derived.Deep.RegionHeld3
import Derived.Deep.RegionLaw
import Derived.Deep.LoopGhost
import Derived.Deep.Cut
import Derived.Deep.CutRange
import Derived.Deep.QuietTactic
import Derived.BigQuiet
import Derived.Lib.ConvBytes
import Derived.Lib.LazyBuf
import Derived.Recover
import Derived.OrdersHeld
import Derived.Lib.MapLaws
import Derived.Lib.TrimAscii
import Derived.Lib.LaidTab
import Derived.Lib.ItoaNum
import Derived.Maps.Own
import Derived.Maps.OwnOps
import Derived.Maps.OwnSet
import Derived.Maps.Views
import Derived.Maps.RangeWalk
import Derived.Deep.CutBlock
set_option linter.unusedSimpArgs false
set_option linter.unusedVariables false
set_option maxRecDepth 20000
set_option maxHeartbeats 8000000
set_option maxRecDepth 20000
namespace Go.Proofs.YtcbkaiakdhiloabGreatDoor
open Go.RowKit Go.Proofs
attribute [local go_sem] bs_size bs_append bs_extract bs_toList
def New (f : Nat → Value) (base : Nat) (t : TypeId) (cs : Array Value) (v : Value) (w : World) : Prop := ∃ b, v = f b ∧ base ≤ b ∧ Bk w b t cs
def New0 (f : Nat → Value) (base : Nat) (t : TypeId) (n : Nat) (v : Value) (w : World) : Prop := ∃ b cs, v = f b ∧ base ≤ b ∧ Bk w b t cs ∧ cs.size = n
theorem New.keep {f : Nat → Value} {base : Nat} {t : TypeId} {cs : Array Value} {v : Value} {w w' : World} (h : New f base t cs v w) (hf : Fr noB w w') : New f base t cs v w' := by
  obtain ⟨b, h1, h2, h3⟩ := h; exact ⟨b, h1, h2, h3.keep hf (fun x => x)⟩
theorem New0.keep {f : Nat → Value} {base n : Nat} {t : TypeId} {v : Value} {w w' : World} (h : New0 f base t n v w) (hf : Fr noB w w') : New0 f base t n v w' := by
  obtain ⟨b, cs, h1, h2, h3, h4⟩ := h; exact ⟨b, cs, h1, h2, h3.keep hf (fun x => x), h4⟩
theorem New.one {f : Nat → Value} {base g : Nat} {t t' : TypeId} {cs cs' : Array Value} {v : Value} {w w' : World} (h : New f base t cs v w) (hg : Bk w g t' cs') (ht : t ≠ t') (hf : Fr (oneB g) w w') : New f base t cs v w' := by
  obtain ⟨b, h1, h2, h3⟩ := h
  refine ⟨b, h1, h2, h3.keep hf (fun e => ht ?_)⟩
  have e' : b = g := e
  subst e'
  have := h3.symm.trans hg
  injection this with this; injection this
theorem New0.one {f : Nat → Value} {base g n : Nat} {t : TypeId} {cs : Array Value} {v : Value} {w w' : World} (h : New0 f base t n v w) (hg : Bk w' g t cs) (hn : cs.size = n) (hf : Fr (oneB g) w w') : New0 f base t n v w' := by
  obtain ⟨b, cs', h1, h2, h3, h4⟩ := h
  by_cases e : b = g
  · subst e; exact ⟨b, cs, h1, h2, hg, hn⟩
  · exact ⟨b, cs', h1, h2, h3.keep hf e, h4⟩
def nsF (u : Nat → Value) : Act := ⟨#[u 0, u 1, u 2, u 3, u 4, u 5, u 6, u 7, u 8, u 9, u 10, u 11, u 12, u 13, u 14, u 15, u 16, u 17, u 18, u 19, u 20, u 21, u 22, u 23, u 24, u 25, u 26, u 27, u 28, u 29, u 30, u 31, u 32, u 33, u 34, u 35, u 36, u 37, u 38, u 39, u 40, u 41, u 42, u 43, u 44, u 45, u 46, u 47, u 48, u 49, u 50, u 51, u 52, u 53, u 54, u 55, u 56, u 57, u 58, u 59, u 60, u 61, u 62, u 63, u 64, u 65, u 66, u 67, u 68, u 69], []⟩
set_option maxRecDepth 100000 in
theorem nsF_eq (u : Nat → Value) : nsF u = frN 70 u := rfl
theorem nsF_of {a : Act} (h : Sz 70 a) : a = nsF (sl a) := h.eq.trans (nsF_eq _).symm
theorem nsR0 (p T : Nat) (M : MLay) (s : St) (kind : UInt8) (a : Act) (w : World) (K : Exit → Act → World → Prop) (hs : Sz 70 a)
    (h0 : sl a 0 = .pointer (some ⟨p, 0, none⟩)) (h1 : sl a 1 = .int .u8 (kind.toNat : Int)) (h : ModelAt w p T M s)
    (hK : ∀ a' w' (g b : Nat), Sz 70 a' → Kp [0, 1, 2, 3, 11, 12, 30, 31, 32] a a' → sl a' 8 = .pointer (some ⟨g, 0, none⟩) → w.heap.size ≤ g → w.heap.size ≤ b → Bk w' g 75 #[.bool false, .int .u32 (s.xid : Int), .int .u32 (s.address : Int), .int .u32 0, .int .u32 0, .int .u8 (s.c.card.1.toNat : Int), .int .u8 (s.c.card.2.1.toNat : Int), .int .u8 (s.c.card.2.2.1.toNat : Int), .int .u8 (s.c.card.2.2.2.1.toNat : Int), .int .u8 (s.c.card.2.2.2.2.1.toNat : Int), .int .u8 (s.c.card.2.2.2.2.2.toNat : Int), .slice (some ⟨b, 0, none⟩) 1 1] → Bk w' b 72 #[.int .u8 53, .string (bs [kind])] → ModelAt w' p T M s → Fr noB w w' → K .normal a' w') :
    (regionOf Tryz.f176 0).wp Tryz.prog K a w := by
  unfold Kp at hK; rw [nsF_of hs]; clear hs; generalize sl a = u at *; clear a; have HK := Lib.hid hK; clear hK; conv => arg 2; whnf
  simp only [nsF, h0, h1]
  obtain ⟨V, hV⟩ : ∃ V : Nat → Value, V = (fun jj => match jj with | 0 => .pointer (some ⟨p, 0, none⟩) | 1 => .pointer (some ⟨p, 0, none⟩) | 2 => .pointer (some ⟨p, 23, none⟩) | 3 => .int .u32 (s.xid : Int) | 4 => .pointer (some ⟨p, 0, none⟩) | 5 => .int .u32 (s.address : Int) | 6 => .pointer (some ⟨p, 0, none⟩) | 7 => .pointer (some ⟨p, 0, none⟩) | 8 => .pointer (some ⟨p, 1, none⟩) | 9 => .pointer (some ⟨p, 1, none⟩) | 10 => .agg #[.int .u8 (s.c.card.1.toNat : Int), .int .u8 (s.c.card.2.1.toNat : Int), .int .u8 (s.c.card.2.2.1.toNat : Int), .int .u8 (s.c.card.2.2.2.1.toNat : Int), .int .u8 (s.c.card.2.2.2.2.1.toNat : Int), .int .u8 (s.c.card.2.2.2.2.2.toNat : Int)] | 11 => .int .u8 (kind.toNat : Int) | 13 => .string (bs [kind]) | 14 => .agg #[.int .u8 53, .string (bs [kind])] | _ => undef) := ⟨_, rfl⟩
  have q_0 : V 0 = .pointer (some ⟨p, 0, none⟩) := congrFun hV 0
  have q_1 : V 1 = .pointer (some ⟨p, 0, none⟩) := congrFun hV 1
  have q_2 : V 2 = .pointer (some ⟨p, 23, none⟩) := congrFun hV 2
  have q_3 : V 3 = .int .u32 (s.xid : Int) := congrFun hV 3
  have q_4 : V 4 = .pointer (some ⟨p, 0, none⟩) := congrFun hV 4
  have q_5 : V 5 = .int .u32 (s.address : Int) := congrFun hV 5
  have q_6 : V 6 = .pointer (some ⟨p, 0, none⟩) := congrFun hV 6
  have q_7 : V 7 = .pointer (some ⟨p, 0, none⟩) := congrFun hV 7
  have q_8 : V 8 = .pointer (some ⟨p, 1, none⟩) := congrFun hV 8
  have q_9 : V 9 = .pointer (some ⟨p, 1, none⟩) := congrFun hV 9
  have q_10 : V 10 = .agg #[.int .u8 (s.c.card.1.toNat : Int), .int .u8 (s.c.card.2.1.toNat : Int), .int .u8 (s.c.card.2.2.1.toNat : Int), .int .u8 (s.c.card.2.2.2.1.toNat : Int), .int .u8 (s.c.card.2.2.2.2.1.toNat : Int), .int .u8 (s.c.card.2.2.2.2.2.toNat : Int)] := congrFun hV 10
  have q_11 : V 11 = .int .u8 (kind.toNat : Int) := congrFun hV 11
  have q_13 : V 13 = .string (bs [kind]) := congrFun hV 13
  have q_14 : V 14 = .agg #[.int .u8 53, .string (bs [kind])] := congrFun hV 14
  have q_18 : V 18 = undef := congrFun hV 18
  clear hV
  have hmono : ∀ (j : Nat) (v : Value) (w4 w5 : World), Fr noB w4 w5 → ((fun j v w4 => if j = 12 then New (fun b => .slice (some ⟨b, 0, none⟩) 1 1) w.heap.size 5 #[.int .u8 (kind.toNat : Int)] v w4 else if j = 15 then New (fun b => .slice (some ⟨b, 0, none⟩) 1 1) w.heap.size 72 #[.int .u8 53, .string (bs [kind])] v w4 else if j = 16 then New (fun b => .agg #[.bool false, .int .u32 (s.xid : Int), .int .u32 (s.address : Int), .int .u32 0, .int .u32 0, .int .u8 (s.c.card.1.toNat : Int), .int .u8 (s.c.card.2.1.toNat : Int), .int .u8 (s.c.card.2.2.1.toNat : Int), .int .u8 (s.c.card.2.2.2.1.toNat : Int), .int .u8 (s.c.card.2.2.2.2.1.toNat : Int), .int .u8 (s.c.card.2.2.2.2.2.toNat : Int), .slice (some ⟨b, 0, none⟩) 1 1]) w.heap.size 72 #[.int .u8 53, .string (bs [kind])] v w4 else if j = 17 then New0 (fun b => .pointer (some ⟨b, 0, none⟩)) w.heap.size 75 12 v w4 else v = V j) : Nat → Value → World → Prop) j v w4 → ((fun j v w4 => if j = 12 then New (fun b => .slice (some ⟨b, 0, none⟩) 1 1) w.heap.size 5 #[.int .u8 (kind.toNat : Int)] v w4 else if j = 15 then New (fun b => .slice (some ⟨b, 0, none⟩) 1 1) w.heap.size 72 #[.int .u8 53, .string (bs [kind])] v w4 else if j = 16 then New (fun b => .agg #[.bool false, .int .u32 (s.xid : Int), .int .u32 (s.address : Int), .int .u32 0, .int .u32 0, .int .u8 (s.c.card.1.toNat : Int), .int .u8 (s.c.card.2.1.toNat : Int), .int .u8 (s.c.card.2.2.1.toNat : Int), .int .u8 (s.c.card.2.2.2.1.toNat : Int), .int .u8 (s.c.card.2.2.2.2.1.toNat : Int), .int .u8 (s.c.card.2.2.2.2.2.toNat : Int), .slice (some ⟨b, 0, none⟩) 1 1]) w.heap.size 72 #[.int .u8 53, .string (bs [kind])] v w4 else if j = 17 then New0 (fun b => .pointer (some ⟨b, 0, none⟩)) w.heap.size 75 12 v w4 else v = V j) : Nat → Value → World → Prop) j v w5 := by
    intro j v w4 w5 hf hx
    try dsimp only at hx ⊢
    by_cases h12 : j = 12
    · subst h12; simp only [reduceIte, Nat.reduceEqDiff] at hx ⊢; exact hx.keep hf
    by_cases h15 : j = 15
    · subst h15; simp only [reduceIte, Nat.reduceEqDiff] at hx ⊢; exact hx.keep hf
    by_cases h16 : j = 16
    · subst h16; simp only [reduceIte, Nat.reduceEqDiff] at hx ⊢; exact hx.keep hf
    by_cases h17 : j = 17
    · subst h17; simp only [reduceIte, Nat.reduceEqDiff] at hx ⊢; exact hx.keep hf
    simp only [h12, h15, h16, h17, reduceIte] at hx ⊢; exact hx
  refine wp_region_ssac (by kernel_rfl) (by kernel_rfl) (by kernel_rfl)
    (fun y => ⟨List.toArray (.pointer (some ⟨p, 0, none⟩) :: .int .u8 (kind.toNat : Int) :: u 2 :: u 3 :: u 4 :: u 5 :: u 6 :: u 7 :: y 17 :: u 9 :: u 10 :: u 11 :: u 12 :: y 0 :: y 1 :: y 2 :: y 3 :: y 4 :: y 5 :: y 6 :: y 7 :: y 8 :: y 9 :: y 10 :: y 11 :: y 12 :: y 13 :: y 14 :: y 15 :: y 16 :: u 30 :: u 31 :: u 32 :: u 33 :: u 34 :: u 35 :: u 36 :: u 37 :: u 38 :: u 39 :: u 40 :: u 41 :: u 42 :: u 43 :: u 44 :: u 45 :: u 46 :: u 47 :: u 48 :: u 49 :: u 50 :: u 51 :: u 52 :: u 53 :: u 54 :: u 55 :: u 56 :: u 57 :: u 58 :: u 59 :: u 60 :: u 61 :: u 62 :: u 63 :: u 64 :: u 65 :: u 66 :: u 67 :: u 68 :: u 69 :: []), []⟩)
    (fun j v w4 => if j = 12 then New (fun b => .slice (some ⟨b, 0, none⟩) 1 1) w.heap.size 5 #[.int .u8 (kind.toNat : Int)] v w4 else if j = 15 then New (fun b => .slice (some ⟨b, 0, none⟩) 1 1) w.heap.size 72 #[.int .u8 53, .string (bs [kind])] v w4 else if j = 16 then New (fun b => .agg #[.bool false, .int .u32 (s.xid : Int), .int .u32 (s.address : Int), .int .u32 0, .int .u32 0, .int .u8 (s.c.card.1.toNat : Int), .int .u8 (s.c.card.2.1.toNat : Int), .int .u8 (s.c.card.2.2.1.toNat : Int), .int .u8 (s.c.card.2.2.2.1.toNat : Int), .int .u8 (s.c.card.2.2.2.2.1.toNat : Int), .int .u8 (s.c.card.2.2.2.2.2.toNat : Int), .slice (some ⟨b, 0, none⟩) 1 1]) w.heap.size 72 #[.int .u8 53, .string (bs [kind])] v w4 else if j = 17 then New0 (fun b => .pointer (some ⟨b, 0, none⟩)) w.heap.size 75 12 v w4 else v = V j)
    (fun L y w4 => (ModelAt w4 p T M s) ∧ Fr noB w w4 ∧ (L 18 = true → ∃ g b, y 17 = .pointer (some ⟨g, 0, none⟩) ∧ w.heap.size ≤ g ∧ w.heap.size ≤ b ∧ Bk w4 g 75 #[.bool false, .int .u32 (s.xid : Int), .int .u32 (s.address : Int), .int .u32 0, .int .u32 0, .int .u8 (s.c.card.1.toNat : Int), .int .u8 (s.c.card.2.1.toNat : Int), .int .u8 (s.c.card.2.2.1.toNat : Int), .int .u8 (s.c.card.2.2.2.1.toNat : Int), .int .u8 (s.c.card.2.2.2.2.1.toNat : Int), .int .u8 (s.c.card.2.2.2.2.2.toNat : Int), .slice (some ⟨b, 0, none⟩) 1 1] ∧ Bk w4 b 72 #[.int .u8 53, .string (bs [kind])])) (fun j => (([u 13, u 14, u 15, u 16, u 17, u 18, u 19, u 20, u 21, u 22, u 23, u 24, u 25, u 26, u 27, u 28, u 29, u 8, undef] : List Value).getD j undef)) ⟨h.drew, (Fr.refl _ _).drew, fun h => by cases h⟩ ?_ ?_
  · rintro L y w4 i o hcl ⟨hB, hF, hT⟩ hΦ ho hL hd K2 hK2
    match i, ho with
    | 0, ho =>
      simp at ho; subst ho
      have hns : ¬ L 18 = true := fun h => by have h2 := hcl.dep 18 0 h (by rfl); rw [hL] at h2; cases h2
      clear hΦ hd hT
      have HMo := Lib.hid hmono; clear hmono
      have HB := Lib.hid hB; have HF := Lib.hid hF; clear hB hF
      first | go_big_move | go_big_op
      exact hK2 _ _ (by simp only [reduceIte, Nat.reduceEqDiff]; exact q_0.symm) ⟨HB.out, HF.out, fun h => absurd (show L 18 = true from h) hns⟩ (fun _ _ _ h => h)
    | 1, ho =>
      simp at ho; subst ho
      have hu0 := hΦ 0 (hd ⟨0, .data⟩ (by simp) (by rfl))
      simp only [reduceIte, Nat.reduceEqDiff] at hu0
      rw [q_0] at hu0
      have hns : ¬ L 18 = true := fun h => by have h2 := hcl.dep 18 1 h (by rfl); rw [hL] at h2; cases h2
      clear hΦ hd hT
      have HMo := Lib.hid hmono; clear hmono
      have HB := Lib.hid hB; have HF := Lib.hid hF; clear hB hF
      first | go_big_move | go_big_op
      exact hK2 _ _ (by simp only [reduceIte, Nat.reduceEqDiff]; exact q_1.symm) ⟨HB.out, HF.out, fun h => absurd (show L 18 = true from h) hns⟩ (fun _ _ _ h => h)
    | 2, ho =>
      simp at ho; subst ho
      have hu1 := hΦ 1 (hd ⟨1, .data⟩ (by simp) (by rfl))
      simp only [reduceIte, Nat.reduceEqDiff] at hu1
      rw [q_1] at hu1
      have hns : ¬ L 18 = true := fun h => by have h2 := hcl.dep 18 2 h (by rfl); rw [hL] at h2; cases h2
      clear hΦ hd hT
      have HMo := Lib.hid hmono; clear hmono
      have HB := Lib.hid hB; have HF := Lib.hid hF; clear hB hF
      first | go_big_move | go_big_op
      exact hK2 _ _ (by simp only [reduceIte, Nat.reduceEqDiff]; exact q_2.symm) ⟨HB.out, HF.out, fun h => absurd (show L 18 = true from h) hns⟩ (fun _ _ _ h => h)
    | 3, ho =>
      simp at ho; subst ho
      have hu2 := hΦ 2 (hd ⟨2, .data⟩ (by simp) (by rfl))
      simp only [reduceIte, Nat.reduceEqDiff] at hu2
      rw [q_2] at hu2
      have hns : ¬ L 18 = true := fun h => by have h2 := hcl.dep 18 3 h (by rfl); rw [hL] at h2; cases h2
      clear hΦ hd hT
      have HMo := Lib.hid hmono; clear hmono
      have c23 := hB.g23
      have HB := Lib.hid hB; have HF := Lib.hid hF; clear hB hF
      first | go_big_move | go_big_op
      exact hK2 _ _ (by simp only [reduceIte, Nat.reduceEqDiff]; exact q_3.symm) ⟨HB.out, HF.out, fun h => absurd (show L 18 = true from h) hns⟩ (fun _ _ _ h => h)
    | 4, ho =>
      simp at ho; subst ho
      have hns : ¬ L 18 = true := fun h => by have h2 := hcl.dep 18 4 h (by rfl); rw [hL] at h2; cases h2
      clear hΦ hd hT
      have HMo := Lib.hid hmono; clear hmono
      have HB := Lib.hid hB; have HF := Lib.hid hF; clear hB hF
      first | go_big_move | go_big_op
      exact hK2 _ _ (by simp only [reduceIte, Nat.reduceEqDiff]; exact q_4.symm) ⟨HB.out, HF.out, fun h => absurd (show L 18 = true from h) hns⟩ (fun _ _ _ h => h)
    | 5, ho =>
      simp at ho; subst ho
      have hu4 := hΦ 4 (hd ⟨4, .data⟩ (by simp) (by rfl))
      simp only [reduceIte, Nat.reduceEqDiff] at hu4
      rw [q_4] at hu4
      have hns : ¬ L 18 = true := fun h => by have h2 := hcl.dep 18 5 h (by rfl); rw [hL] at h2; cases h2
      clear hΦ hd hT
      have HMo := Lib.hid hmono; clear hmono
      have hcall := modAddress p T M s w4 hB
      have HB := Lib.hid hB; have HF := Lib.hid hF; have HC := Lib.hid (show Calls Tryz.prog 154 #[y 4] w4 _ by rw [hu4]; exact hcall); clear hB hF hcall hu4
      go_simp
      refine HC.out.mono ?_
      rintro e w5 ⟨rfl, hw⟩
      subst w5
      refine hK2 _ _ (by simp only [reduceIte, Nat.reduceEqDiff]; exact q_5.symm) ⟨HB.out, HF.out, fun h => absurd (show L 18 = true from h) hns⟩ (fun _ _ _ h => h)
    | 6, ho =>
      simp at ho; subst ho
      have hns : ¬ L 18 = true := fun h => by have h2 := hcl.dep 18 6 h (by rfl); rw [hL] at h2; cases h2
      clear hΦ hd hT
      have HMo := Lib.hid hmono; clear hmono
      have HB := Lib.hid hB; have HF := Lib.hid hF; clear hB hF
      first | go_big_move | go_big_op
      exact hK2 _ _ (by simp only [reduceIte, Nat.reduceEqDiff]; exact q_6.symm) ⟨HB.out, HF.out, fun h => absurd (show L 18 = true from h) hns⟩ (fun _ _ _ h => h)
    | 7, ho =>
      simp at ho; subst ho
      have hu6 := hΦ 6 (hd ⟨6, .data⟩ (by simp) (by rfl))
      simp only [reduceIte, Nat.reduceEqDiff] at hu6
      rw [q_6] at hu6
      have hns : ¬ L 18 = true := fun h => by have h2 := hcl.dep 18 7 h (by rfl); rw [hL] at h2; cases h2
      clear hΦ hd hT
      have HMo := Lib.hid hmono; clear hmono
      have HB := Lib.hid hB; have HF := Lib.hid hF; clear hB hF
      first | go_big_move | go_big_op
      exact hK2 _ _ (by simp only [reduceIte, Nat.reduceEqDiff]; exact q_7.symm) ⟨HB.out, HF.out, fun h => absurd (show L 18 = true from h) hns⟩ (fun _ _ _ h => h)
    | 8, ho =>
      simp at ho; subst ho
      have hu7 := hΦ 7 (hd ⟨7, .data⟩ (by simp) (by rfl))
      simp only [reduceIte, Nat.reduceEqDiff] at hu7
      rw [q_7] at hu7
      have hns : ¬ L 18 = true := fun h => by have h2 := hcl.dep 18 8 h (by rfl); rw [hL] at h2; cases h2
      clear hΦ hd hT
      have HMo := Lib.hid hmono; clear hmono
      have HB := Lib.hid hB; have HF := Lib.hid hF; clear hB hF
      first | go_big_move | go_big_op
      exact hK2 _ _ (by simp only [reduceIte, Nat.reduceEqDiff]; exact q_8.symm) ⟨HB.out, HF.out, fun h => absurd (show L 18 = true from h) hns⟩ (fun _ _ _ h => h)
    | 9, ho =>
      simp at ho; subst ho
      have hu8 := hΦ 8 (hd ⟨8, .data⟩ (by simp) (by rfl))
      simp only [reduceIte, Nat.reduceEqDiff] at hu8
      rw [q_8] at hu8
      have hns : ¬ L 18 = true := fun h => by have h2 := hcl.dep 18 9 h (by rfl); rw [hL] at h2; cases h2
      clear hΦ hd hT
      have HMo := Lib.hid hmono; clear hmono
      have HB := Lib.hid hB; have HF := Lib.hid hF; clear hB hF
      first | go_big_move | go_big_op
      exact hK2 _ _ (by simp only [reduceIte, Nat.reduceEqDiff]; exact q_9.symm) ⟨HB.out, HF.out, fun h => absurd (show L 18 = true from h) hns⟩ (fun _ _ _ h => h)
    | 10, ho =>
      simp at ho; subst ho
      have hu9 := hΦ 9 (hd ⟨9, .data⟩ (by simp) (by rfl))
      simp only [reduceIte, Nat.reduceEqDiff] at hu9
      rw [q_9] at hu9
      have hns : ¬ L 18 = true := fun h => by have h2 := hcl.dep 18 10 h (by rfl); rw [hL] at h2; cases h2
      clear hΦ hd hT
      have HMo := Lib.hid hmono; clear hmono
      have c1 := hB.g1; have c2 := hB.g2; have c3 := hB.g3; have c4 := hB.g4; have c5 := hB.g5; have c6 := hB.g6
      have HB := Lib.hid hB; have HF := Lib.hid hF; clear hB hF
      first | go_big_move | go_big_op
      exact hK2 _ _ (by simp only [reduceIte, Nat.reduceEqDiff]; exact q_10.symm) ⟨HB.out, HF.out, fun h => absurd (show L 18 = true from h) hns⟩ (fun _ _ _ h => h)
    | 11, ho =>
      simp at ho; subst ho
      have hns : ¬ L 18 = true := fun h => by have h2 := hcl.dep 18 11 h (by rfl); rw [hL] at h2; cases h2
      clear hΦ hd hT
      have HMo := Lib.hid hmono; clear hmono
      have HB := Lib.hid hB; have HF := Lib.hid hF; clear hB hF
      first | go_big_move | go_big_op
      exact hK2 _ _ (by simp only [reduceIte, Nat.reduceEqDiff]; exact q_11.symm) ⟨HB.out, HF.out, fun h => absurd (show L 18 = true from h) hns⟩ (fun _ _ _ h => h)
    | 12, ho =>
      simp at ho; subst ho
      have hu11 := hΦ 11 (hd ⟨11, .data⟩ (by simp) (by rfl))
      simp only [reduceIte, Nat.reduceEqDiff] at hu11
      rw [q_11] at hu11
      have hns : ¬ L 18 = true := fun h => by have h2 := hcl.dep 18 12 h (by rfl); rw [hL] at h2; cases h2
      clear hΦ hd hT
      have HMo := Lib.hid hmono; clear hmono
      have hfr : Fr noB w4 (w4.alloc (.cells #[.int .u8 (kind.toNat : Int)] 5)) := (Fr.refl _ _).alloc _
      have hnew := Bk.new w4 5 #[.int .u8 (kind.toNat : Int)]
      have hbs := hF.size
      have HB := Lib.hid (hB.none hfr); have HF := Lib.hid (hF.none hfr); have HN := Lib.hid hnew; have HR := Lib.hid hfr; have HS := Lib.hid hbs; clear hB hF hnew hfr hbs
      first | go_big_move | go_big_op
      refine hK2 _ _ (by simp only [reduceIte, Nat.reduceEqDiff]; exact ⟨_, rfl, HS.out, HN.out⟩) ⟨HB.out, HF.out, fun h => absurd (show L 18 = true from h) hns⟩ (fun j x _ h => HMo.out j x _ _ HR.out h)
    | 13, ho =>
      simp at ho; subst ho
      have hu12 := hΦ 12 (hd ⟨12, .data⟩ (by simp) (by rfl))
      simp only [reduceIte, Nat.reduceEqDiff] at hu12
      have hns : ¬ L 18 = true := fun h => by have h2 := hcl.dep 18 13 h (by rfl); rw [hL] at h2; cases h2
      clear hΦ hd hT
      have HMo := Lib.hid hmono; clear hmono
      obtain ⟨b, hb1, hb2, hb3⟩ := hu12
      have hcv : (convert 98 9 (.slice (some ⟨b, 0, none⟩) 1 1)).run Tryz.prog w4 = .ok (.string (bs [kind])) w4 := run_str_of w4 _ _ 5 Tryz.underlying98 Tryz.underlying5 Tryz.underlying9 noB (some ⟨b, 0, none⟩) 1 1 [kind] ⟨rfl, fun _ => ⟨_, rfl, hb3.lt, (fun x => x), fun j u hj => by
        have := hb3.cell j
        rw [show ((⟨b, 0, none⟩ : Addr).add j) = ⟨b, j, none⟩ by cases j <;> simp [Addr.add], this]
        simpa [u8s, u8v] using hj⟩⟩ (.inr ⟨b, 0, rfl⟩)
      have HB := Lib.hid hB; have HF := Lib.hid hF; clear hB hF hb2 hb3
      first | go_big_move | go_big_op
      exact hK2 _ _ (by simp only [reduceIte, Nat.reduceEqDiff]; exact q_13.symm) ⟨HB.out, HF.out, fun h => absurd (show L 18 = true from h) hns⟩ (fun _ _ _ h => h)
    | 14, ho =>
      simp at ho; subst ho
      have hu13 := hΦ 13 (hd ⟨13, .data⟩ (by simp) (by rfl))
      simp only [reduceIte, Nat.reduceEqDiff] at hu13
      rw [q_13] at hu13
      have hns : ¬ L 18 = true := fun h => by have h2 := hcl.dep 18 14 h (by rfl); rw [hL] at h2; cases h2
      clear hΦ hd hT
      have HMo := Lib.hid hmono; clear hmono
      have HB := Lib.hid hB; have HF := Lib.hid hF; clear hB hF
      first | go_big_move | go_big_op
      exact hK2 _ _ (by simp only [reduceIte, Nat.reduceEqDiff]; exact q_14.symm) ⟨HB.out, HF.out, fun h => absurd (show L 18 = true from h) hns⟩ (fun _ _ _ h => h)
    | 15, ho =>
      simp at ho; subst ho
      have hu14 := hΦ 14 (hd ⟨14, .data⟩ (by simp) (by rfl))
      simp only [reduceIte, Nat.reduceEqDiff] at hu14
      rw [q_14] at hu14
      have hns : ¬ L 18 = true := fun h => by have h2 := hcl.dep 18 15 h (by rfl); rw [hL] at h2; cases h2
      clear hΦ hd hT
      have HMo := Lib.hid hmono; clear hmono
      have hfr : Fr noB w4 (w4.alloc (.cells #[.int .u8 53, .string (bs [kind])] 72)) := (Fr.refl _ _).alloc _
      have hnew := Bk.new w4 72 #[.int .u8 53, .string (bs [kind])]
      have hbs := hF.size
      have HB := Lib.hid (hB.none hfr); have HF := Lib.hid (hF.none hfr); have HN := Lib.hid hnew; have HR := Lib.hid hfr; have HS := Lib.hid hbs; clear hB hF hnew hfr hbs
      first | go_big_move | go_big_op
      refine hK2 _ _ (by simp only [reduceIte, Nat.reduceEqDiff]; exact ⟨_, rfl, HS.out, HN.out⟩) ⟨HB.out, HF.out, fun h => absurd (show L 18 = true from h) hns⟩ (fun j x _ h => HMo.out j x _ _ HR.out h)
    | 16, ho =>
      simp at ho; subst ho
      have hu3 := hΦ 3 (hd ⟨3, .data⟩ (by simp) (by rfl))
      simp only [reduceIte, Nat.reduceEqDiff] at hu3
      rw [q_3] at hu3
      have hu5 := hΦ 5 (hd ⟨5, .data⟩ (by simp) (by rfl))
      simp only [reduceIte, Nat.reduceEqDiff] at hu5
      rw [q_5] at hu5
      have hu10 := hΦ 10 (hd ⟨10, .data⟩ (by simp) (by rfl))
      simp only [reduceIte, Nat.reduceEqDiff] at hu10
      rw [q_10] at hu10
      have hu15 := hΦ 15 (hd ⟨15, .data⟩ (by simp) (by rfl))
      simp only [reduceIte, Nat.reduceEqDiff] at hu15
      have hns : ¬ L 18 = true := fun h => by have h2 := hcl.dep 18 16 h (by rfl); rw [hL] at h2; cases h2
      clear hΦ hd hT
      have HMo := Lib.hid hmono; clear hmono
      obtain ⟨b, hb1, hb2, hb3⟩ := hu15
      have HB := Lib.hid hB; have HF := Lib.hid hF; have H2 := Lib.hid hb2; have H3 := Lib.hid hb3; clear hB hF hb2 hb3
      first | go_big_move | go_big_op
      exact hK2 _ _ (by simp only [reduceIte, Nat.reduceEqDiff]; exact ⟨b, rfl, H2.out, H3.out⟩) ⟨HB.out, HF.out, fun h => absurd (show L 18 = true from h) hns⟩ (fun _ _ _ h => h)
    | 17, ho =>
      simp at ho; subst ho
      have hns : ¬ L 18 = true := fun h => by have h2 := hcl.dep 18 17 h (by rfl); rw [hL] at h2; cases h2
      clear hΦ hd hT
      have HMo := Lib.hid hmono; clear hmono
      have hfr : Fr noB w4 (w4.alloc (.cells #[.bool false, .int .u32 0, .int .u32 0, .int .u32 0, .int .u32 0, .int .u8 0, .int .u8 0, .int .u8 0, .int .u8 0, .int .u8 0, .int .u8 0, .slice none 0 0] 75)) := (Fr.refl _ _).alloc _
      have hnew := Bk.new w4 75 #[.bool false, .int .u32 0, .int .u32 0, .int .u32 0, .int .u32 0, .int .u8 0, .int .u8 0, .int .u8 0, .int .u8 0, .int .u8 0, .int .u8 0, .slice none 0 0]
      have hbs := hF.size
      have HB := Lib.hid (hB.none hfr); have HF := Lib.hid (hF.none hfr); have HN := Lib.hid hnew; have HR := Lib.hid hfr; have HS := Lib.hid hbs; clear hB hF hnew hfr hbs
      first | go_big_move | go_big_op
      refine hK2 _ _ (by simp only [reduceIte, Nat.reduceEqDiff]; exact ⟨_, _, rfl, HS.out, HN.out, rfl⟩) ⟨HB.out, HF.out, fun h => absurd (show L 18 = true from h) hns⟩ (fun j x _ h => HMo.out j x _ _ HR.out h)
    | 18, ho =>
      simp at ho; subst ho
      have hu16 := hΦ 16 (hd ⟨16, .data⟩ (by simp) (by rfl))
      simp only [reduceIte, Nat.reduceEqDiff] at hu16
      have hu17 := hΦ 17 (hd ⟨17, .data⟩ (by simp) (by rfl))
      simp only [reduceIte, Nat.reduceEqDiff] at hu17
      clear hΦ hd hT
      have HMo := Lib.hid hmono; clear hmono
      obtain ⟨g, cs, hg1, hg2, hg3, hg4⟩ := hu17
      obtain ⟨b, hb1, hb2, hb3⟩ := hu16
      have hs := hF.size
      refine wp_store_bk 75 (.tmp 8) (.tmp 29) rfl g 75 cs #[.bool false, .int .u32 (s.xid : Int), .int .u32 (s.address : Int), .int .u32 0, .int .u32 0, .int .u8 (s.c.card.1.toNat : Int), .int .u8 (s.c.card.2.1.toNat : Int), .int .u8 (s.c.card.2.2.1.toNat : Int), .int .u8 (s.c.card.2.2.2.1.toNat : Int), .int .u8 (s.c.card.2.2.2.2.1.toNat : Int), .int .u8 (s.c.card.2.2.2.2.2.toNat : Int), .slice (some ⟨b, 0, none⟩) 1 1] hg1 hb1 hg3 hg4.symm (by kernel_rfl) (by kernel_rfl) ?_
      intro w9 hx9 hf9
      have hne : b ≠ g := fun e => by subst e; have := hg3.symm.trans hb3; injection this with this; injection this with _ this; exact absurd this (by decide)
      have hb9 := hb3.keep hf9 hne
      have hlt := h.lt
      refine hK2 _ _ (by simp only [reduceIte, Nat.reduceEqDiff]; exact q_18.symm) ⟨hB.keep hf9 (fun x hx e => by have := hlt x hx; have e' : x = g := e; omega) (fun e => by have := h.all.1; have e' : _ = g := e; omega), hF.trans' hf9 (fun x hx e => by have e' : x = g := e; omega), fun _ => ⟨g, b, hg1, hg2, hb2, hx9, hb9⟩⟩ (fun j x hj hx => ?_)
      have hg3' := hg3
      by_cases h12 : j = 12
      · subst h12; simp only [reduceIte, Nat.reduceEqDiff] at hx ⊢; exact hx.one hg3 (by decide) hf9
      by_cases h15 : j = 15
      · subst h15; simp only [reduceIte, Nat.reduceEqDiff] at hx ⊢; exact hx.one hg3 (by decide) hf9
      by_cases h16 : j = 16
      · subst h16; simp only [reduceIte, Nat.reduceEqDiff] at hx ⊢; exact hx.one hg3 (by decide) hf9
      by_cases h17 : j = 17
      · subst h17; simp only [reduceIte, Nat.reduceEqDiff] at hx ⊢; exact hx.one hx9 rfl hf9
      simp only [h12, h15, h16, h17, reduceIte] at hx ⊢; exact hx
  rintro y w4 hΦ L hall ⟨hB, hF, hT⟩
  have hT := hT (hall 18 (by decide))
  obtain ⟨g, b, hy, hg, hb, hG, hO⟩ := hT
  exact HK.out _ _ _ _ ⟨rfl, rfl⟩ (KpU.cons (h0.symm) (KpU.cons (h1.symm) (KpU.cons (rfl) (KpU.cons (rfl) (KpU.cons (rfl) (KpU.cons (rfl) (KpU.cons (rfl) (KpU.cons (rfl) (KpU.cons (rfl) (KpU.nil _ _)))))))))) (hy) hg hb hG hO hB hF
end Go.Proofs.YtcbkaiakdhiloabGreatDoor
