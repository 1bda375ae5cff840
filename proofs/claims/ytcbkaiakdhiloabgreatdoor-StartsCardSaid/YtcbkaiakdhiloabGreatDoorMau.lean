/- Parts of the walk; written by programs, merged. -/
import Derived.Test.YtcbkaiakdhiloabGreatDoorMaa
import Derived.Test.YtcbkaiakdhiloabGreatDoorMab
import Derived.Test.YtcbkaiakdhiloabGreatDoorMad
import Derived.Test.YtcbkaiakdhiloabGreatDoorMae
import Derived.Test.YtcbkaiakdhiloabGreatDoorMaf
import Derived.Test.YtcbkaiakdhiloabGreatDoorMao
import Derived.Test.YtcbkaiakdhiloabGreatDoorMas
import Derived.Test.YtcbkaiakdhiloabGreatDoorMat
import Derived.Test.YtcbkaiakdhiloabGreatDoorProg
import Derived.Test.YtcbkaiakdhiloabGreatDoorShelf
import Derived.WalkKit
import Derived.WalkLawsBesides
import Derived.WalkSpells
import Derived.Deep.AppendLies
import Derived.Deep.DrawnRows
import Derived.Maps.AppendAt
import Derived.StillTailTactics
import Derived.Lib.Hide
import Derived.Lib.AppendStr
import Derived.Lib.Strings
import Derived.Laws.MakeOwn
import Derived.Laws.OwnMore
import Derived.Laws.BitsAllLaws
import Derived.Orders
import Derived.Deep.MidRow
import Derived.Deep.DeepMust
import Derived.Deep.RegionHeld3
import Derived.Deep.RegionLaw
import Derived.Deep.LoopGhost
import Derived.Deep.Cut
import Derived.Deep.CutRange
import Derived.Deep.QuietTactic
import Derived.BigQuiet
import Derived.Lib.ConvBytes
import Derived.Lib.LazyBuf
import Derived.Recover
import Derived.OrdersHeld
import Derived.Lib.MapLaws
import Derived.Lib.TrimAscii
import Derived.Lib.LaidTab
import Derived.Lib.ItoaNum
import Derived.Maps.Own
import Derived.Maps.OwnOps
import Derived.Maps.OwnSet
import Derived.Maps.Views
import Derived.Maps.RangeWalk
import Derived.Deep.CutBlock
import Derived.Lib.SlBytesRow
import Derived.Lib.ItoaMem
set_option linter.unusedSimpArgs false
set_option linter.unusedVariables false
set_option maxRecDepth 20000
set_option maxHeartbeats 8000000
set_option maxRecDepth 20000
namespace Go.Proofs.YtcbkaiakdhiloabGreatDoor
open Go.RowKit Go.Proofs
attribute [local go_sem] bs_size bs_append bs_extract bs_toList
theorem wp_region_pl2 {P : Program} {Q : Exit → Act → World → Prop} {id : Nat} {a : Act} {w : World} {opl : List Oper} (hm : P.follows .mixedOrders = true) (S S1 : World → Prop) (brk : List Nat) (t : Pl) (hB : (Region.noSelect opl.toArray && plB opl.toArray brk t opl.toArray.size (Array.replicate opl.toArray.size false)) = true)
    (hS : S w.drew) (hS1 : S1 w.drew) (h : ∀ (ops' : Array Oper) (Q' : Exit → Act → World → Prop), Hid (ops' = opl.toArray) → (∀ a w, Q .normal a w → Q' .normal a w) → ∀ w1, S w1 → S1 w1 → wpPl P ops' Q' S brk true t a w1) : (Code.region id opl.toArray true).wp P Q a w :=
  wp_region_pl hm S brk t hB hS (h opl.toArray (NoPanic Q) (Lib.hid rfl) (fun _ _ h => h) _ hS hS1)
theorem own_cutB {w : World} {e : TypeId} {base size n : Nat} {v : Value} {xs : List Value} (h : w.ownsRow base e size v (n + 1) xs) : ∃ g c, v = .slice (some ⟨g, 0, none⟩) (n + 1) c ∧ w.ownsRow base e size (.slice (some ⟨g, 0, none⟩) (n + 1) c) (n + 1) xs := by
  rcases h.2 with ⟨_, h0⟩ | ⟨g, c, cur, hv, _⟩
  · omega
  · subst hv; exact ⟨g, c, rfl, h⟩
theorem optParts : ∃ i, Tryz.prog.info? 72 = some i ∧ i.zero = some (.agg #[.int .u8 0, .string ⟨#[]⟩]) ∧ i.size = 2 ∧ i.bytes = 24 := ⟨_, rfl, rfl, rfl, rfl⟩
theorem kind_ne (kind : UInt8) : ((kind.toNat : Int) != 4) = !decide (kind = 4) := by
  by_cases h : kind = 4
  · subst h; rfl
  · have h2 : kind.toNat ≠ 4 := fun e => h (UInt8.toNat_inj.1 e)
    rw [decide_eq_false h]
    rw [show (!false) = true from rfl, bne_iff_ne]; omega
def SayAt (w0 w : World) (g : Nat) (s : St) (os : List OptD) : Prop := w0.heap.size ≤ g ∧ Fr noB w0 w ∧ ∃ A c, Bk w g 75 #[.bool false, .int .u32 (s.xid : Int), .int .u32 (s.address : Int), .int .u32 0, .int .u32 0, .int .u8 (s.c.card.1.toNat : Int), .int .u8 (s.c.card.2.1.toNat : Int), .int .u8 (s.c.card.2.2.1.toNat : Int), .int .u8 (s.c.card.2.2.2.1.toNat : Int), .int .u8 (s.c.card.2.2.2.2.1.toNat : Int), .int .u8 (s.c.card.2.2.2.2.2.toNat : Int), .slice A os.length c] ∧ w.ownsRow w0.heap.size 72 2 (.slice A os.length c) os.length (optC os)
theorem SayAt.keep {w0 w w' : World} {g : Nat} {s : St} {os : List OptD} (h : SayAt w0 w g s os) (hf : Fr noB w w') : SayAt w0 w' g s os := by
  obtain ⟨h1, h2, A, c, h3, h4⟩ := h
  exact ⟨h1, h2.none hf, A, c, h3.keep hf (fun x => x), own_keep h4 hf (fun _ _ x => x)⟩
theorem nsR1 (A : Option Addr) (n cap : Nat) (a : Act) (w : World) (K : Exit → Act → World → Prop) (hs : Sz 70 a)
    (h3 : sl a 3 = .slice A n cap) 
    (hK : ∀ a' w', Sz 70 a' → Kp [0, 1, 2, 3, 8, 11, 12] a a' → sl a' 30 = .slice A n cap → sl a' 31 = .int .i64 (n : Int) → sl a' 32 = .int .i64 ((0 : Nat) : Int) → w' = w → K .normal a' w') :
    (regionOf Tryz.f176 1).wp Tryz.prog K a w := by
  unfold Kp at hK; rw [nsF_of hs]; clear hs; generalize sl a = u at *; clear a; have HK := Lib.hid hK; clear hK; conv => arg 2; whnf
  simp only [nsF, h3]
  go_wp2_with fail
  exact HK.out _ _  ⟨rfl, rfl⟩ (KpU.cons (rfl) (KpU.cons (rfl) (KpU.cons (rfl) (KpU.cons (h3.symm) (KpU.cons (rfl) (KpU.cons (rfl) (KpU.cons (rfl) (KpU.nil _ _)))))))) (rfl) (rfl) (rfl) rfl
theorem nsR2 (k n : Nat) (a : Act) (w : World) (K : Exit → Act → World → Prop) (hs : Sz 70 a)
    (h31 : sl a 31 = .int .i64 (n : Int)) (h32 : sl a 32 = .int .i64 (k : Int)) 
    (hK : ∀ a' w', Sz 70 a' → Kp [0, 1, 2, 3, 8, 11, 12, 30, 31, 32] a a' → sl a' 33 = .bool (decide (k < n)) → w' = w → K .normal a' w') :
    (regionOf Tryz.f176 2).wp Tryz.prog K a w := by
  unfold Kp at hK; rw [nsF_of hs]; clear hs; generalize sl a = u at *; clear a; have HK := Lib.hid hK; clear hK; conv => arg 2; whnf
  simp only [nsF, h31, h32]
  have e : decide ((k : Int) < (n : Int)) = decide (k < n) := by simp
  go_wp2_with fail
  exact HK.out _ _  ⟨rfl, rfl⟩ (KpU.cons (rfl) (KpU.cons (rfl) (KpU.cons (rfl) (KpU.cons (rfl) (KpU.cons (rfl) (KpU.cons (rfl) (KpU.cons (rfl) (KpU.cons (rfl) (KpU.cons (h31.symm) (KpU.cons (h32.symm) (KpU.nil _ _))))))))))) (rfl) rfl
theorem nsR3 (ga n c k : Nat) (o : OptD) (a : Act) (w : World) (K : Exit → Act → World → Prop) (hs : Sz 70 a)
    (h30 : sl a 30 = .slice (some ⟨ga, 0, none⟩) n c) (h32 : sl a 32 = .int .i64 (k : Int)) (hk : k < n) (c0 : w.cell? ⟨ga, k * 2, none⟩ = some (.int .u8 (o.code.toNat : Int))) (c1 : w.cell? ⟨ga, k * 2 + 1, none⟩ = some (.string (bs o.data)))
    (hK : ∀ a' w' (q : Nat), Sz 70 a' → Kp [0, 1, 2, 3, 8, 11, 12, 30, 31, 32] a a' → sl a' 10 = .pointer (some ⟨q, 0, none⟩) → Fr noB w w' → Bk w' q 72 #[.int .u8 (o.code.toNat : Int), .string (bs o.data)] → K .normal a' w') :
    (regionOf Tryz.f176 3).wp Tryz.prog K a w := by
  unfold Kp at hK; rw [nsF_of hs]; clear hs; generalize sl a = u at *; clear a; have HK := Lib.hid hK; clear hK; conv => arg 2; whnf
  simp only [nsF, h30, h32]
  go_wp2_with (first | ((refine wpList_store_bk rfl 72 (.tmp 10) (.tmp 35) rfl w.heap.size _ _ #[.int .u8 (o.code.toNat : Int), .string (bs o.data)] rfl rfl (Bk.new w _ _) rfl (by kernel_rfl) (by kernel_rfl) ?_); intro w9 hx9 hf9))
  exact HK.out _ _ _ ⟨rfl, rfl⟩ (KpU.cons (rfl) (KpU.cons (rfl) (KpU.cons (rfl) (KpU.cons (rfl) (KpU.cons (rfl) (KpU.cons (rfl) (KpU.cons (rfl) (KpU.cons (h30.symm) (KpU.cons (rfl) (KpU.cons (h32.symm) (KpU.nil _ _))))))))))) (rfl) (((Fr.refl _ _).alloc _).trans' hf9 (fun b hb e => by have e' : b = w.heap.size := e; omega)) hx9
theorem nsR4 (s : St) (os : List OptD) (w0 : World) (g q : Nat) (o : OptD) (a : Act) (w : World) (K : Exit → Act → World → Prop) (hs : Sz 70 a)
    (h8 : sl a 8 = .pointer (some ⟨g, 0, none⟩)) (h10 : sl a 10 = .pointer (some ⟨q, 0, none⟩)) (hS : SayAt w0 w g s os) (hQ : Bk w q 72 #[.int .u8 (o.code.toNat : Int), .string (bs o.data)]) (hl : os.length ≤ 100000)
    (hK : ∀ a' w', Sz 70 a' → Kp [0, 1, 2, 3, 8, 11, 12, 30, 31, 32] a a' → SayAt w0 w' g s (os ++ [o]) → K .normal a' w') :
    (regionOf Tryz.f176 4).wp Tryz.prog K a w := by
  unfold Kp at hK; rw [nsF_of hs]; clear hs; generalize sl a = u at *; clear a; have HK := Lib.hid hK; clear hK; conv => arg 2; whnf
  simp only [nsF, h8, h10]
  obtain ⟨hg, hF, A, c, hB, hO⟩ := hS
  have hBc := hB.cells
  have x0 := hQ.cell 0; have x1 := hQ.cell 1
  obtain ⟨i0, hi, hz0, hz1, hz2⟩ := optParts
  have hfr1 : Fr noB w (w.alloc (.cells #[.int .u8 (o.code.toNat : Int), .string (bs o.data)] 72)) := (Fr.refl _ _).alloc _
  have hO1 := own_keep hO hfr1 (fun _ _ x => x)
  have hBa := hB.keep hfr1 (fun x => x)
  have hne := own_ne hO1 hBa (by decide)
  have hbas := hF.size
  go_wp2_with (at_builtin; refine wpList_append_own_at _ rfl _ _ 73 rfl w0.heap.size 72 i0 (.agg #[.int .u8 0, .string ⟨#[]⟩]) 2 24 Tryz.underlying73 hi hz0 hz1 hz2 rfl (by decide) _ _ _ rfl hO1 ⟨w.heap.size, 0, none⟩ 1 1 [.int .u8 (o.code.toNat : Int), .string (bs o.data)] rfl rfl (cells_new w #[.int .u8 (o.code.toNat : Int), .string (bs o.data)] 72) (by simp [Value.oneCell']) (by unfold maxLen; omega) (by omega) (by simp; omega) ?_; intro v' w3 hown' hg3 hnil3 hbk3; obtain ⟨g', c', hv', hown2⟩ := own_cutB hown'; subst hv'; have hf3 : Fr (fun b => b ∈ blkA A) (w.alloc (.cells #[.int .u8 (o.code.toNat : Int), .string (bs o.data)] 72)) w3 := (Fr.refl _ _).grown hg3 (fun g h _ => sl_blk h); have hB3 := hBa.keep hf3 (fun hx => by cases A with | none => cases hx | some a => exact hne a rfl (by simpa [blkA] using hx)); have cc := hB3.cell 11; have hfz := hB3.frees; skip)
  have hown3 := own_far (p := ⟨g, 11, none⟩) hown2 hB3 (by decide) (.slice (some ⟨g', 0, none⟩) (os.length + 1) c')
  have hob := own_blk hO1
  have hq : SayAt w0 (w3.setCell ⟨g, 11, none⟩ (.slice (some ⟨g', 0, none⟩) (os.length + 1) c')) g s (os ++ [o]) := by
    refine ⟨hg, ((hF.none hfr1).trans' hf3 (fun b hb hx => ?_)).setCell (p := ⟨g, 11, none⟩) (fun e => by have e' : g < w0.heap.size := e; omega) _, some ⟨g', 0, none⟩, c', ?_, ?_⟩
    · cases A with
      | none => cases hx
      | some a => have h1 := hob a rfl; have h2 : b = a.block := by simpa [blkA] using hx
                  omega
    · rw [List.length_append]; exact hB3.set 11 _
    · rw [List.length_append, optC_append]; exact hown3
  exact HK.out _ _  ⟨rfl, rfl⟩ (KpU.cons (rfl) (KpU.cons (rfl) (KpU.cons (rfl) (KpU.cons (rfl) (KpU.cons (h8.symm) (KpU.cons (rfl) (KpU.cons (rfl) (KpU.cons (rfl) (KpU.cons (rfl) (KpU.cons (rfl) (KpU.nil _ _)))))))))))  hq
theorem nsR5 (k : Nat) (a : Act) (w : World) (K : Exit → Act → World → Prop) (hs : Sz 70 a)
    (h32 : sl a 32 = .int .i64 (k : Int)) (hk : k < 9223372036854775807)
    (hK : ∀ a' w', Sz 70 a' → Kp [0, 1, 2, 3, 8, 11, 12, 30, 31] a a' → sl a' 32 = .int .i64 ((k + 1 : Nat) : Int) → w' = w → K .normal a' w') :
    (regionOf Tryz.f176 5).wp Tryz.prog K a w := by
  unfold Kp at hK; rw [nsF_of hs]; clear hs; generalize sl a = u at *; clear a; have HK := Lib.hid hK; clear hK; conv => arg 2; whnf
  simp only [nsF, h32]
  clear h32
  have qw : IntKind.i64.wrap ((k : Int) + 1) = ((k + 1 : Nat) : Int) := by rw [i64w]; unfold wrap64; omega
  go_wp2_with fail
  exact HK.out _ _  ⟨rfl, rfl⟩ (KpU.cons (rfl) (KpU.cons (rfl) (KpU.cons (rfl) (KpU.cons (rfl) (KpU.cons (rfl) (KpU.cons (rfl) (KpU.cons (rfl) (KpU.cons (rfl) (KpU.cons (rfl) (KpU.nil _ _)))))))))) (rfl) rfl
theorem nsR6 (kind : UInt8) (a : Act) (w : World) (K : Exit → Act → World → Prop) (hs : Sz 70 a)
    (h1 : sl a 1 = .int .u8 (kind.toNat : Int)) 
    (hK : ∀ a' w', Sz 70 a' → Kp [0, 1, 2, 3, 8, 11, 12, 30, 31, 32] a a' → sl a' 44 = .bool (!decide (kind = 4)) → w' = w → K .normal a' w') :
    (regionOf Tryz.f176 6).wp Tryz.prog K a w := by
  unfold Kp at hK; rw [nsF_of hs]; clear hs; generalize sl a = u at *; clear a; have HK := Lib.hid hK; clear hK; conv => arg 2; whnf
  simp only [nsF, h1]
  have e := kind_ne kind
  go_wp2_with fail
  exact HK.out _ _  ⟨rfl, rfl⟩ (KpU.cons (rfl) (KpU.cons (h1.symm) (KpU.cons (rfl) (KpU.cons (rfl) (KpU.cons (rfl) (KpU.cons (rfl) (KpU.cons (rfl) (KpU.cons (rfl) (KpU.cons (rfl) (KpU.cons (rfl) (KpU.nil _ _))))))))))) (rfl) rfl
theorem nsR7 (s : St) (os : List OptD) (w0 : World) (g : Nat) (a : Act) (w : World) (K : Exit → Act → World → Prop) (hs : Sz 70 a)
    (h8 : sl a 8 = .pointer (some ⟨g, 0, none⟩)) (hS : SayAt w0 w g s os) (hl : os.length ≤ 100000)
    (hK : ∀ a' w', Sz 70 a' → Kp [0, 1, 2, 3, 8, 11, 12, 30, 31, 32] a a' → SayAt w0 w' g s (os ++ [⟨55, [1, 3, 51, 54, 58, 59]⟩]) → K .normal a' w') :
    (regionOf Tryz.f176 7).wp Tryz.prog K a w := by
  unfold Kp at hK; rw [nsF_of hs]; clear hs; generalize sl a = u at *; clear a; have HK := Lib.hid hK; clear hK; conv => arg 2; whnf
  simp only [nsF, h8]
  obtain ⟨hg, hF, A, c, hB, hO⟩ := hS
  have hBc := hB.cells
  
  obtain ⟨i0, hi, hz0, hz1, hz2⟩ := optParts
  have hfr1 : Fr noB w (w.alloc (.cells #[.int .u8 55, .string ⟨#[1, 3, 51, 54, 58, 59]⟩] 72)) := (Fr.refl _ _).alloc _
  have hO1 := own_keep hO hfr1 (fun _ _ x => x)
  have hBa := hB.keep hfr1 (fun x => x)
  have hne := own_ne hO1 hBa (by decide)
  have hbas := hF.size
  go_wp2_with (at_builtin; refine wpList_append_own_at _ rfl _ _ 73 rfl w0.heap.size 72 i0 (.agg #[.int .u8 0, .string ⟨#[]⟩]) 2 24 Tryz.underlying73 hi hz0 hz1 hz2 rfl (by decide) _ _ _ rfl hO1 ⟨w.heap.size, 0, none⟩ 1 1 [.int .u8 55, .string ⟨#[1, 3, 51, 54, 58, 59]⟩] rfl rfl (cells_new w #[.int .u8 55, .string ⟨#[1, 3, 51, 54, 58, 59]⟩] 72) (by simp [Value.oneCell']) (by unfold maxLen; omega) (by omega) (by simp; omega) ?_; intro v' w3 hown' hg3 hnil3 hbk3; obtain ⟨g', c', hv', hown2⟩ := own_cutB hown'; subst hv'; have hf3 : Fr (fun b => b ∈ blkA A) (w.alloc (.cells #[.int .u8 55, .string ⟨#[1, 3, 51, 54, 58, 59]⟩] 72)) w3 := (Fr.refl _ _).grown hg3 (fun g h _ => sl_blk h); have hB3 := hBa.keep hf3 (fun hx => by cases A with | none => cases hx | some a => exact hne a rfl (by simpa [blkA] using hx)); have cc := hB3.cell 11; have hfz := hB3.frees; skip)
  have hown3 := own_far (p := ⟨g, 11, none⟩) hown2 hB3 (by decide) (.slice (some ⟨g', 0, none⟩) (os.length + 1) c')
  have hob := own_blk hO1
  have hq : SayAt w0 (w3.setCell ⟨g, 11, none⟩ (.slice (some ⟨g', 0, none⟩) (os.length + 1) c')) g s (os ++ [⟨55, [1, 3, 51, 54, 58, 59]⟩]) := by
    refine ⟨hg, ((hF.none hfr1).trans' hf3 (fun b hb hx => ?_)).setCell (p := ⟨g, 11, none⟩) (fun e => by have e' : g < w0.heap.size := e; omega) _, some ⟨g', 0, none⟩, c', ?_, ?_⟩
    · cases A with
      | none => cases hx
      | some a => have h1 := hob a rfl; have h2 : b = a.block := by simpa [blkA] using hx
                  omega
    · rw [List.length_append]; exact hB3.set 11 _
    · rw [List.length_append, optC_append]; exact hown3
  exact HK.out _ _  ⟨rfl, rfl⟩ (KpU.cons (rfl) (KpU.cons (rfl) (KpU.cons (rfl) (KpU.cons (rfl) (KpU.cons (h8.symm) (KpU.cons (rfl) (KpU.cons (rfl) (KpU.cons (rfl) (KpU.cons (rfl) (KpU.cons (rfl) (KpU.nil _ _)))))))))))  hq
theorem nsR8 (s : St) (os : List OptD) (w0 : World) (g : Nat) (a : Act) (w : World) (K : Exit → Act → World → Prop) (hs : Sz 70 a)
    (h8 : sl a 8 = .pointer (some ⟨g, 0, none⟩)) (hok : s.Ok) (hS : SayAt w0 w g s os) (hwt : wtO os ≤ 2097152)
    (hK : ∀ a' w', Sz 70 a' → Kp [0, 1, 2, 3, 8, 30, 31, 32] a a' → sl a' 11 = .string (bs (wrDHCP false s.xid s.address 0 0 (macB s.c.card) os).1) → Fr noB w w' → K .normal a' w') :
    (regionOf Tryz.f176 8).wp Tryz.prog K a w := by
  unfold Kp at hK; rw [nsF_of hs]; clear hs; generalize sl a = u at *; clear a; have HK := Lib.hid hK; clear hK; conv => arg 2; whnf
  simp only [nsF, h8]
  obtain ⟨hg, hF, A, c, hB, hO⟩ := hS
  have hBc := hB.cells
  have hadl : s.address < 4294967296 := by unfold St.address; split; exact hok.addr; omega
  go_wp2_with fail
  refine (refWriteDHCP false s.xid s.address 0 0 s.c.card.1 s.c.card.2.1 s.c.card.2.2.1 s.c.card.2.2.2.1 s.c.card.2.2.2.2.1 s.c.card.2.2.2.2.2 os A c _ hok.xid hadl (by decide) (by decide) (own_slr hO) hwt).mono ?_
  rintro e w1 ⟨rfl, f1⟩
  go_wp2_with fail
  exact HK.out _ _  ⟨rfl, rfl⟩ (KpU.cons (rfl) (KpU.cons (rfl) (KpU.cons (rfl) (KpU.cons (rfl) (KpU.cons (h8.symm) (KpU.cons (rfl) (KpU.cons (rfl) (KpU.cons (rfl) (KpU.nil _ _))))))))) (rfl) f1
theorem nsR9 (b : Bool) (a : Act) (w : World) (K : Exit → Act → World → Prop) (hs : Sz 70 a)
    (h2 : sl a 2 = .bool b) 
    (hK : ∀ a' w', Sz 70 a' → Kp [0, 1, 2, 3, 8, 11, 12, 30, 31, 32] a a' → sl a' 56 = .bool b → w' = w → K .normal a' w') :
    (regionOf Tryz.f176 9).wp Tryz.prog K a w := by
  unfold Kp at hK; rw [nsF_of hs]; clear hs; generalize sl a = u at *; clear a; have HK := Lib.hid hK; clear hK; conv => arg 2; whnf
  simp only [nsF, h2]
  go_wp2_with fail
  exact HK.out _ _  ⟨rfl, rfl⟩ (KpU.cons (rfl) (KpU.cons (rfl) (KpU.cons (h2.symm) (KpU.cons (rfl) (KpU.cons (rfl) (KpU.cons (rfl) (KpU.cons (rfl) (KpU.cons (rfl) (KpU.cons (rfl) (KpU.cons (rfl) (KpU.nil _ _))))))))))) (rfl) rfl
theorem nsR11 (p T : Nat) (M : MLay) (s : St) (x : List UInt8) (a : Act) (w : World) (K : Exit → Act → World → Prop) (hs : Sz 70 a)
    (h0 : sl a 0 = .pointer (some ⟨p, 0, none⟩)) (h11 : sl a 11 = .string (bs x)) (h : ModelAt w p T M s) (hx : x.length ≤ 4611686018427387000)
    (hK : ∀ a' w', Sz 70 a' → Kp [0, 1, 2, 3, 8, 11, 12, 30, 31, 32] a a' → MNow p T M w (s.took.send (255, 255, 255, 255, 255, 255) 2048 (s.packet 4294967295 68 67 x)) w' → K .normal a' w') :
    (regionOf Tryz.f176 11).wp Tryz.prog K a w := by
  unfold Kp at hK; rw [nsF_of hs]; clear hs; generalize sl a = u at *; clear a; have HK := Lib.hid hK; clear hK; conv => arg 2; whnf
  simp only [nsF, h0, h11]
  refine wp_region_pl2 (by kernel_rfl) (fun w' => RowG w' 4 #[.int .u8 255, .int .u8 255, .int .u8 255, .int .u8 255, .int .u8 255, .int .u8 255]) (fun w' => ModelAt w' p T M s ∧ Fr noB w w') [5] (.p 0 (.p 2 (.p 3 (.q 1 (.e 4 (.e 5 (.nil))))))) (by kernel_rfl) (h.drew.all) (⟨h.drew, (Fr.refl _ _).drew⟩) ?_
  intro ops Q' hO hQ' wr1 hR1 hI1
  iterate 3 (refine pl_p0 hO rfl rfl ?_ (fun w' => ?_) ?_; rotate_left 1; (focus (go_simp; ((try with_reducible rfl); done))); simp only [Act.put, List.setIfInBounds_toArray, List.set_cons_zero, List.set_cons_succ])
  refine pl_q0 hO rfl rfl ?_ (fun w' hS => ?_) ?_; rotate_left 1; (focus (have o0 := hS.2 0 _ rfl; have o1 := hS.2 1 _ rfl; have o2 := hS.2 2 _ rfl; have o3 := hS.2 3 _ rfl; have o4 := hS.2 4 _ rfl; have o5 := hS.2 5 _ rfl; go_simp; ((try with_reducible rfl); done))); simp only [Act.put, List.setIfInBounds_toArray, List.set_cons_zero, List.set_cons_succ]
  refine pl_e0 hO rfl rfl rfl (fun K hK => ?_)
  go_simp
  refine (modPacket p T M s 4294967295 68 67 x _ hI1.1 (by decide) (by decide) (by decide) hx).mono ?_
  rintro e w2 ⟨rfl, M2, o2, h2, f2⟩
  have hal2 := h2.all
  refine hK _ _ (hal2) (fun hR_4 => ?_)
  clear hK K
  refine pl_b0 hO rfl rfl rfl (fun K hK => ?_)
  go_simp
  refine (modSend p T M2 s.took 255 255 255 255 255 255 2048 _ _ h2 (by decide) (by have := packet_len s 4294967295 68 67 x; omega)).mono ?_
  rintro e w3 ⟨rfl, hN⟩
  have hpre := hI1.2
  refine hK _ _ ?_
  clear hK K
  refine pl_nil (hQ' _ _ ?_)
  exact HK.out _ _  ⟨rfl, rfl⟩ (KpU.cons (h0.symm) (KpU.cons (rfl) (KpU.cons (rfl) (KpU.cons (rfl) (KpU.cons (rfl) (KpU.cons (h11.symm) (KpU.cons (rfl) (KpU.cons (rfl) (KpU.cons (rfl) (KpU.cons (rfl) (KpU.nil _ _)))))))))))  (MNow.pre hpre (MNow.comp o2 f2 hN))
end Go.Proofs.YtcbkaiakdhiloabGreatDoor
set_option maxRecDepth 20000
namespace Go.Proofs.YtcbkaiakdhiloabGreatDoor
open Go.RowKit Go.Proofs
attribute [local go_sem] bs_size bs_append bs_extract bs_toList
def OptRow (w : World) (A : Option Addr) (os : List OptD) : Prop := ∀ k o, os[k]? = some o → ∃ ga, A = some ⟨ga, 0, none⟩ ∧ w.cell? ⟨ga, k * 2, none⟩ = some (.int .u8 (o.code.toNat : Int)) ∧ w.cell? ⟨ga, k * 2 + 1, none⟩ = some (.string (bs o.data))
theorem OptRow.keep {w w' : World} {A : Option Addr} {os : List OptD} (h : OptRow w A os) (hf : Fr noB w w') : OptRow w' A os := by
  intro k o ho
  obtain ⟨ga, h1, h2, h3⟩ := h k o ho
  have hl : ga < w.heap.size := cell_ltP h2
  exact ⟨ga, h1, (hf.cell (a := ⟨ga, k * 2, none⟩) hl (fun x => x)).trans h2, (hf.cell (a := ⟨ga, k * 2 + 1, none⟩) hl (fun x => x)).trans h3⟩
theorem OptRow.nil (w : World) (A : Option Addr) : OptRow w A [] := fun k o h => by cases h
theorem modSayH (p T : Nat) (M : MLay) (s : St) (kind : UInt8) (alone : Bool) (os : List OptD) (A : Option Addr) (cap : Nat) (w : World) (h : ModelAt w p T M s) (hA : OptRow w A os) (hwt : wtO os ≤ 1000)
    (hU : alone = true → ∀ (ld : List UInt8) (a : Act) (w : World) (K : Exit → Act → World → Prop), Sz 70 a → sl a 0 = .pointer (some ⟨p, 0, none⟩) → sl a 11 = .string (bs ld) → ModelAt w p T M s → ld.length ≤ 4611686018427380000 → (∀ a' w', Sz 70 a' → MNow p T M w (s.udp s.server 68 67 ld) w' → K .normal a' w') → (regionOf Tryz.f176 10).wp Tryz.prog K a w) :
    Calls Tryz.prog 176 #[.pointer (some ⟨p, 0, none⟩), .int .u8 (kind.toNat : Int), .bool alone, .slice A os.length cap] w fun e w' => e = .returned (.tuple #[]) ∧ MNow p T M w (s.say kind alone os) w' := by
  have hol := wtO_len os
  go_enter Tryz.func176, Tryz.ntmps176
  refine wp_seq ?_
  refine nsR0 p T M s kind _ w _ ⟨rfl, rfl⟩ rfl rfl h ?_
  intro a1 w1 g b hs1 k1 o8 hg hb hG hO h1 hf1
  have e0 : sl a1 0 = .pointer (some ⟨p, 0, none⟩) := (k1 0 (by decide)).trans rfl
  have e1 : sl a1 1 = .int .u8 (kind.toNat : Int) := (k1 1 (by decide)).trans rfl
  have e2 : sl a1 2 = .bool alone := (k1 2 (by decide)).trans rfl
  have e3 : sl a1 3 = .slice A os.length cap := (k1 3 (by decide)).trans rfl
  clear k1
  have hS1 : SayAt w w1 g s ([⟨53, [kind]⟩] ++ os.take 0) := ⟨hg, hf1, some ⟨b, 0, none⟩, 1, hG, ⟨rfl, .inr ⟨b, 1, _, rfl, hb, hO, Nat.le_refl _, by unfold maxLen; omega, rfl, rfl⟩⟩⟩
  clear hG hO
  refine wp_seq ?_
  refine wp_seq ?_
  refine nsR1 A os.length cap a1 w1 _ hs1 e3 ?_
  intro a2 w2 hs2 k2 o30 o31 o32 hw; subst w2
  have e0 := (k2 0 (by decide)).trans e0
  have e1 := (k2 1 (by decide)).trans e1
  have e2 := (k2 2 (by decide)).trans e2
  have e8 := (k2 8 (by decide)).trans o8
  refine wp_block ?_
  refine wp_loop_sz 70 (fun a' w' => ∃ k : Nat, k ≤ os.length ∧ sl a' 32 = .int .i64 (k : Int) ∧ Kp [0, 1, 2, 8, 30, 31] a2 a' ∧ SayAt w w' g s ([⟨53, [kind]⟩] ++ os.take k)) (fun a' _ => os.length - (intOf (sl a' 32)).toNat)
    hs2 ⟨0, Nat.zero_le _, o32, Kp.refl _ _, hS1⟩ ?_
  rintro b1 v1 hs1' ⟨k, hk, i32, j1, hS⟩
  refine wp_seq ?_
  refine nsR2 k os.length b1 v1 _ hs1' ((j1 31 (by decide)).trans o31) i32 ?_
  intro b2 v2 hs2' j2 i33 hw; subst v2
  have i32' := (j2 32 (by decide)).trans i32
  have j12 : Kp [0, 1, 2, 8, 30, 31] a2 b2 := fun x hx => (j2 x (by revert hx; revert x; decide)).trans (j1 x hx)
  refine wp_seq ?_
  refine wp_if i33 (fun hb => ?_) (fun hb => ?_)
  · have hlt : k < os.length := of_decide_eq_true hb
    refine wp_skip ?_
    obtain ⟨op, hop⟩ : ∃ op, os[k]? = some op := ⟨_, List.getElem?_eq_getElem hlt⟩
    obtain ⟨ga, hAe, c0, c1⟩ := hA.keep hS.2.1 k op hop
    refine wp_seq (wp_block (wp_seq ?_))
    refine nsR3 ga os.length cap k op b2 v1 _ hs2' (by rw [← hAe]; exact (j12 30 (by decide)).trans o30) i32' hlt c0 c1 ?_
    intro b3 v3 q hs3 j3 i10 hf3 hQ3
    have i32b := (j3 32 (by decide)).trans i32'
    refine nsR4 s _ w g q op b3 v3 _ hs3 ((j3 8 (by decide)).trans ((j12 8 (by decide)).trans e8)) i10 (hS.keep hf3) hQ3 (by simp; omega) ?_
    intro b4 v4 hs4 j4 hS4
    refine nsR5 k b4 v4 _ hs4 ((j4 32 (by decide)).trans i32b) (by omega) ?_
    intro b5 v5 hs5 j5 i32c hw; subst v5
    refine ⟨hs5, ⟨k + 1, hlt, i32c, fun x hx => (j5 x (by revert hx; revert x; decide)).trans ((j4 x (by revert hx; revert x; decide)).trans ((j3 x (by revert hx; revert x; decide)).trans (j12 x hx))), ?_⟩, ?_⟩
    · rw [List.take_add_one, hop, ← List.append_assoc]; exact hS4
    · rw [i32c, i32]; simp only [intOf]; omega
  have hke : k = os.length := by have := of_decide_eq_false hb; omega
  refine wp_exit (then_exit (then_exit (inBlock_self ?_)))
  rw [hke, List.take_length] at hS
  clear hS1 o32 i32 i32' i33 hke
  have e0 := (j12 0 (by decide)).trans e0
  have e1 := (j12 1 (by decide)).trans e1
  have e2 := (j12 2 (by decide)).trans e2
  have e8 := (j12 8 (by decide)).trans e8
  clear j12 j1 j2 k2
  refine wp_seq (wp_seq ?_)
  refine nsR6 kind b2 v1 _ hs2' e1 ?_
  intro b3 v3 hs3 j3 i44 hw; subst v3
  refine wp_mono (Q := fun ex a4 w4 => ex = .normal ∧ Sz 70 a4 ∧ sl a4 0 = .pointer (some ⟨p, 0, none⟩) ∧ sl a4 2 = .bool alone ∧ sl a4 8 = .pointer (some ⟨g, 0, none⟩) ∧ SayAt w w4 g s (St.msgO kind os)) ?_ ?_
  · refine wp_if i44 (fun hb => ?_) (fun hb => ?_)
    · have hne : ¬ kind = 4 := by simpa using hb
      refine nsR7 s _ w g b3 v1 _ hs3 ((j3 8 (by decide)).trans e8) hS (by simp; omega) ?_
      intro b4 v4 hs4 j4 hS4
      exact ⟨rfl, hs4, (j4 0 (by decide)).trans ((j3 0 (by decide)).trans e0), (j4 2 (by decide)).trans ((j3 2 (by decide)).trans e2), (j4 8 (by decide)).trans ((j3 8 (by decide)).trans e8), by unfold St.msgO; rw [if_neg hne]; exact hS4⟩
    · have he : kind = 4 := by simpa using hb
      refine wp_skip ?_
      exact ⟨rfl, hs3, (j3 0 (by decide)).trans e0, (j3 2 (by decide)).trans e2, (j3 8 (by decide)).trans e8, by unfold St.msgO; rw [if_pos he, List.append_nil]; exact hS⟩
  clear e0 e1 e2 e8
  rintro _ a4 w4 ⟨rfl, hs4, e0, e2, e8, hS4⟩
  refine wp_seq ?_
  refine nsR8 s _ w g a4 w4 _ hs4 e8 h.ok hS4 (by unfold St.msgO; split <;> simp only [wtO_app, wtO, List.length_cons, List.length_nil] <;> omega) ?_
  intro a5 w5 hs5 k5 o11 hf5
  have hF := hS4.2.1.none hf5
  have h5 := h.none hF
  have hmb := wrDHCP_len false s.xid s.address 0 0 (macB s.c.card) (St.msgO kind os)
  have e0 := (k5 0 (by decide)).trans e0
  refine wp_seq ?_
  refine nsR9 alone a5 w5 _ hs5 ((k5 2 (by decide)).trans e2) ?_
  intro a6 w6 hs6 k6 o56 hw; subst w6
  have e0 := (k6 0 (by decide)).trans e0
  have e11 := (k6 11 (by decide)).trans o11
  refine wp_if o56 (fun hb => ?_) (fun hb => ?_)
  · refine hU hb _ a6 w5 _ hs6 e0 e11 h5 (by omega) ?_
    intro a7 w7 hs7 hN
    exact bodyPost_end (results_none rfl _ _ _) hs7.defers ⟨rfl, by rw [hb]; exact MNow.pre hF hN⟩
  · refine nsR11 p T M s _ a6 w5 _ hs6 e0 e11 h5 (by omega) ?_
    intro a7 w7 hs7 k7 hN
    exact bodyPost_end (results_none rfl _ _ _) hs7.defers ⟨rfl, by rw [hb]; exact MNow.pre hF hN⟩
theorem modSay0 (p T : Nat) (M : MLay) (s : St) (kind : UInt8) (os : List OptD) (A : Option Addr) (cap : Nat) (w : World) (h : ModelAt w p T M s) (hA : OptRow w A os) (hwt : wtO os ≤ 1000) : Calls Tryz.prog 176 #[.pointer (some ⟨p, 0, none⟩), .int .u8 (kind.toNat : Int), .bool false, .slice A os.length cap] w fun e w' => e = .returned (.tuple #[]) ∧ MNow p T M w (s.say kind false os) w' := modSayH p T M s kind false os A cap w h hA hwt (fun x => by cases x)
end Go.Proofs.YtcbkaiakdhiloabGreatDoor
set_option maxRecDepth 20000
namespace Go.Proofs.YtcbkaiakdhiloabGreatDoor
open Go.RowKit Go.Proofs
attribute [local go_sem] bs_size bs_append bs_extract bs_toList
def naF (u : Nat → Value) : Act := ⟨#[u 0, u 1, u 2, u 3, u 4, u 5, u 6, u 7, u 8, u 9, u 10, u 11, u 12, u 13, u 14, u 15, u 16, u 17, u 18, u 19, u 20, u 21, u 22, u 23], []⟩
set_option maxRecDepth 100000 in
theorem naF_eq (u : Nat → Value) : naF u = frN 24 u := rfl
theorem naF_of {a : Act} (h : Sz 24 a) : a = naF (sl a) := h.eq.trans (naF_eq _).symm
theorem naR0 (p T : Nat) (M : MLay) (s : St) (a : Act) (w : World) (K : Exit → Act → World → Prop) (hs : Sz 24 a)
    (h0 : sl a 0 = .pointer (some ⟨p, 0, none⟩)) (h : ModelAt w p T M s)
    (hK : ∀ a' w', Sz 24 a' → Kp [0] a a' → sl a' 6 = .bool (decide (s.lease = 1)) → w' = w → K .normal a' w') :
    (regionOf Tryz.f173 0).wp Tryz.prog K a w := by
  unfold Kp at hK; rw [naF_of hs]; clear hs; generalize sl a = u at *; clear a; have HK := Lib.hid hK; clear hK; conv => arg 2; whnf
  simp only [naF, h0]
  have c22 := h.g22
  have e : ((s.lease : Int) == 1) = decide (s.lease = 1) := by rw [Bool.eq_iff_iff]; simp; omega
  go_wp2_with fail
  exact HK.out _ _  ⟨rfl, rfl⟩ (Kc h0.symm (Kn _ _)) (rfl) rfl
theorem naR1 (p T : Nat) (M : MLay) (s : St) (a : Act) (w : World) (K : Exit → Act → World → Prop) (hs : Sz 24 a)
    (h0 : sl a 0 = .pointer (some ⟨p, 0, none⟩)) (h : ModelAt w p T M s)
    (hK : ∀ a' w', Sz 24 a' → Kp [0] a a' → MNow p T M w (s.say 1 false []) w' → K .normal a' w') :
    (regionOf Tryz.f173 1).wp Tryz.prog K a w := by
  unfold Kp at hK; rw [naF_of hs]; clear hs; generalize sl a = u at *; clear a; have HK := Lib.hid hK; clear hK; conv => arg 2; whnf
  simp only [naF, h0]
  go_wp2_with fail
  refine (modSay0 p T M s 1 [] none 0 _ h (OptRow.nil _ _) (by decide)).mono ?_
  rintro e w1 ⟨rfl, hN⟩
  go_wp2_with fail
  exact HK.out _ _  ⟨rfl, rfl⟩ (Kc h0.symm (Kn _ _))  hN
theorem both_row (w : World) (x y : List UInt8) : OptRow (w.alloc (.cells #[.int .u8 50, .string (bs x), .int .u8 54, .string (bs y)] 72)) (some ⟨w.heap.size, 0, none⟩) [⟨50, x⟩, ⟨54, y⟩] := by
  have hb := Bk.new w 72 #[.int .u8 50, .string (bs x), .int .u8 54, .string (bs y)]
  intro k o ho
  refine ⟨_, rfl, ?_, ?_⟩
  · match k, ho with
    | 0, ho => cases ho; exact hb.cell 0
    | 1, ho => cases ho; exact hb.cell 2
  · match k, ho with
    | 0, ho => cases ho; exact hb.cell 1
    | 1, ho => cases ho; exact hb.cell 3
theorem naR2 (p T : Nat) (M : MLay) (s : St) (a : Act) (w : World) (K : Exit → Act → World → Prop) (hs : Sz 24 a)
    (h0 : sl a 0 = .pointer (some ⟨p, 0, none⟩)) (h : ModelAt w p T M s)
    (hK : ∀ a' w', Sz 24 a' → Kp [0] a a' → MNow p T M w (s.say 3 false s.both) w' → K .normal a' w') :
    (regionOf Tryz.f173 2).wp Tryz.prog K a w := by
  unfold Kp at hK; rw [naF_of hs]; clear hs; generalize sl a = u at *; clear a; have HK := Lib.hid hK; clear hK; conv => arg 2; whnf
  have oa := h.ok.addr
  have os_ := h.ok.server
  simp only [naF, h0]
  refine wp_region_pls (by kernel_rfl) (fun w' => ModelAt w' p T M s ∧ Fr noB w w') [14] (.p 0 (.p 1 (.p 2 (.p 3 (.p 7 (.p 8 (.p 9 (.q 4 (.q 10 (.e 5 (.p 6 (.e 11 (.p 12 (.e 13 (.e 14 (.nil)))))))))))))))) (by kernel_rfl) (⟨h.drew, (Fr.refl _ _).drew⟩) ?_
  intro ops Q' hO hQ' wr1 hR1
  iterate 7 (refine pl_p0 hO rfl rfl ?_ (fun w' => ?_) ?_; rotate_left 1; (focus (go_simp; ((try with_reducible rfl); done))); simp only [Act.put, List.setIfInBounds_toArray, List.set_cons_zero, List.set_cons_succ])
  iterate 2 (refine pl_q0 hO rfl rfl ?_ (fun w' hS => ?_) ?_; rotate_left 1; (focus (obtain ⟨hB, hF⟩ := hS; have c24 := hB.g24; have c27 := hB.g27; go_simp; ((try with_reducible rfl); done))); simp only [Act.put, List.setIfInBounds_toArray, List.set_cons_zero, List.set_cons_succ])
  refine pl_e0 hO rfl rfl rfl (fun K hK => ?_)
  go_simp
  refine (refIp s.addr _ (by omega)).mono ?_
  rintro e w2 ⟨rfl, f2⟩
  refine hK _ _ (⟨hR1.1.none f2, hR1.2.none f2⟩) (fun hR_5 => ?_)
  clear hK K
  refine pl_p0 hO rfl rfl ?_ (fun w' => ?_) ?_; rotate_left 1; (focus (go_simp; ((try with_reducible rfl); done))); simp only [Act.put, List.setIfInBounds_toArray, List.set_cons_zero, List.set_cons_succ]
  refine pl_e0 hO rfl rfl rfl (fun K hK => ?_)
  go_simp
  refine (refIp s.server _ (by omega)).mono ?_
  rintro e w3 ⟨rfl, f3⟩
  refine hK _ _ (⟨hR_5.1.none f3, hR_5.2.none f3⟩) (fun hR_11 => ?_)
  clear hK K
  refine pl_p0 hO rfl rfl ?_ (fun w' => ?_) ?_; rotate_left 1; (focus (go_simp; ((try with_reducible rfl); done))); simp only [Act.put, List.setIfInBounds_toArray, List.set_cons_zero, List.set_cons_succ]
  refine pl_e0 hO rfl rfl rfl (fun K hK => ?_)
  go_simp
  refine hK _ _ (⟨hR_11.1.none ((Fr.refl noB _).alloc _), hR_11.2.alloc _⟩) (fun hR_13 => ?_)
  clear hK K
  refine pl_b0 hO rfl rfl rfl (fun K hK => ?_)
  go_simp
  refine (modSay0 p T M s 3 s.both _ 2 _ hR_13.1 (both_row _ _ _) (both_wt _)).mono ?_
  rintro e w4 ⟨rfl, hN⟩
  have hpre := hR_13.2
  refine hK _ _ ?_
  clear hK K
  refine pl_nil (hQ' _ _ ?_)
  exact HK.out _ _  ⟨rfl, rfl⟩ (Kc h0.symm (Kn _ _))  (MNow.pre hpre hN)
theorem modAsks (p T : Nat) (M : MLay) (s : St) (w : World) (h : ModelAt w p T M s) : Calls Tryz.prog 173 #[.pointer (some ⟨p, 0, none⟩)] w fun e w' => e = .returned (.tuple #[]) ∧ MNow p T M w s.asks w' := by
  go_enter Tryz.func173, Tryz.ntmps173
  refine wp_seq ?_
  refine naR0 p T M s _ w _ ⟨rfl, rfl⟩ rfl h ?_
  intro a1 w1 hs1 k1 o6 hw; subst w1
  have e0 : sl a1 0 = .pointer (some ⟨p, 0, none⟩) := (k1 0 (by decide)).trans rfl
  unfold St.asks
  refine wp_if o6 (fun hb => ?_) (fun hb => ?_)
  · rw [if_pos (of_decide_eq_true hb)]
    refine naR1 p T M s a1 w _ hs1 e0 h ?_
    intro a2 w2 hs2 k2 hN
    exact bodyPost_end (results_none rfl _ _ _) hs2.defers ⟨rfl, hN⟩
  · rw [if_neg (of_decide_eq_false hb)]
    refine naR2 p T M s a1 w _ hs1 e0 h ?_
    intro a2 w2 hs2 k2 hN
    exact bodyPost_end (results_none rfl _ _ _) hs2.defers ⟨rfl, hN⟩
def ngF (u : Nat → Value) : Act := ⟨#[u 0, u 1, u 2, u 3, u 4, u 5, u 6, u 7, u 8, u 9, u 10, u 11, u 12, u 13, u 14, u 15, u 16, u 17, u 18, u 19, u 20, u 21, u 22], []⟩
set_option maxRecDepth 100000 in
theorem ngF_eq (u : Nat → Value) : ngF u = frN 23 u := rfl
theorem ngF_of {a : Act} (h : Sz 23 a) : a = ngF (sl a) := h.eq.trans (ngF_eq _).symm
theorem ngR0 (p T : Nat) (M : MLay) (s : St) (l : Nat) (a : Act) (w : World) (K : Exit → Act → World → Prop) (hs : Sz 23 a)
    (h0 : sl a 0 = .pointer (some ⟨p, 0, none⟩)) (h1 : sl a 1 = .int .i64 (l : Int)) (h : ModelAt w p T M s)
    (hK : ∀ a' w', Sz 23 a' → Kp [0] a a' → ModelAt w' p T M { s with lease := l } → Fr (mown p M) w w' → K .normal a' w') :
    (regionOf Tryz.f172 0).wp Tryz.prog K a w := by
  unfold Kp at hK; rw [ngF_of hs]; clear hs; generalize sl a = u at *; clear a; have HK := Lib.hid hK; clear hK; conv => arg 2; whnf
  simp only [ngF, h0, h1]
  have c_ := h.g22
  have hfz := h.fr
  go_wp2_with fail
  exact HK.out _ _  ⟨rfl, rfl⟩ (Kc h0.symm (Kn _ _))  (h.set1 22 (.int .i64 (l : Int)) { s with lease := l } rfl rfl rfl rfl rfl rfl { h.ok with }) (fr_mset p M w 22 _)
theorem ngR1 (p T : Nat) (M : MLay) (s : St) (a : Act) (w : World) (K : Exit → Act → World → Prop) (hs : Sz 23 a)
    (h0 : sl a 0 = .pointer (some ⟨p, 0, none⟩)) (h : ModelAt w p T M s)
    (hK : ∀ a' w', Sz 23 a' → Kp [0] a a' → ModelAt w' p T M { s with lsends := 1 } → Fr (mown p M) w w' → K .normal a' w') :
    (regionOf Tryz.f172 1).wp Tryz.prog K a w := by
  unfold Kp at hK; rw [ngF_of hs]; clear hs; generalize sl a = u at *; clear a; have HK := Lib.hid hK; clear hK; conv => arg 2; whnf
  simp only [ngF, h0]
  have c_ := h.g33
  have hfz := h.fr
  go_wp2_with fail
  exact HK.out _ _  ⟨rfl, rfl⟩ (Kc h0.symm (Kn _ _))  (h.set1 33 (.int .i64 ((1 : Nat) : Int)) { s with lsends := 1 } rfl rfl rfl rfl rfl rfl { h.ok with lsends := show 1 ≤ 4 by decide }) (fr_mset p M w 33 _)
theorem ngR2 (p T : Nat) (M : MLay) (s : St) (a : Act) (w : World) (K : Exit → Act → World → Prop) (hs : Sz 23 a)
    (h0 : sl a 0 = .pointer (some ⟨p, 0, none⟩)) (h : ModelAt w p T M s)
    (hK : ∀ a' w', Sz 23 a' → Kp [0] a a' → ModelAt w' p T M { s with lagain := wrap64 (s.now + s.wait 0) } → Fr (mown p M) w w' → K .normal a' w') :
    (regionOf Tryz.f172 2).wp Tryz.prog K a w := by
  unfold Kp at hK; rw [ngF_of hs]; clear hs; generalize sl a = u at *; clear a; have HK := Lib.hid hK; clear hK; conv => arg 2; whnf
  have qw := i64w (s.now + s.wait 0)
  simp only [ngF, h0]
  refine wp_region_pls (by kernel_rfl) (fun w' => ModelAt w' p T M s ∧ Fr noB w w') [10] (.p 0 (.p 1 (.p 2 (.p 3 (.p 5 (.q 4 (.e 6 (.p 7 (.p 8 (.p 9 (.e 10 (.nil)))))))))))) (by kernel_rfl) (⟨h.drew, (Fr.refl _ _).drew⟩) ?_
  intro ops Q' hO hQ' wr1 hR1
  iterate 5 (refine pl_p0 hO rfl rfl ?_ (fun w' => ?_) ?_; rotate_left 1; (focus (go_simp; ((try with_reducible rfl); done))); simp only [Act.put, List.setIfInBounds_toArray, List.set_cons_zero, List.set_cons_succ])
  refine pl_q0 hO rfl rfl ?_ (fun w' hS => ?_) ?_; rotate_left 1; (focus (obtain ⟨hB, hF⟩ := hS; have c16 := hB.g16; go_simp; ((try with_reducible rfl); done))); simp only [Act.put, List.setIfInBounds_toArray, List.set_cons_zero, List.set_cons_succ]
  refine pl_e0 hO rfl rfl rfl (fun K hK => ?_)
  go_simp
  refine (modWait p T M s 0 (by decide) _ hR1.1).mono ?_
  rintro e w2 ⟨rfl, hw2⟩
  subst w2
  refine hK _ _ (hR1) (fun hR_6 => ?_)
  clear hK K
  iterate 3 (refine pl_p0 hO rfl rfl ?_ (fun w' => ?_) ?_; rotate_left 1; (focus (go_simp; ((try with_reducible rfl); done))); simp only [Act.put, List.setIfInBounds_toArray, List.set_cons_zero, List.set_cons_succ])
  refine pl_b0 hO rfl rfl rfl (fun K hK => ?_)
  have cc := hR_6.1.g32
  have hfz := hR_6.1.fr
  go_simp
  have hq := hR_6.1.set1 32 (.int .i64 (wrap64 (s.now + s.wait 0))) { s with lagain := wrap64 (s.now + s.wait 0) } rfl rfl rfl rfl rfl rfl { hR_6.1.ok with }
  have hpre := hR_6.2
  refine hK _ _ ?_
  clear hK K
  refine pl_nil (hQ' _ _ ?_)
  exact HK.out _ _  ⟨rfl, rfl⟩ (Kc h0.symm (Kn _ _))  hq ((hpre.of_no _).trans (fr_mset p M _ 32 _))
theorem ngR3 (p T : Nat) (M : MLay) (s : St) (a : Act) (w : World) (K : Exit → Act → World → Prop) (hs : Sz 23 a)
    (h0 : sl a 0 = .pointer (some ⟨p, 0, none⟩)) (h : ModelAt w p T M s)
    (hK : ∀ a' w', Sz 23 a' → Kp [0] a a' → MNow p T M w s.asks w' → K .normal a' w') :
    (regionOf Tryz.f172 3).wp Tryz.prog K a w := by
  unfold Kp at hK; rw [ngF_of hs]; clear hs; generalize sl a = u at *; clear a; have HK := Lib.hid hK; clear hK; conv => arg 2; whnf
  simp only [ngF, h0]
  go_wp2_with fail
  refine (modAsks p T M s _ h).mono ?_
  rintro e w1 ⟨rfl, hN⟩
  go_wp2_with fail
  exact HK.out _ _  ⟨rfl, rfl⟩ (Kc h0.symm (Kn _ _))  hN
theorem modGoes (p T : Nat) (M : MLay) (s : St) (l : Nat) (w : World) (h : ModelAt w p T M s) : Calls Tryz.prog 172 #[.pointer (some ⟨p, 0, none⟩), .int .i64 (l : Int)] w fun e w' => e = .returned (.tuple #[]) ∧ MNow p T M w (s.goes l) w' := by
  go_enter Tryz.func172, Tryz.ntmps172
  refine wp_seq ?_
  refine ngR0 p T M s l _ w _ ⟨rfl, rfl⟩ rfl rfl h ?_
  intro a1 w1 hs1 k1 h1 f1
  have e0 : sl a1 0 = .pointer (some ⟨p, 0, none⟩) := (k1 0 (by decide)).trans rfl
  refine wp_seq ?_
  refine ngR1 p T M _ a1 w1 _ hs1 e0 h1 ?_
  intro a2 w2 hs2 k2 h2 f2
  have e0 := (k2 0 (by decide)).trans e0
  refine wp_seq ?_
  refine ngR2 p T M _ a2 w2 _ hs2 e0 h2 ?_
  intro a3 w3 hs3 k3 h3 f3
  have e0 := (k3 0 (by decide)).trans e0
  refine ngR3 p T M _ a3 w3 _ hs3 e0 h3 ?_
  intro a4 w4 hs4 k4 hN
  exact bodyPost_end (results_none rfl _ _ _) hs4.defers ⟨rfl, MNow.comp (fun _ hb => .inl hb) ((f1.trans f2).trans f3) hN⟩
end Go.Proofs.YtcbkaiakdhiloabGreatDoor
set_option maxRecDepth 20000
namespace Go.Proofs.YtcbkaiakdhiloabGreatDoor
open Go.RowKit Go.Proofs
attribute [local go_sem] bs_size bs_append bs_extract bs_toList
def nyF (u : Nat → Value) : Act := ⟨#[u 0, u 1, u 2, u 3, u 4, u 5, u 6, u 7, u 8, u 9, u 10, u 11, u 12, u 13, u 14, u 15, u 16, u 17, u 18, u 19, u 20, u 21, u 22, u 23, u 24, u 25, u 26, u 27, u 28, u 29, u 30, u 31, u 32, u 33, u 34, u 35, u 36, u 37, u 38, u 39, u 40, u 41, u 42, u 43, u 44, u 45, u 46, u 47, u 48, u 49, u 50, u 51, u 52, u 53, u 54, u 55, u 56, u 57, u 58, u 59, u 60, u 61, u 62, u 63, u 64, u 65, u 66, u 67, u 68, u 69, u 70, u 71, u 72, u 73, u 74, u 75, u 76, u 77, u 78, u 79, u 80, u 81, u 82, u 83, u 84, u 85, u 86, u 87, u 88, u 89, u 90, u 91, u 92, u 93, u 94, u 95, u 96, u 97, u 98, u 99, u 100, u 101, u 102, u 103, u 104, u 105, u 106, u 107, u 108, u 109, u 110, u 111, u 112, u 113, u 114, u 115, u 116, u 117, u 118, u 119, u 120, u 121, u 122, u 123, u 124, u 125, u 126, u 127, u 128, u 129, u 130, u 131, u 132, u 133, u 134, u 135, u 136, u 137, u 138, u 139, u 140, u 141, u 142, u 143, u 144, u 145, u 146, u 147, u 148, u 149, u 150, u 151, u 152, u 153, u 154, u 155, u 156, u 157, u 158, u 159, u 160, u 161, u 162, u 163, u 164, u 165, u 166, u 167, u 168, u 169, u 170, u 171, u 172, u 173], []⟩
set_option maxRecDepth 100000 in
theorem nyF_eq (u : Nat → Value) : nyF u = frN 174 u := rfl
theorem nyF_of {a : Act} (h : Sz 174 a) : a = nyF (sl a) := h.eq.trans (nyF_eq _).symm
theorem nyR0 (p T : Nat) (M : MLay) (s : St) (a : Act) (w : World) (K : Exit → Act → World → Prop) (hs : Sz 174 a)
    (h0 : sl a 0 = .pointer (some ⟨p, 0, none⟩)) (h : ModelAt w p T M s)
    (hK : ∀ a' w', Sz 174 a' → Kp [0, 2] a a' → sl a' 6 = .int .i64 (s.lease : Int) → w' = w → K .normal a' w') :
    (regionOf Tryz.f148 0).wp Tryz.prog K a w := by
  unfold Kp at hK; rw [nyF_of hs]; clear hs; generalize sl a = u at *; clear a; have HK := Lib.hid hK; clear hK; conv => arg 2; whnf
  simp only [nyF, h0]
  have c22 := h.g22
  go_wp2_with fail
  exact HK.out _ _  ⟨rfl, rfl⟩ (KpU.cons (h0.symm) (KpU.cons (rfl) (KpU.nil _ _))) (rfl) rfl
theorem nyR1 (l : Nat) (a : Act) (w : World) (K : Exit → Act → World → Prop) (hs : Sz 174 a)
    (h6 : sl a 6 = .int .i64 (l : Int)) 
    (hK : ∀ a' w', Sz 174 a' → Kp [0, 2, 6] a a' → sl a' 7 = .bool (decide (l = 0)) → w' = w → K .normal a' w') :
    (regionOf Tryz.f148 1).wp Tryz.prog K a w := by
  unfold Kp at hK; rw [nyF_of hs]; clear hs; generalize sl a = u at *; clear a; have HK := Lib.hid hK; clear hK; conv => arg 2; whnf
  simp only [nyF, h6]
  have e_ : ((l : Int) == 0) = decide (l = 0) := by rw [Bool.eq_iff_iff]; simp; try omega
  go_wp2_with fail
  exact HK.out _ _  ⟨rfl, rfl⟩ (KpU.cons (rfl) (KpU.cons (rfl) (KpU.cons (h6.symm) (KpU.nil _ _)))) (rfl) rfl
theorem nyR4 (l : Nat) (a : Act) (w : World) (K : Exit → Act → World → Prop) (hs : Sz 174 a)
    (h6 : sl a 6 = .int .i64 (l : Int)) 
    (hK : ∀ a' w', Sz 174 a' → Kp [0, 2, 6] a a' → sl a' 18 = .bool (decide (l = 1)) → w' = w → K .normal a' w') :
    (regionOf Tryz.f148 4).wp Tryz.prog K a w := by
  unfold Kp at hK; rw [nyF_of hs]; clear hs; generalize sl a = u at *; clear a; have HK := Lib.hid hK; clear hK; conv => arg 2; whnf
  simp only [nyF, h6]
  have e_ : ((l : Int) == 1) = decide (l = 1) := by rw [Bool.eq_iff_iff]; simp; try omega
  go_wp2_with fail
  exact HK.out _ _  ⟨rfl, rfl⟩ (KpU.cons (rfl) (KpU.cons (rfl) (KpU.cons (h6.symm) (KpU.nil _ _)))) (rfl) rfl
theorem nyR5 (l : Nat) (a : Act) (w : World) (K : Exit → Act → World → Prop) (hs : Sz 174 a)
    (h6 : sl a 6 = .int .i64 (l : Int)) 
    (hK : ∀ a' w', Sz 174 a' → Kp [0, 2, 6] a a' → sl a' 18 = .bool (decide (l = 2)) → w' = w → K .normal a' w') :
    (regionOf Tryz.f148 5).wp Tryz.prog K a w := by
  unfold Kp at hK; rw [nyF_of hs]; clear hs; generalize sl a = u at *; clear a; have HK := Lib.hid hK; clear hK; conv => arg 2; whnf
  simp only [nyF, h6]
  have e_ : ((l : Int) == 2) = decide (l = 2) := by rw [Bool.eq_iff_iff]; simp; try omega
  go_wp2_with fail
  exact HK.out _ _  ⟨rfl, rfl⟩ (KpU.cons (rfl) (KpU.cons (rfl) (KpU.cons (h6.symm) (KpU.nil _ _)))) (rfl) rfl
theorem nyR2 (p T : Nat) (M : MLay) (s : St) (a : Act) (w : World) (K : Exit → Act → World → Prop) (hs : Sz 174 a)
    (h0 : sl a 0 = .pointer (some ⟨p, 0, none⟩)) (h : ModelAt w p T M s)
    (hK : ∀ a' w', Sz 174 a' → Kp [0, 2, 6] a a' → ModelAt w' p T M { s with xid := s.draw } → Fr (mown p M) w w' → K .normal a' w') :
    (regionOf Tryz.f148 2).wp Tryz.prog K a w := by
  unfold Kp at hK; rw [nyF_of hs]; clear hs; generalize sl a = u at *; clear a; have HK := Lib.hid hK; clear hK; conv => arg 2; whnf
  simp only [nyF, h0]
  have c_ := h.g23
  have hfz := h.fr
  have c17 := h.g17
  go_wp2_with fail
  exact HK.out _ _  ⟨rfl, rfl⟩ (KpU.cons (h0.symm) (KpU.cons (rfl) (KpU.cons (rfl) (KpU.nil _ _))))  (h.set1 23 (.int .u32 (s.draw : Int)) { s with xid := s.draw } rfl rfl rfl rfl rfl rfl { h.ok with xid := h.ok.draw }) (fr_mset p M w 23 _)
theorem nyR3 (p T : Nat) (M : MLay) (s : St) (a : Act) (w : World) (K : Exit → Act → World → Prop) (hs : Sz 174 a)
    (h0 : sl a 0 = .pointer (some ⟨p, 0, none⟩)) (h : ModelAt w p T M s)
    (hK : ∀ a' w', Sz 174 a' → Kp [0, 2, 6] a a' → MNow p T M w (s.goes 1) w' → K .normal a' w') :
    (regionOf Tryz.f148 3).wp Tryz.prog K a w := by
  unfold Kp at hK; rw [nyF_of hs]; clear hs; generalize sl a = u at *; clear a; have HK := Lib.hid hK; clear hK; conv => arg 2; whnf
  simp only [nyF, h0]
  go_wp2_with fail
  refine (modGoes p T M s 1 _ h).mono ?_
  rintro e w1 ⟨rfl, hN⟩
  go_wp2_with fail
  exact HK.out _ _  ⟨rfl, rfl⟩ (KpU.cons (h0.symm) (KpU.cons (rfl) (KpU.cons (rfl) (KpU.nil _ _))))  hN
theorem nyR6a (p T : Nat) (M : MLay) (s : St) (a : Act) (w : World) (K : Exit → Act → World → Prop) (hs : Sz 174 a)
    (h0 : sl a 0 = .pointer (some ⟨p, 0, none⟩)) (h : ModelAt w p T M s) (hl : ¬ s.lagain ≤ s.now)
    (hK : ∀ a' w', Sz 174 a' → Kp [0, 2, 6] a a' → sl a' 36 = .bool false → ModelAt w' p T M s → Fr noB w w' → K .normal a' w') :
    (regionOf Tryz.f148 6).wp Tryz.prog K a w := by
  unfold Kp at hK; rw [nyF_of hs]; clear hs; generalize sl a = u at *; clear a; have HK := Lib.hid hK; clear hK; conv => arg 2; whnf
  simp only [nyF, h0]
  refine wp_region_pls (by kernel_rfl) (fun w' => ModelAt w' p T M s ∧ Fr noB w w') [] (.p 0 (.p 1 (.p 2 (.p 4 (.p 5 (.p 6 (.q 3 (.q 7 (.p 8 (.p 9 (.p 10 (.p 11 (.p 12 (.q 13 (.p 14 (.p 15 .nil)))))))))))))))) (by kernel_rfl) (⟨h.drew, (Fr.refl _ _).drew⟩) ?_
  intro ops Q' hO hQ' wr1 hR1
  iterate 6 (refine pl_p0 hO rfl rfl ?_ (fun w' => ?_) ?_; rotate_left 1; (focus (go_simp; ((try with_reducible rfl); done))); simp only [Act.put, List.setIfInBounds_toArray, List.set_cons_zero, List.set_cons_succ])
  iterate 2 (refine pl_q0 hO rfl rfl ?_ (fun w' hS => ?_) ?_; rotate_left 1; (focus (obtain ⟨hB, hF⟩ := hS; have c16 := hB.g16; have c32 := hB.g32; have c33 := hB.g33; go_simp; ((try with_reducible rfl); done))); simp only [Act.put, List.setIfInBounds_toArray, List.set_cons_zero, List.set_cons_succ])
  iterate 2 (refine pl_p0 hO rfl rfl ?_ (fun w' => ?_) ?_; rotate_left 1; (focus (go_simp; ((try with_reducible rfl); done))); simp only [Act.put, List.setIfInBounds_toArray, List.set_cons_zero, List.set_cons_succ])
  iterate 3 (refine pl_pn hO rfl rfl rfl rfl ?_; simp only [Act.put, List.setIfInBounds_toArray, List.set_cons_zero, List.set_cons_succ])
  refine pl_qn hO rfl rfl rfl rfl ?_; simp only [Act.put, List.setIfInBounds_toArray, List.set_cons_zero, List.set_cons_succ]
  refine pl_pn hO rfl rfl rfl rfl ?_; simp only [Act.put, List.setIfInBounds_toArray, List.set_cons_zero, List.set_cons_succ]
  refine pl_p0 hO rfl rfl ?_ (fun w' => ?_) ?_; rotate_left 1; (focus (go_simp; ((try with_reducible rfl); done))); simp only [Act.put, List.setIfInBounds_toArray, List.set_cons_zero, List.set_cons_succ]
  refine pl_nil (hQ' _ _ ?_)
  exact HK.out _ _  ⟨rfl, rfl⟩ (KpU.cons (h0.symm) (KpU.cons (rfl) (KpU.cons (rfl) (KpU.nil _ _)))) (rfl) hR1.1 hR1.2
theorem nyR6b (p T : Nat) (M : MLay) (s : St) (a : Act) (w : World) (K : Exit → Act → World → Prop) (hs : Sz 174 a)
    (h0 : sl a 0 = .pointer (some ⟨p, 0, none⟩)) (h : ModelAt w p T M s) (hl : s.lagain ≤ s.now)
    (hK : ∀ a' w', Sz 174 a' → Kp [0, 2, 6] a a' → sl a' 36 = .bool (decide (s.lsends = 4)) → ModelAt w' p T M s → Fr noB w w' → K .normal a' w') :
    (regionOf Tryz.f148 6).wp Tryz.prog K a w := by
  unfold Kp at hK; rw [nyF_of hs]; clear hs; generalize sl a = u at *; clear a; have HK := Lib.hid hK; clear hK; conv => arg 2; whnf
  have e_ : ((s.lsends : Int) == 4) = decide (s.lsends = 4) := by rw [Bool.eq_iff_iff]; simp; try omega
  simp only [nyF, h0]
  refine wp_region_pls (by kernel_rfl) (fun w' => ModelAt w' p T M s ∧ Fr noB w w') [] (.p 0 (.p 1 (.p 2 (.p 4 (.p 5 (.p 6 (.q 3 (.q 7 (.p 8 (.p 9 (.p 10 (.p 11 (.p 12 (.q 13 (.p 14 (.p 15 .nil)))))))))))))))) (by kernel_rfl) (⟨h.drew, (Fr.refl _ _).drew⟩) ?_
  intro ops Q' hO hQ' wr1 hR1
  iterate 6 (refine pl_p0 hO rfl rfl ?_ (fun w' => ?_) ?_; rotate_left 1; (focus (go_simp; ((try with_reducible rfl); done))); simp only [Act.put, List.setIfInBounds_toArray, List.set_cons_zero, List.set_cons_succ])
  iterate 2 (refine pl_q0 hO rfl rfl ?_ (fun w' hS => ?_) ?_; rotate_left 1; (focus (obtain ⟨hB, hF⟩ := hS; have c16 := hB.g16; have c32 := hB.g32; have c33 := hB.g33; go_simp; ((try with_reducible rfl); done))); simp only [Act.put, List.setIfInBounds_toArray, List.set_cons_zero, List.set_cons_succ])
  iterate 2 (refine pl_p0 hO rfl rfl ?_ (fun w' => ?_) ?_; rotate_left 1; (focus (go_simp; ((try with_reducible rfl); done))); simp only [Act.put, List.setIfInBounds_toArray, List.set_cons_zero, List.set_cons_succ])
  iterate 3 (refine pl_p1 hO rfl rfl rfl rfl ?_ (fun w' => ?_) ?_; rotate_left 1; (focus (go_simp; ((try with_reducible rfl); done))); simp only [Act.put, List.setIfInBounds_toArray, List.set_cons_zero, List.set_cons_succ])
  refine pl_q1 hO rfl rfl rfl rfl ?_ (fun w' hS => ?_) ?_; rotate_left 1; (focus (obtain ⟨hB, hF⟩ := hS; have c16 := hB.g16; have c32 := hB.g32; have c33 := hB.g33; go_simp; ((try with_reducible rfl); done))); simp only [Act.put, List.setIfInBounds_toArray, List.set_cons_zero, List.set_cons_succ]
  refine pl_p1 hO rfl rfl rfl rfl ?_ (fun w' => ?_) ?_; rotate_left 1; (focus (go_simp; ((try with_reducible rfl); done))); simp only [Act.put, List.setIfInBounds_toArray, List.set_cons_zero, List.set_cons_succ]
  refine pl_p0 hO rfl rfl ?_ (fun w' => ?_) ?_; rotate_left 1; (focus (go_simp; ((try with_reducible rfl); done))); simp only [Act.put, List.setIfInBounds_toArray, List.set_cons_zero, List.set_cons_succ]
  refine pl_nil (hQ' _ _ ?_)
  exact HK.out _ _  ⟨rfl, rfl⟩ (KpU.cons (h0.symm) (KpU.cons (rfl) (KpU.cons (rfl) (KpU.nil _ _)))) (rfl) hR1.1 hR1.2
theorem nyR7 (p T : Nat) (M : MLay) (s : St) (a : Act) (w : World) (K : Exit → Act → World → Prop) (hs : Sz 174 a)
    (h0 : sl a 0 = .pointer (some ⟨p, 0, none⟩)) (h : ModelAt w p T M s)
    (hK : ∀ a' w', Sz 174 a' → Kp [0, 2, 6] a a' → MNow p T M w (s.fail) w' → K .normal a' w') :
    (regionOf Tryz.f148 7).wp Tryz.prog K a w := by
  unfold Kp at hK; rw [nyF_of hs]; clear hs; generalize sl a = u at *; clear a; have HK := Lib.hid hK; clear hK; conv => arg 2; whnf
  simp only [nyF, h0]
  go_wp2_with fail
  refine (modFail p T M s _ h).mono ?_
  rintro e w1 ⟨rfl, hN⟩
  go_wp2_with fail
  exact HK.out _ _  ⟨rfl, rfl⟩ (KpU.cons (h0.symm) (KpU.cons (rfl) (KpU.cons (rfl) (KpU.nil _ _))))  hN
theorem nyR8 (p T : Nat) (M : MLay) (s : St) (a : Act) (w : World) (K : Exit → Act → World → Prop) (hs : Sz 174 a)
    (h0 : sl a 0 = .pointer (some ⟨p, 0, none⟩)) (h : ModelAt w p T M s)
    (hK : ∀ a' w', Sz 174 a' → Kp [0, 2, 6] a a' → sl a' 47 = .bool (decide (s.lagain ≤ s.now)) → ModelAt w' p T M s → Fr noB w w' → K .normal a' w') :
    (regionOf Tryz.f148 8).wp Tryz.prog K a w := by
  unfold Kp at hK; rw [nyF_of hs]; clear hs; generalize sl a = u at *; clear a; have HK := Lib.hid hK; clear hK; conv => arg 2; whnf
  simp only [nyF, h0]
  refine wp_region_pls (by kernel_rfl) (fun w' => ModelAt w' p T M s ∧ Fr noB w w') [] (.p 0 (.p 1 (.p 2 (.p 4 (.p 5 (.p 6 (.q 3 (.q 7 (.p 8 .nil))))))))) (by kernel_rfl) (⟨h.drew, (Fr.refl _ _).drew⟩) ?_
  intro ops Q' hO hQ' wr1 hR1
  iterate 6 (refine pl_p0 hO rfl rfl ?_ (fun w' => ?_) ?_; rotate_left 1; (focus (go_simp; ((try with_reducible rfl); done))); simp only [Act.put, List.setIfInBounds_toArray, List.set_cons_zero, List.set_cons_succ])
  iterate 2 (refine pl_q0 hO rfl rfl ?_ (fun w' hS => ?_) ?_; rotate_left 1; (focus (obtain ⟨hB, hF⟩ := hS; have c16 := hB.g16; have c32 := hB.g32; go_simp; ((try with_reducible rfl); done))); simp only [Act.put, List.setIfInBounds_toArray, List.set_cons_zero, List.set_cons_succ])
  refine pl_p0 hO rfl rfl ?_ (fun w' => ?_) ?_; rotate_left 1; (focus (go_simp; ((try with_reducible rfl); done))); simp only [Act.put, List.setIfInBounds_toArray, List.set_cons_zero, List.set_cons_succ]
  refine pl_nil (hQ' _ _ ?_)
  exact HK.out _ _  ⟨rfl, rfl⟩ (KpU.cons (h0.symm) (KpU.cons (rfl) (KpU.cons (rfl) (KpU.nil _ _)))) (rfl) hR1.1 hR1.2
theorem nyR9 (p T : Nat) (M : MLay) (s : St) (a : Act) (w : World) (K : Exit → Act → World → Prop) (hs : Sz 174 a)
    (h0 : sl a 0 = .pointer (some ⟨p, 0, none⟩)) (h : ModelAt w p T M s)
    (hK : ∀ a' w', Sz 174 a' → Kp [0, 2, 6] a a' → ModelAt w' p T M { s with lagain := wrap64 (s.now + s.wait s.lsends) } → Fr (mown p M) w w' → K .normal a' w') :
    (regionOf Tryz.f148 9).wp Tryz.prog K a w := by
  unfold Kp at hK; rw [nyF_of hs]; clear hs; generalize sl a = u at *; clear a; have HK := Lib.hid hK; clear hK; conv => arg 2; whnf
  have qw := i64w (s.now + s.wait s.lsends)
  simp only [nyF, h0]
  refine wp_region_pls (by kernel_rfl) (fun w' => ModelAt w' p T M s ∧ Fr noB w w') [14] (.p 0 (.p 1 (.p 2 (.p 3 (.p 5 (.p 6 (.p 7 (.p 8 (.q 4 (.q 9 (.e 10 (.p 11 (.p 12 (.p 13 (.e 14 (.nil)))))))))))))))) (by kernel_rfl) (⟨h.drew, (Fr.refl _ _).drew⟩) ?_
  intro ops Q' hO hQ' wr1 hR1
  iterate 8 (refine pl_p0 hO rfl rfl ?_ (fun w' => ?_) ?_; rotate_left 1; (focus (go_simp; ((try with_reducible rfl); done))); simp only [Act.put, List.setIfInBounds_toArray, List.set_cons_zero, List.set_cons_succ])
  iterate 2 (refine pl_q0 hO rfl rfl ?_ (fun w' hS => ?_) ?_; rotate_left 1; (focus (obtain ⟨hB, hF⟩ := hS; have c16 := hB.g16; have c_ := hB.g33; go_simp; ((try with_reducible rfl); done))); simp only [Act.put, List.setIfInBounds_toArray, List.set_cons_zero, List.set_cons_succ])
  refine pl_e0 hO rfl rfl rfl (fun K hK => ?_)
  go_simp
  refine (modWait p T M s s.lsends h.ok.lsends _ hR1.1).mono ?_
  rintro e w2 ⟨rfl, hw2⟩
  subst w2
  refine hK _ _ (hR1) (fun hR_10 => ?_)
  clear hK K
  iterate 3 (refine pl_p0 hO rfl rfl ?_ (fun w' => ?_) ?_; rotate_left 1; (focus (go_simp; ((try with_reducible rfl); done))); simp only [Act.put, List.setIfInBounds_toArray, List.set_cons_zero, List.set_cons_succ])
  refine pl_b0 hO rfl rfl rfl (fun K hK => ?_)
  have cc := hR_10.1.g32
  have hfz := hR_10.1.fr
  go_simp
  have hq := hR_10.1.set1 32 (.int .i64 (wrap64 (s.now + s.wait s.lsends))) { s with lagain := wrap64 (s.now + s.wait s.lsends) } rfl rfl rfl rfl rfl rfl { hR_10.1.ok with }
  have hpre := hR_10.2
  refine hK _ _ ?_
  clear hK K
  refine pl_nil (hQ' _ _ ?_)
  exact HK.out _ _  ⟨rfl, rfl⟩ (KpU.cons (h0.symm) (KpU.cons (rfl) (KpU.cons (rfl) (KpU.nil _ _))))  hq ((hpre.of_no _).trans (fr_mset p M _ 32 _))
theorem nyR10 (p T : Nat) (M : MLay) (s : St) (a : Act) (w : World) (K : Exit → Act → World → Prop) (hs : Sz 174 a)
    (h0 : sl a 0 = .pointer (some ⟨p, 0, none⟩)) (h : ModelAt w p T M s) (hl : s.lsends < 4)
    (hK : ∀ a' w', Sz 174 a' → Kp [0, 2, 6] a a' → ModelAt w' p T M { s with lsends := s.lsends + 1 } → Fr (mown p M) w w' → K .normal a' w') :
    (regionOf Tryz.f148 10).wp Tryz.prog K a w := by
  unfold Kp at hK; rw [nyF_of hs]; clear hs; generalize sl a = u at *; clear a; have HK := Lib.hid hK; clear hK; conv => arg 2; whnf
  simp only [nyF, h0]
  have qw : IntKind.i64.wrap ((s.lsends : Int) + 1) = ((s.lsends + 1 : Nat) : Int) := by rw [i64w]; unfold wrap64; omega
  have c_ := h.g33
  have hfz := h.fr
  go_wp2_with fail
  exact HK.out _ _  ⟨rfl, rfl⟩ (KpU.cons (h0.symm) (KpU.cons (rfl) (KpU.cons (rfl) (KpU.nil _ _))))  (h.set1 33 (.int .i64 ((s.lsends + 1 : Nat) : Int)) { s with lsends := s.lsends + 1 } rfl rfl rfl rfl rfl rfl { h.ok with lsends := hl }) (fr_mset p M w 33 _)
theorem nyR11 (p T : Nat) (M : MLay) (s : St) (a : Act) (w : World) (K : Exit → Act → World → Prop) (hs : Sz 174 a)
    (h0 : sl a 0 = .pointer (some ⟨p, 0, none⟩)) (h : ModelAt w p T M s)
    (hK : ∀ a' w', Sz 174 a' → Kp [0, 2, 6] a a' → MNow p T M w (s.asks) w' → K .normal a' w') :
    (regionOf Tryz.f148 11).wp Tryz.prog K a w := by
  unfold Kp at hK; rw [nyF_of hs]; clear hs; generalize sl a = u at *; clear a; have HK := Lib.hid hK; clear hK; conv => arg 2; whnf
  simp only [nyF, h0]
  go_wp2_with fail
  refine (modAsks p T M s _ h).mono ?_
  rintro e w1 ⟨rfl, hN⟩
  go_wp2_with fail
  exact HK.out _ _  ⟨rfl, rfl⟩ (KpU.cons (h0.symm) (KpU.cons (rfl) (KpU.cons (rfl) (KpU.nil _ _))))  hN
end Go.Proofs.YtcbkaiakdhiloabGreatDoor
set_option maxRecDepth 20000
namespace Go.Proofs.YtcbkaiakdhiloabGreatDoor
open Go.RowKit Go.Proofs
attribute [local go_sem] bs_size bs_append bs_extract bs_toList
def nzF (u : Nat → Value) : Act := ⟨#[u 0, u 1, u 2, u 3, u 4, u 5, u 6, u 7, u 8, u 9, u 10, u 11, u 12, u 13, u 14, u 15, u 16, u 17, u 18, u 19, u 20, u 21, u 22, u 23, u 24, u 25, u 26, u 27, u 28, u 29, u 30, u 31, u 32, u 33, u 34, u 35, u 36, u 37, u 38, u 39, u 40, u 41, u 42, u 43, u 44, u 45, u 46, u 47, u 48, u 49, u 50, u 51, u 52, u 53, u 54, u 55, u 56, u 57, u 58, u 59, u 60, u 61, u 62, u 63, u 64, u 65, u 66, u 67, u 68, u 69, u 70, u 71, u 72, u 73, u 74, u 75, u 76, u 77], []⟩
set_option maxRecDepth 100000 in
theorem nzF_eq (u : Nat → Value) : nzF u = frN 78 u := rfl
theorem nzF_of {a : Act} (h : Sz 78 a) : a = nzF (sl a) := h.eq.trans (nzF_eq _).symm
theorem nzR0 (p T : Nat) (M : MLay) (s : St) (a : Act) (w : World) (K : Exit → Act → World → Prop) (hs : Sz 78 a)
    (h0 : sl a 0 = .pointer (some ⟨p, 0, none⟩)) (h : ModelAt w p T M s) (ok : ({ s with now := wrap64 (s.now + 1) } : St).Ok)
    (hK : ∀ a' w', Sz 78 a' → Kp [0, 1] a a' → ModelAt w' p T M { s with now := wrap64 (s.now + 1) } → Fr (mown p M) w w' → K .normal a' w') :
    (regionOf Tryz.f103 0).wp Tryz.prog K a w := by
  unfold Kp at hK; rw [nzF_of hs]; clear hs; generalize sl a = u at *; clear a; have HK := Lib.hid hK; clear hK; conv => arg 2; whnf
  simp only [nzF, h0]
  have qw := i64w (s.now + 1)
  have c16 := h.g16
  have hfz := h.fr
  go_wp2_with fail
  exact HK.out _ _  ⟨rfl, rfl⟩ (KpU.cons (h0.symm) (KpU.cons (rfl) (KpU.nil _ _)))  (h.set1 16 (.int .i64 (wrap64 (s.now + 1))) { s with now := wrap64 (s.now + 1) } rfl rfl rfl rfl rfl rfl ok) (fr_mset p M w 16 _)
theorem nzR1 (p T : Nat) (M : MLay) (s : St) (d : Nat) (a : Act) (w : World) (K : Exit → Act → World → Prop) (hs : Sz 78 a)
    (h0 : sl a 0 = .pointer (some ⟨p, 0, none⟩)) (h1 : sl a 1 = .int .u32 (d : Int)) (h : ModelAt w p T M s) (hd : d < 4294967296)
    (hK : ∀ a' w', Sz 78 a' → Kp [0, 1] a a' → ModelAt w' p T M { s with draw := d } → Fr (mown p M) w w' → K .normal a' w') :
    (regionOf Tryz.f103 1).wp Tryz.prog K a w := by
  unfold Kp at hK; rw [nzF_of hs]; clear hs; generalize sl a = u at *; clear a; have HK := Lib.hid hK; clear hK; conv => arg 2; whnf
  simp only [nzF, h0, h1]
  have c_ := h.g17
  have hfz := h.fr
  go_wp2_with fail
  exact HK.out _ _  ⟨rfl, rfl⟩ (KpU.cons (h0.symm) (KpU.cons (h1.symm) (KpU.nil _ _)))  (h.set1 17 (.int .u32 (d : Int)) { s with draw := d } rfl rfl rfl rfl rfl rfl { h.ok with draw := hd }) (fr_mset p M w 17 _)
theorem nzR2 (p T : Nat) (M : MLay) (s : St) (a : Act) (w : World) (K : Exit → Act → World → Prop) (hs : Sz 78 a)
    (h0 : sl a 0 = .pointer (some ⟨p, 0, none⟩)) (h : ModelAt w p T M s)
    (hK : ∀ a' w', Sz 78 a' → Kp [0, 1] a a' → sl a' 16 = .bool s.over → w' = w → K .normal a' w') :
    (regionOf Tryz.f103 2).wp Tryz.prog K a w := by
  unfold Kp at hK; rw [nzF_of hs]; clear hs; generalize sl a = u at *; clear a; have HK := Lib.hid hK; clear hK; conv => arg 2; whnf
  simp only [nzF, h0]
  go_wp2_with fail
  refine (modOver p T M s _ h).mono ?_
  rintro e w1 ⟨rfl, rfl⟩
  go_wp2_with fail
  exact HK.out _ _  ⟨rfl, rfl⟩ (KpU.cons (h0.symm) (KpU.cons (rfl) (KpU.nil _ _))) (rfl) rfl
theorem nzR5c (p T : Nat) (M : MLay) (s : St) (a : Act) (w : World) (K : Exit → Act → World → Prop) (hs : Sz 78 a)
    (h0 : sl a 0 = .pointer (some ⟨p, 0, none⟩)) (h : ModelAt w p T M s) (hp1 : s.phase ≠ 1) (hp2 : s.phase ≠ 2)
    (hK : ∀ a' w', Sz 78 a' → Kp [0, 1] a a' → sl a' 43 = .bool true → ModelAt w' p T M s → Fr noB w w' → K .normal a' w') :
    (regionOf Tryz.f103 5).wp Tryz.prog K a w := by
  unfold Kp at hK; rw [nzF_of hs]; clear hs; generalize sl a = u at *; clear a; have HK := Lib.hid hK; clear hK; conv => arg 2; whnf
  have n_ : ((s.phase : Int) != (1 : Int)) = true := by first | (rw [bne_iff_ne]; omega) | (rw [bne_eq_false_iff_eq]; omega)
  have n_2 : ((s.phase : Int) == (1 : Int)) = false := by first | (rw [beq_iff_eq]; omega) | (rw [beq_eq_false_iff_ne]; omega)
  have m_ : ((s.phase : Int) != (2 : Int)) = true := by first | (rw [bne_iff_ne]; omega) | (rw [bne_eq_false_iff_eq]; omega)
  have m_2 : ((s.phase : Int) == (2 : Int)) = false := by first | (rw [beq_iff_eq]; omega) | (rw [beq_eq_false_iff_ne]; omega)
  clear hp1 hp2
  simp only [nzF, h0]
  refine wp_region_pls (by kernel_rfl) (fun w' => ModelAt w' p T M s ∧ Fr noB w w') [] (.p 0 (.p 1 (.p 2 (.q 3 (.p 4 (.p 5 (.p 6 (.p 7 (.p 8 (.q 9 (.p 10 (.p 11 (.p 12 (.p 13 (.p 14 (.p 15 (.p 17 (.p 18 (.p 19 (.q 16 (.q 20 (.p 21 (.p 22 .nil))))))))))))))))))))))) (by kernel_rfl) (⟨h.drew, (Fr.refl _ _).drew⟩) ?_
  intro ops Q' hO hQ' wr1 hR1
  iterate 3 (refine pl_p0 hO rfl rfl ?_ (fun w' => ?_) ?_; rotate_left 1; (focus (go_simp; ((try with_reducible rfl); done))); simp only [Act.put, List.setIfInBounds_toArray, List.set_cons_zero, List.set_cons_succ])
  refine pl_q0 hO rfl rfl ?_ (fun w' hS => ?_) ?_; rotate_left 1; (focus (obtain ⟨hB, hF⟩ := hS; have c16 := hB.g16; have c34 := hB.g34; have c41 := hB.g41; go_simp; ((try with_reducible rfl); done))); simp only [Act.put, List.setIfInBounds_toArray, List.set_cons_zero, List.set_cons_succ]
  iterate 2 (refine pl_p0 hO rfl rfl ?_ (fun w' => ?_) ?_; rotate_left 1; (focus (go_simp; ((try with_reducible rfl); done))); simp only [Act.put, List.setIfInBounds_toArray, List.set_cons_zero, List.set_cons_succ])
  iterate 3 (refine pl_p1 hO rfl rfl rfl rfl ?_ (fun w' => ?_) ?_; rotate_left 1; (focus (go_simp; ((try with_reducible rfl); done))); simp only [Act.put, List.setIfInBounds_toArray, List.set_cons_zero, List.set_cons_succ])
  refine pl_q1 hO rfl rfl rfl rfl ?_ (fun w' hS => ?_) ?_; rotate_left 1; (focus (obtain ⟨hB, hF⟩ := hS; have c16 := hB.g16; have c34 := hB.g34; have c41 := hB.g41; go_simp; ((try with_reducible rfl); done))); simp only [Act.put, List.setIfInBounds_toArray, List.set_cons_zero, List.set_cons_succ]
  refine pl_p1 hO rfl rfl rfl rfl ?_ (fun w' => ?_) ?_; rotate_left 1; (focus (go_simp; ((try with_reducible rfl); done))); simp only [Act.put, List.setIfInBounds_toArray, List.set_cons_zero, List.set_cons_succ]
  iterate 2 (refine pl_p0 hO rfl rfl ?_ (fun w' => ?_) ?_; rotate_left 1; (focus (go_simp; ((try with_reducible rfl); done))); simp only [Act.put, List.setIfInBounds_toArray, List.set_cons_zero, List.set_cons_succ])
  iterate 6 (refine pl_pn hO rfl rfl rfl rfl ?_; simp only [Act.put, List.setIfInBounds_toArray, List.set_cons_zero, List.set_cons_succ])
  iterate 2 (refine pl_qn hO rfl rfl rfl rfl ?_; simp only [Act.put, List.setIfInBounds_toArray, List.set_cons_zero, List.set_cons_succ])
  refine pl_pn hO rfl rfl rfl rfl ?_; simp only [Act.put, List.setIfInBounds_toArray, List.set_cons_zero, List.set_cons_succ]
  refine pl_p0 hO rfl rfl ?_ (fun w' => ?_) ?_; rotate_left 1; (focus (go_simp; ((try with_reducible rfl); done))); simp only [Act.put, List.setIfInBounds_toArray, List.set_cons_zero, List.set_cons_succ]
  refine pl_nil (hQ' _ _ ?_)
  exact HK.out _ _  ⟨rfl, rfl⟩ (KpU.cons (h0.symm) (KpU.cons (rfl) (KpU.nil _ _))) (rfl) hR1.1 hR1.2
end Go.Proofs.YtcbkaiakdhiloabGreatDoor
