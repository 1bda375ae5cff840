/- Parts of the walk; written by programs, merged. -/
import Derived.Test.YtcbkaiakdhiloabGreatDoorMaa
import Derived.Test.YtcbkaiakdhiloabGreatDoorMab
import Derived.Test.YtcbkaiakdhiloabGreatDoorMad
import Derived.Test.YtcbkaiakdhiloabGreatDoorMae
import Derived.Test.YtcbkaiakdhiloabGreatDoorProg
import Derived.Test.YtcbkaiakdhiloabGreatDoorShelf
import Derived.Test.YtcbkaiakdhiloabGreatDoorRows
import Derived.WalkKit
import Derived.WalkLawsBesides
import Derived.WalkSpells
import Derived.Deep.AppendLies
import Derived.Deep.DrawnRows
import Derived.Maps.AppendAt
import Derived.StillTailTactics
import Derived.Lib.Hide
import Derived.Lib.AppendStr
import Derived.Lib.Strings
import Derived.Laws.MakeOwn
import Derived.Laws.OwnMore
import Derived.Laws.BitsAllLaws
import Derived.Orders
import Derived.Deep.MidRow
import Derived.Deep.DeepMust
import Derived.Deep.RegionHeld3
import Derived.Deep.RegionLaw
import Derived.Deep.LoopGhost
import Derived.Deep.Cut
import Derived.Deep.CutRange
import Derived.Deep.QuietTactic
import Derived.BigQuiet
import Derived.Lib.ConvBytes
import Derived.Lib.LazyBuf
import Derived.Recover
import Derived.OrdersHeld
import Derived.Lib.MapLaws
import Derived.Lib.TrimAscii
import Derived.Lib.LaidTab
import Derived.Lib.ItoaNum
import Derived.Maps.Own
import Derived.Maps.OwnOps
import Derived.Maps.OwnSet
import Derived.Maps.Views
import Derived.Lib.LaidU8T
import Derived.PinnedBridge
import Derived.Maps.RangeWalk
import Derived.Deep.CutBlock
set_option linter.unusedSimpArgs false
set_option linter.unusedVariables false
set_option maxRecDepth 20000
set_option maxHeartbeats 8000000
namespace Go.Proofs.YtcbkaiakdhiloabGreatDoor
open Go.RowKit Go.Proofs Go.Maps
def entC (e : EntD) : Value := .agg #[.int .u8 (e.card.1.toNat : Int), .int .u8 (e.card.2.1.toNat : Int), .int .u8 (e.card.2.2.1.toNat : Int), .int .u8 (e.card.2.2.2.1.toNat : Int), .int .u8 (e.card.2.2.2.2.1.toNat : Int), .int .u8 (e.card.2.2.2.2.2.toNat : Int), .bool e.known, .int .i64 e.due, .int .i64 e.asked, .string (bs e.waits)]
def entDat (e : EntD) : DataW Unit := .agg [.lit (.int .u8 (e.card.1.toNat : Int)), .lit (.int .u8 (e.card.2.1.toNat : Int)), .lit (.int .u8 (e.card.2.2.1.toNat : Int)), .lit (.int .u8 (e.card.2.2.2.1.toNat : Int)), .lit (.int .u8 (e.card.2.2.2.2.1.toNat : Int)), .lit (.int .u8 (e.card.2.2.2.2.2.toNat : Int)), .lit (.bool e.known), .lit (.int .i64 e.due), .lit (.int .i64 e.asked), .lit (.string e.waits)]
def cellD : Value → Option (DataW Unit)
  | .int k n => some (.lit (.int k n))
  | .bool b => some (.lit (.bool b))
  | .string s => some (.lit (.string s.data.toList))
  | _ => none
def cellsD : List Value → Option (List (DataW Unit))
  | [] => some []
  | v :: r => match cellD v, cellsD r with
    | some d, some l => some (d :: l)
    | _, _ => none
theorem cellD_inj {a b : Value} {d : DataW Unit} (ha : cellD a = some d) (hb : cellD b = some d) : a = b := by
  cases a <;> simp only [cellD, Option.some.injEq, reduceCtorEq] at ha <;> cases b <;> simp only [cellD, Option.some.injEq, reduceCtorEq] at hb <;> rw [← hb] at ha <;> simp only [DataW.lit.injEq, Lit.int.injEq, Lit.bool.injEq, Lit.string.injEq, reduceCtorEq] at ha
  · rw [ha]
  · rw [ha.1, ha.2]
  · next s t => 
    have h := congrArg bs ha
    rw [bs_of, bs_of] at h
    rw [h]
theorem cellsD_inj : ∀ {a b : List Value} {l : List (DataW Unit)}, cellsD a = some l → cellsD b = some l → a = b
  | [], [], _, _, _ => rfl
  | [], y :: s, l, ha, hb => by
    simp only [cellsD, Option.some.injEq] at ha; subst ha
    simp only [cellsD] at hb
    split at hb <;> cases hb
  | x :: r, [], l, ha, hb => by
    simp only [cellsD, Option.some.injEq] at hb; subst hb
    simp only [cellsD] at ha
    split at ha <;> cases ha
  | x :: r, y :: s, l, ha, hb => by
    simp only [cellsD] at ha hb
    split at ha
    · next d1 l1 h1 h2 =>
      split at hb
      · next d2 l2 h3 h4 =>
        cases ha
        cases hb
        rw [cellD_inj h1 h3, cellsD_inj h2 h4]
      · cases hb
    · cases ha
def entR : Value → Option (DataW Unit × List MemPlace)
  | .agg cs => (cellsD cs.toList).map fun l => (.agg l, [])
  | _ => none
theorem entR_mk (e : EntD) : entR (entC e) = some (entDat e, []) := by simp [entC, entR, entDat, cellsD, cellD, bs]
theorem entR_inv {v : Value} {e : EntD} {ps : List MemPlace} (h : entR v = some (entDat e, ps)) : v = entC e := by
  cases v <;> simp only [entR, reduceCtorEq] at h
  next cs =>
  rw [Option.map_eq_some_iff] at h
  obtain ⟨l, h1, h2⟩ := h
  injection h2 with h2 _
  have h3 := entR_mk e
  simp only [entC, entR, Option.map_eq_some_iff] at h3
  obtain ⟨l', h4, h5⟩ := h3
  injection h5 with h5 _
  rw [← h5] at h2
  injection h2 with h2
  subst h2
  have := cellsD_inj h1 h4
  unfold entC
  congr 1
  apply Array.ext'
  exact this
def ipL (ip : Nat) : Lit := .int .u32 (ip : Int)
structure Rep (D : DataW Unit) (l : List EntD) : Prop where
  nd : (l.map (·.ip)).Nodup
  lt : ∀ e ∈ l, e.ip < 4294967296
  has : ∀ ip, Maps.has D (ipL ip) = l.any fun e => e.ip == ip
  at_ : ∀ e ∈ l, ∀ z, D.atKey (ipL e.ip) z = entDat e
  size : Maps.size D = l.length
  tidy : Tidy D
def MapAt (w : World) (b : Nat) (l : List EntD) : Prop := ∃ D : DataW Unit, w.ownsMap Tryz.prog 34 entR b l.length D ∧ Rep D l
structure Lay where
  p : Nat
  rx : Nat
  rxs : Nat
  tx : Nat
  txs : Nat
  mp : Nat
  img : Option Addr
  icap : Nat
def Lay.blocks (L : Lay) : List Nat := [L.p, L.rx, L.rxs, L.tx, L.txs, L.mp]
def own' (L : Lay) (b : Nat) : Prop := b ∈ L.blocks ∨ ∃ a, L.img = some a ∧ a.block = b
def bootC (s : St) (L : Lay) : Array Value := #[.int .u8 (s.c.card.1.toNat : Int), .int .u8 (s.c.card.2.1.toNat : Int), .int .u8 (s.c.card.2.2.1.toNat : Int), .int .u8 (s.c.card.2.2.2.1.toNat : Int), .int .u8 (s.c.card.2.2.2.2.1.toNat : Int), .int .u8 (s.c.card.2.2.2.2.2.toNat : Int),
  .string (bs s.c.name), .int .i64 (s.c.cap : Int), .string (bs s.c.digest), .int .i64 (s.c.block : Int), .int .i64 (s.c.window : Int), .int .i64 (s.c.rx : Int), .int .i64 (s.c.tx : Int),
  .pointer (some ⟨L.rx, 0, none⟩), .pointer (some ⟨L.tx, 0, none⟩), .map (some L.mp), .int .i64 s.now, .int .u32 (s.draw : Int), .int .i64 s.boots, .int .i64 s.lost, .int .u16 ((s.id % 65536 : Nat) : Int),
  .int .i64 (s.lease : Int), .int .u32 (s.xid : Int), .int .u32 (s.addr : Int), .int .u32 (s.mask : Int), .int .u32 (s.router : Int), .int .u32 (s.server : Int), .int .u32 (s.source : Int), .int .i64 s.t1, .int .i64 s.t2, .int .i64 s.untl, .int .i64 s.lagain, .int .i64 (s.lsends : Int),
  .int .i64 (s.phase : Int), .int .u16 (s.port : Int), .int .u16 (s.peer : Int), .int .u16 (s.goal : Int), .int .i64 (s.block : Int), .int .i64 (s.wind : Int), .int .u16 ((s.next % 65536 : Nat) : Int), .int .i64 s.came, .int .i64 s.tagain, .int .i64 (s.tsends : Int), .string (bs s.last), .slice L.img s.image.length L.icap]
structure St.Ok (s : St) : Prop where
  rx0 : 0 < s.c.rx
  rx1 : s.c.rx ≤ 16
  tx0 : 0 < s.c.tx
  tx1 : s.c.tx ≤ 16
  draw : s.draw < 4294967296
  xid : s.xid < 4294967296
  addr : s.addr < 4294967296
  mask : s.mask < 4294967296
  router : s.router < 4294967296
  server : s.server < 4294967296
  source : s.source < 4294967296
  lsends : s.lsends ≤ 4
  tsends : s.tsends ≤ 4
  port : s.port < 65536
  peer : s.peer < 65536
  goal : s.goal < 65536
  last : s.last.length ≤ 1472
  name : s.c.name.length ≤ 20
  cap : s.c.cap ≤ 600000
  block : s.c.block ≤ 1024
  window : s.c.window ≤ 8
  blk : s.block ≤ 1024
  wind : s.wind ≤ 8
  next : s.next ≤ s.image.length + 2
  image : s.image.length ≤ s.c.cap
  waits : ∀ e ∈ s.cache, e.waits.length ≤ 1500
  cache : s.cache.length ≤ 4
  now0 : 0 ≤ s.now
  now1 : s.now ≤ 4611686018427387904
  dues : ∀ e ∈ s.cache, 0 ≤ e.due ∧ e.due ≤ 4611686018427388000
def RowG (w : World) (g : Nat) (cs : Array Value) : Prop := g < w.heap.size ∧ ∀ (j : Nat) (u : Value), cs[j]? = some u → w.cell? ⟨g, j, none⟩ = some u
theorem RowG.keep {w w' : World} {S : Nat → Prop} {g : Nat} {cs : Array Value} (h : RowG w g cs) (hf : Fr S w w') (hg : ¬ S g) : RowG w' g cs :=
  ⟨Nat.lt_of_lt_of_le h.1 hf.size, fun j u hu => (hf.cell (a := ⟨g, j, none⟩) h.1 hg).trans (h.2 j u hu)⟩
theorem tab_lt {P : Program} {w : World} {g : Nat} {name : String} {k : IntKind} {zs : List Int} (h : Lib.TabIs P w name k zs) (hn : P.globalNamed name = some g) : g < w.heap.size := by
  unfold Lib.TabIs World.var? at h
  rw [hn] at h
  rcases Nat.lt_or_ge g w.heap.size with h1 | h1
  · exact h1
  · simp [Array.getElem?_eq_none h1] at h
theorem tab_keep {P : Program} {w w' : World} {S : Nat → Prop} {g : Nat} {name : String} {k : IntKind} {zs : List Int} (h : Lib.TabIs P w name k zs) (hn : P.globalNamed name = some g) (hf : Fr S w w') (hg : ¬ S g) : Lib.TabIs P w' name k zs := by
  have hlt := tab_lt h hn
  unfold Lib.TabIs World.var? at h ⊢
  rw [hn] at h ⊢
  simp only [Option.bind_some] at h ⊢
  rw [hf.block g hlt hg]; exact h
theorem gPow : Tryz.prog.globalNamed "internal/strconv.uint64pow10" = some 9 := by kernel_rfl
def glB (b : Nat) : Prop := b = 2 ∨ b = 5 ∨ b = 3 ∨ b = 7 ∨ b = 8 ∨ b = 9
structure Glb (w : World) : Prop where
  all : RowG w 2 #[.int .u8 255, .int .u8 255, .int .u8 255, .int .u8 255, .int .u8 255, .int .u8 255]
  rounds : RU w 5 kTab
  begin : RU w 3 h0.list
  tabs : Tabs w
  pow : Lib.TabIs Tryz.prog w "internal/strconv.uint64pow10" .u64 Lib.pow10Tab
theorem Glb.keep {w w' : World} {S : Nat → Prop} (h : Glb w) (hf : Fr S w w') (hS : ∀ b, glB b → ¬ S b) : Glb w' where
  all := h.all.keep hf (hS _ (.inl rfl))
  rounds := h.rounds.keep hf (hS _ (.inr (.inl rfl)))
  begin := h.begin.keep hf (hS _ (.inr (.inr (.inl rfl))))
  tabs := h.tabs.keep hf (hS _ (.inr (.inr (.inr (.inl rfl))))) (hS _ (.inr (.inr (.inr (.inr (.inl rfl))))))
  pow := tab_keep h.pow gPow hf (hS _ (.inr (.inr (.inr (.inr (.inr rfl))))))
structure BootAt (w : World) (L : Lay) (s : St) : Prop where
  bk : Bk w L.p 102 (bootC s L)
  rx : RingAt w L.rx L.rxs s.c.rx s.rx
  tx : RingAt w L.tx L.txs s.c.tx s.tx
  mp : MapAt w L.mp s.cache
  im : w.ownsRow 0 5 1 (.slice L.img s.image.length L.icap) s.image.length (u8s s.image)
  ne : L.blocks.Nodup
  ni : ∀ a, L.img = some a → a.block ∉ L.blocks
  ok : s.Ok
  gb : Glb w
  gd : ∀ b, own' L b → ¬ glB b
section
variable {w : World} {L : Lay} {s : St}
theorem BootAt.g0 (h : BootAt w L s) : w.cell? ⟨L.p, 0, none⟩ = some (.int .u8 (s.c.card.1.toNat : Int)) := h.bk.cell 0
theorem BootAt.g1 (h : BootAt w L s) : w.cell? ⟨L.p, 1, none⟩ = some (.int .u8 (s.c.card.2.1.toNat : Int)) := h.bk.cell 1
theorem BootAt.g2 (h : BootAt w L s) : w.cell? ⟨L.p, 2, none⟩ = some (.int .u8 (s.c.card.2.2.1.toNat : Int)) := h.bk.cell 2
theorem BootAt.g3 (h : BootAt w L s) : w.cell? ⟨L.p, 3, none⟩ = some (.int .u8 (s.c.card.2.2.2.1.toNat : Int)) := h.bk.cell 3
theorem BootAt.g4 (h : BootAt w L s) : w.cell? ⟨L.p, 4, none⟩ = some (.int .u8 (s.c.card.2.2.2.2.1.toNat : Int)) := h.bk.cell 4
theorem BootAt.g5 (h : BootAt w L s) : w.cell? ⟨L.p, 5, none⟩ = some (.int .u8 (s.c.card.2.2.2.2.2.toNat : Int)) := h.bk.cell 5
theorem BootAt.g14 (h : BootAt w L s) : w.cell? ⟨L.p, 14, none⟩ = some (.pointer (some ⟨L.tx, 0, none⟩)) := h.bk.cell 14
theorem BootAt.g15 (h : BootAt w L s) : w.cell? ⟨L.p, 15, none⟩ = some (.map (some L.mp)) := h.bk.cell 15
theorem BootAt.g16 (h : BootAt w L s) : w.cell? ⟨L.p, 16, none⟩ = some (.int .i64 s.now) := h.bk.cell 16
theorem BootAt.g17 (h : BootAt w L s) : w.cell? ⟨L.p, 17, none⟩ = some (.int .u32 (s.draw : Int)) := h.bk.cell 17
theorem BootAt.g18 (h : BootAt w L s) : w.cell? ⟨L.p, 18, none⟩ = some (.int .i64 s.boots) := h.bk.cell 18
theorem BootAt.g19 (h : BootAt w L s) : w.cell? ⟨L.p, 19, none⟩ = some (.int .i64 s.lost) := h.bk.cell 19
theorem BootAt.g20 (h : BootAt w L s) : w.cell? ⟨L.p, 20, none⟩ = some (.int .u16 ((s.id % 65536 : Nat) : Int)) := h.bk.cell 20
theorem BootAt.g21 (h : BootAt w L s) : w.cell? ⟨L.p, 21, none⟩ = some (.int .i64 (s.lease : Int)) := h.bk.cell 21
theorem BootAt.g22 (h : BootAt w L s) : w.cell? ⟨L.p, 22, none⟩ = some (.int .u32 (s.xid : Int)) := h.bk.cell 22
theorem BootAt.g23 (h : BootAt w L s) : w.cell? ⟨L.p, 23, none⟩ = some (.int .u32 (s.addr : Int)) := h.bk.cell 23
theorem BootAt.g24 (h : BootAt w L s) : w.cell? ⟨L.p, 24, none⟩ = some (.int .u32 (s.mask : Int)) := h.bk.cell 24
theorem BootAt.g25 (h : BootAt w L s) : w.cell? ⟨L.p, 25, none⟩ = some (.int .u32 (s.router : Int)) := h.bk.cell 25
theorem BootAt.g26 (h : BootAt w L s) : w.cell? ⟨L.p, 26, none⟩ = some (.int .u32 (s.server : Int)) := h.bk.cell 26
theorem BootAt.g27 (h : BootAt w L s) : w.cell? ⟨L.p, 27, none⟩ = some (.int .u32 (s.source : Int)) := h.bk.cell 27
theorem BootAt.g28 (h : BootAt w L s) : w.cell? ⟨L.p, 28, none⟩ = some (.int .i64 s.t1) := h.bk.cell 28
theorem BootAt.g29 (h : BootAt w L s) : w.cell? ⟨L.p, 29, none⟩ = some (.int .i64 s.t2) := h.bk.cell 29
theorem BootAt.g30 (h : BootAt w L s) : w.cell? ⟨L.p, 30, none⟩ = some (.int .i64 s.untl) := h.bk.cell 30
theorem BootAt.g31 (h : BootAt w L s) : w.cell? ⟨L.p, 31, none⟩ = some (.int .i64 s.lagain) := h.bk.cell 31
theorem BootAt.g32 (h : BootAt w L s) : w.cell? ⟨L.p, 32, none⟩ = some (.int .i64 (s.lsends : Int)) := h.bk.cell 32
theorem BootAt.g33 (h : BootAt w L s) : w.cell? ⟨L.p, 33, none⟩ = some (.int .i64 (s.phase : Int)) := h.bk.cell 33
theorem BootAt.g34 (h : BootAt w L s) : w.cell? ⟨L.p, 34, none⟩ = some (.int .u16 (s.port : Int)) := h.bk.cell 34
theorem BootAt.g35 (h : BootAt w L s) : w.cell? ⟨L.p, 35, none⟩ = some (.int .u16 (s.peer : Int)) := h.bk.cell 35
theorem BootAt.g36 (h : BootAt w L s) : w.cell? ⟨L.p, 36, none⟩ = some (.int .u16 (s.goal : Int)) := h.bk.cell 36
theorem BootAt.g37 (h : BootAt w L s) : w.cell? ⟨L.p, 37, none⟩ = some (.int .i64 (s.block : Int)) := h.bk.cell 37
theorem BootAt.g38 (h : BootAt w L s) : w.cell? ⟨L.p, 38, none⟩ = some (.int .i64 (s.wind : Int)) := h.bk.cell 38
theorem BootAt.g39 (h : BootAt w L s) : w.cell? ⟨L.p, 39, none⟩ = some (.int .u16 ((s.next % 65536 : Nat) : Int)) := h.bk.cell 39
theorem BootAt.g40 (h : BootAt w L s) : w.cell? ⟨L.p, 40, none⟩ = some (.int .i64 s.came) := h.bk.cell 40
theorem BootAt.g41 (h : BootAt w L s) : w.cell? ⟨L.p, 41, none⟩ = some (.int .i64 s.tagain) := h.bk.cell 41
theorem BootAt.g42 (h : BootAt w L s) : w.cell? ⟨L.p, 42, none⟩ = some (.int .i64 (s.tsends : Int)) := h.bk.cell 42
theorem BootAt.g43 (h : BootAt w L s) : w.cell? ⟨L.p, 43, none⟩ = some (.string (bs s.last)) := h.bk.cell 43
theorem BootAt.g44 (h : BootAt w L s) : w.cell? ⟨L.p, 44, none⟩ = some (.slice L.img s.image.length L.icap) := h.bk.cell 44
theorem BootAt.fr (h : BootAt w L s) : ∀ j, w.frozen? ⟨L.p, j, none⟩ = false := h.bk.frees
end
theorem ownsMap_keep {w w' : World} {S : Nat → Prop} {b n : Nat} {D : DataW Unit} (h : w.ownsMap Tryz.prog 34 entR b n D) (hf : Fr S w w') (hb : ¬ S b) : w'.ownsMap Tryz.prog 34 entR b n D := by
  have hl := h.lt
  obtain ⟨es, cl, h1, h2⟩ := h
  exact ⟨es, cl, (hf.block b hl hb).trans h1, h2⟩
theorem MapAt.keep {w w' : World} {S : Nat → Prop} {b : Nat} {l : List EntD} (h : MapAt w b l) (hf : Fr S w w') (hb : ¬ S b) : MapAt w' b l := by
  obtain ⟨D, h1, h2⟩ := h
  exact ⟨D, ownsMap_keep h1 hf hb, h2⟩
theorem MapAt.lt {w : World} {b : Nat} {l : List EntD} (h : MapAt w b l) : b < w.heap.size := by obtain ⟨D, h1, _⟩ := h; exact h1.lt
theorem row_keep {w w' : World} {S : Nat → Prop} {A : Option Addr} {n c : Nat} {xs : List Value} (h : w.ownsRow 0 5 1 (.slice A n c) n xs) (hf : Fr S w w') (hb : ∀ a, A = some a → ¬ S a.block) : w'.ownsRow 0 5 1 (.slice A n c) n xs := by
  refine ⟨h.1, ?_⟩
  rcases h.2 with h1 | ⟨g, cap, cur, h1, h2, h3, h4⟩
  · exact .inl h1
  · refine .inr ⟨g, cap, cur, h1, h2, ?_, h4⟩
    have hl : g < w.heap.size := by
      rcases Nat.lt_or_ge g w.heap.size with hlt | hge
      · exact hlt
      · rw [Array.getElem?_eq_none hge] at h3; cases h3
    injection h1 with h1
    exact (hf.block g hl (hb _ h1)).trans h3
theorem BootAt.keep {w w' : World} {S : Nat → Prop} {L : Lay} {s : St} (h : BootAt w L s) (hf : Fr S w w') (hS : ∀ b, own' L b → ¬ S b) (hG : ∀ b, glB b → ¬ S b) : BootAt w' L s where
  bk := h.bk.keep hf (hS _ (.inl (by simp [Lay.blocks])))
  rx := h.rx.keep hf (hS _ (.inl (by simp [Lay.blocks]))) (hS _ (.inl (by simp [Lay.blocks])))
  tx := h.tx.keep hf (hS _ (.inl (by simp [Lay.blocks]))) (hS _ (.inl (by simp [Lay.blocks])))
  mp := h.mp.keep hf (hS _ (.inl (by simp [Lay.blocks])))
  im := row_keep h.im hf fun a ha => hS _ (.inr ⟨a, ha, rfl⟩)
  ne := h.ne
  ni := h.ni
  ok := h.ok
  gb := h.gb.keep hf hG
  gd := h.gd
theorem BootAt.none {w w' : World} {L : Lay} {s : St} (h : BootAt w L s) (hf : Fr noB w w') : BootAt w' L s := h.keep hf (fun _ _ x => x) (fun _ _ x => x)
theorem own_p (L : Lay) : own' L L.p := .inl (by simp [Lay.blocks])
theorem own_tx (L : Lay) : own' L L.tx := .inl (by simp [Lay.blocks])
theorem own_txs (L : Lay) : own' L L.txs := .inl (by simp [Lay.blocks])
theorem own_mp (L : Lay) : own' L L.mp := .inl (by simp [Lay.blocks])
theorem BootAt.turn {w w' : World} {L : Lay} {s : St} (s' : St) (h : BootAt w L s) (hf : Fr (oneB L.p) w w') (hb : Bk w' L.p 102 (bootC s' L)) (hc : s'.c = s.c) (hr : s'.rx = s.rx) (ht : s'.tx = s.tx) (hm : s'.cache = s.cache) (hi : s'.image = s.image) (ok : s'.Ok) : BootAt w' L s' := by
  have hn := h.ne
  simp only [Lay.blocks, List.nodup_cons, List.mem_cons, List.not_mem_nil, or_false, not_or] at hn
  obtain ⟨⟨n1, n2, n3, n4, n5⟩, _⟩ := hn
  refine ⟨hb, ?_, ?_, ?_, ?_, h.ne, h.ni, ok, h.gb.keep hf (fun b hb x => h.gd _ (own_p L) (x ▸ hb)), h.gd⟩
  · rw [hc, hr]; exact h.rx.keep hf (fun x => n1 x.symm) (fun x => n2 x.symm)
  · rw [hc, ht]; exact h.tx.keep hf (fun x => n3 x.symm) (fun x => n4 x.symm)
  · rw [hm]; exact h.mp.keep hf (fun x => n5 x.symm)
  · rw [hi]; exact row_keep h.im hf fun a ha x => h.ni a ha (by simp only [Lay.blocks, List.mem_cons]; exact .inl x)
theorem BootAt.txTurn {w w' : World} {L : Lay} {s : St} {q : List (List UInt8)} (h : BootAt w L s) (hf : Fr (fun b => b = L.tx ∨ b = L.txs) w w') (hr : RingAt w' L.tx L.txs s.c.tx q) : BootAt w' L { s with tx := q } := by
  have hn := h.ne
  simp only [Lay.blocks, List.nodup_cons, List.mem_cons, List.not_mem_nil, or_false, not_or] at hn
  obtain ⟨⟨n1, n2, n3, n4, n5⟩, ⟨m2, m3, m4, m5⟩, ⟨k3, k4, k5⟩, ⟨j4, j5⟩, i5, _⟩ := hn
  have ok := h.ok
  refine ⟨h.bk.keep hf (by rintro (x | x); exact n3 x; exact n4 x), h.rx.keep hf (by rintro (x | x); exact m3 x; exact m4 x) (by rintro (x | x); exact k3 x; exact k4 x), hr,
    h.mp.keep hf (by rintro (x | x); exact j5 x.symm; exact i5 x.symm), row_keep h.im hf fun a ha x => h.ni a ha (by simp only [Lay.blocks, List.mem_cons]; rcases x with x | x <;> simp [x]), h.ne, h.ni, { ok with }, h.gb.keep hf (fun b hb x => by rcases x with rfl | rfl; exact h.gd _ (own_tx L) hb; exact h.gd _ (own_txs L) hb), h.gd⟩
def LPost (L : Lay) (s : St) (r : Value) (w : World) (e : Ending) (w' : World) : Prop := e = .returned r ∧ BootAt w' L s ∧ Fr (own' L) w w'
theorem BootAt.drew {w : World} {L : Lay} {s : St} (h : BootAt w L s) : BootAt w.drew L s := h.none ((Fr.refl _ _).drew)
theorem BootAt.lt {w : World} {L : Lay} {s : St} (h : BootAt w L s) : ∀ b, own' L b → b < w.heap.size := by
  intro b hb
  obtain ⟨i, cs, r1, r2, _⟩ := h.rx
  obtain ⟨i', cs', t1, t2, _⟩ := h.tx
  rcases hb with hb | ⟨a, ha, rfl⟩
  · simp only [Lay.blocks, List.mem_cons, List.not_mem_nil, or_false] at hb
    rcases hb with rfl | rfl | rfl | rfl | rfl | rfl
    · exact h.bk.lt
    · exact r1.lt
    · exact r2.lt
    · exact t1.lt
    · exact t2.lt
    · exact h.mp.lt
  · rcases h.im.2 with ⟨h1, _⟩ | ⟨g, cap, cur, h1, _, h3, _⟩
    · injection h1 with h1; rw [ha] at h1; cases h1
    · injection h1 with h1
      rw [ha] at h1; injection h1 with h1; subst h1
      rcases Nat.lt_or_ge g w.heap.size with hlt | hge
      · exact hlt
      · rw [Array.getElem?_eq_none hge] at h3; cases h3
end Go.Proofs.YtcbkaiakdhiloabGreatDoor
namespace Go.Proofs.YtcbkaiakdhiloabGreatDoor
open Go.RowKit Go.Proofs
theorem tab_reads {W : World} {name : String} {k : IntKind} {zs : List Int} {g : Nat} {t e : TypeId} {n : Nat} (hg : Tryz.prog.globalNamed name = some g) (hty : (Tryz.prog.globals[g]?).map (·.type) = some t)
    (ht : Tryz.prog.underlying t = some (.array n e)) (he : Tryz.prog.underlying e = some (.int k)) (hce : Tryz.prog.cellsOf e = 1) (hct : Tryz.prog.cellsOf t = n) (h : Lib.VarReads Tryz.prog W name (Lib.tabData k zs)) : Lib.TabIs Tryz.prog W name k zs := by
  obtain ⟨g', t', cs, fuel, p, hg', ht', hvar, hd⟩ := h
  obtain rfl := Option.some.inj (hg.symm.trans hg')
  obtain rfl := Option.some.inj (hty.symm.trans ht')
  unfold Lib.TabIs
  rw [hvar, ← Lib.cells_of_tab ht he hce hct hd]
theorem cell_ltL {W : World} {g i : Nat} {v : Value} (h : W.cell? ⟨g, i, none⟩ = some v) : g < W.heap.size := by
  rcases Nat.lt_or_ge g W.heap.size with h1 | h1
  · exact h1
  · simp [World.cell?, Array.getElem?_eq_none h1] at h
theorem tab_cell {W : World} {name : String} {k : IntKind} {zs : List Int} {g : Nat} (h : Lib.TabIs Tryz.prog W name k zs) (hg : Tryz.prog.globalNamed name = some g) (i : Nat) (z : Int) (hz : zs[i]? = some z) : W.cell? ⟨g, i, none⟩ = some (.int k z) := by
  have hi : i < zs.length := by
    rcases Nat.lt_or_ge i zs.length with h1 | h1
    · exact h1
    · rw [List.getElem?_eq_none h1] at hz; cases hz
  rw [h.cell hg i hi]
  simp [List.getD, hz]
theorem tab_row {W : World} {name : String} {k : IntKind} {z : Int} {zs : List Int} {g : Nat} (h : Lib.TabIs Tryz.prog W name k (z :: zs)) (hg : Tryz.prog.globalNamed name = some g) : RowG W g ((z :: zs).map (Value.int k)).toArray := by
  refine ⟨cell_ltL (tab_cell h hg 0 z rfl), fun j u hu => ?_⟩
  rw [List.getElem?_toArray, List.getElem?_map, Option.map_eq_some_iff] at hu
  obtain ⟨y, hy, rfl⟩ := hu
  exact tab_cell h hg j y hy
theorem tab_ru {W : World} {name : String} {l : List UInt32} {g : Nat} (h : Lib.TabIs Tryz.prog W name .u32 (l.map fun x => (x.toNat : Int))) (hg : Tryz.prog.globalNamed name = some g) (h0 : l ≠ []) : RU W g l := by
  have key : ∀ (k : Nat) (x : UInt32), l[k]? = some x → W.cell? ⟨g, k, none⟩ = some (.int .u32 (x.toNat : Int)) := fun k x hx => tab_cell h hg k _ (by rw [List.getElem?_map, hx]; rfl)
  obtain ⟨x, r, rfl⟩ := List.exists_cons_of_ne_nil h0
  exact ⟨cell_ltL (key 0 x rfl), key⟩
def u8ren : Go.Shelf.Ren := ⟨fun n => n, fun | 5 => 5 | 119 => 312 | 138 => 314 | 139 => 315 | n => n, fun | 3 => 7 | 4 => 8 | n => n⟩
theorem u8types : U8Types Tryz.prog u8ren := ⟨by kernel_rfl, by kernel_rfl, by kernel_rfl, by kernel_rfl⟩
theorem u8extra : U8Extra Tryz.prog u8ren := ⟨by kernel_rfl, by kernel_rfl, by kernel_rfl, by kernel_rfl, by kernel_rfl, by kernel_rfl, by kernel_rfl⟩
theorem acc_eq : (Rows.laid_unicode_utf8_acceptRanges : DataW Unit) = Lib.acceptData := by kernel_rfl
theorem fst_eq : Rows.laid_unicode_utf8_first = Lib.firstData := Go.Pinned.utf8First_eq
theorem glb_reads {W : World} {l : List (String × DataW Unit)} (h : laidMet Tryz.prog l W) (m1 : ("netboot/packet.All", Rows.laid_netboot_packet_All) ∈ l) (m2 : ("netboot/hash.begin", Rows.laid_netboot_hash_begin) ∈ l) (m3 : ("netboot/hash.rounds", Rows.laid_netboot_hash_rounds) ∈ l)
    (m4 : ("internal/strconv.uint64pow10", Rows.laid_internal_strconv_uint64pow10) ∈ l) (m5 : ("unicode/utf8.acceptRanges", Rows.laid_unicode_utf8_acceptRanges) ∈ l) (m6 : ("unicode/utf8.first", Rows.laid_unicode_utf8_first) ∈ l) : Glb W where
  all := tab_row (z := 255) (zs := [255, 255, 255, 255, 255]) (tab_reads (name := "netboot/packet.All") (g := 2) (t := 23) (e := 5) (n := 6) (by kernel_rfl) (by kernel_rfl) Tryz.underlying23 Tryz.underlying5 (by kernel_rfl) (by kernel_rfl) (Lib.laidMet.reads h m1)) (by kernel_rfl)
  rounds := tab_ru (tab_reads (name := "netboot/hash.rounds") (g := 5) (t := 259) (e := 33) (n := 64) (by kernel_rfl) (by kernel_rfl) Tryz.underlying259 Tryz.underlying33 (by kernel_rfl) (by kernel_rfl) (show Lib.VarReads _ _ _ (Lib.tabData .u32 (kTab.map fun x => (x.toNat : Int))) from (show (Rows.laid_netboot_hash_rounds : DataW Unit) = Lib.tabData .u32 (kTab.map fun x => (x.toNat : Int)) by kernel_rfl) ▸ Lib.laidMet.reads h m3)) (by kernel_rfl) (by decide)
  begin := tab_ru (tab_reads (name := "netboot/hash.begin") (g := 3) (t := 201) (e := 33) (n := 8) (by kernel_rfl) (by kernel_rfl) Tryz.underlying201 Tryz.underlying33 (by kernel_rfl) (by kernel_rfl) (show Lib.VarReads _ _ _ (Lib.tabData .u32 (h0.list.map fun x => (x.toNat : Int))) from (show (Rows.laid_netboot_hash_begin : DataW Unit) = Lib.tabData .u32 (h0.list.map fun x => (x.toNat : Int)) by kernel_rfl) ▸ Lib.laidMet.reads h m2)) (by kernel_rfl) (by decide)
  tabs := utf8Tabs_of_readsT u8types u8extra (fst_eq ▸ Lib.laidMet.reads h m6) (acc_eq ▸ Lib.laidMet.reads h m5)
  pow := tab_reads (g := 9) (t := 325) (e := 202) (n := 20) (by kernel_rfl) (by kernel_rfl) Tryz.underlying325 Tryz.underlying202 (by kernel_rfl) (by kernel_rfl) ((show (Rows.laid_internal_strconv_uint64pow10 : DataW Unit) = Lib.tabData .u64 Lib.pow10Tab by kernel_rfl) ▸ Lib.laidMet.reads h m4)
end Go.Proofs.YtcbkaiakdhiloabGreatDoor
namespace Go.Proofs.YtcbkaiakdhiloabGreatDoor
open Go.RowKit Go.Proofs
attribute [local go_sem] bs_size bs_append bs_extract bs_toList
theorem Fr.ofDrew {w : World} (n : Nat) : Fr noB w (w.drewN n) := (Fr.refl _ _).drewN n
theorem bootWait (L : Lay) (s : St) (k : Nat) (hk : k ≤ 4) (w : World) (h : BootAt w L s) :
    Calls Tryz.prog 47 #[.pointer (some ⟨L.p, 0, none⟩), .int .i64 (k : Int)] w fun e w' => e = .returned (.int .i64 (s.wait k)) ∧ Fr noB w w' := by
  have c17 := h.g17
  have hd := h.ok.draw
  have hw : ∀ k : Nat, s.wait k = ((2 * 2 ^ k + s.draw % 3 : Nat) : Int) - 1 := fun _ => rfl
  rw [hw]
  clear hw
  match k, hk with
  | 0, _ =>
    go_enter Tryz.func47, Tryz.ntmps47
    go_wp2
    go_quiet (fail)
    go_wp2
    go_ret
    exact ⟨by first | rfl | (congr 2; omega), Fr.ofDrew _⟩
  | 1, _ =>
    go_enter Tryz.func47, Tryz.ntmps47
    go_wp2
    go_quiet (fail)
    go_wp2
    go_ret
    exact ⟨by first | rfl | (congr 2; omega), Fr.ofDrew _⟩
  | 2, _ =>
    go_enter Tryz.func47, Tryz.ntmps47
    go_wp2
    go_quiet (fail)
    go_wp2
    go_ret
    exact ⟨by first | rfl | (congr 2; omega), Fr.ofDrew _⟩
  | 3, _ =>
    go_enter Tryz.func47, Tryz.ntmps47
    go_wp2
    go_quiet (fail)
    go_wp2
    go_ret
    exact ⟨by first | rfl | (congr 2; omega), Fr.ofDrew _⟩
  | 4, _ =>
    go_enter Tryz.func47, Tryz.ntmps47
    go_wp2
    go_quiet (fail)
    go_wp2
    go_ret
    exact ⟨by first | rfl | (congr 2; omega), Fr.ofDrew _⟩
theorem bootOver (L : Lay) (s : St) (w : World) (h : BootAt w L s) :
    Calls Tryz.prog 41 #[.pointer (some ⟨L.p, 0, none⟩)] w fun e w' => e = .returned (.bool s.over) ∧ w = w' := by
  have c33 := h.g33
  unfold St.over
  by_cases h3 : s.phase = 3
  · have e3 : (s.phase : Int) = 3 := by omega
    have e4 : (s.phase == 3 || s.phase == 4) = true := by simp [h3]
    rw [e4]
    clear h3 e4
    go_enter Tryz.func41, Tryz.ntmps41
    go_wp2_with fail
    go_ret
    exact ⟨rfl, rfl⟩
  · have e3 : ((s.phase : Int) == 3) = false := by rw [beq_eq_false_iff_ne]; omega
    by_cases h4 : s.phase = 4
    · have e4 : (s.phase : Int) = 4 := by omega
      have e5 : (s.phase == 3 || s.phase == 4) = true := by simp [h4]
      rw [e5]
      clear h3 h4 e5 e3
      go_enter Tryz.func41, Tryz.ntmps41
      go_wp2_with fail
      go_ret
      exact ⟨rfl, rfl⟩
    · have e4 : ((s.phase : Int) == 4) = false := by rw [beq_eq_false_iff_ne]; omega
      have e5 : (s.phase == 3 || s.phase == 4) = false := by simp [h3, h4]
      rw [e5]
      clear h3 h4 e5
      go_enter Tryz.func41, Tryz.ntmps41
      go_wp2_with fail
      go_ret
      exact ⟨rfl, rfl⟩
theorem bootAddress (L : Lay) (s : St) (w : World) (h : BootAt w L s) :
    Calls Tryz.prog 44 #[.pointer (some ⟨L.p, 0, none⟩)] w fun e w' => e = .returned (.int .u32 (s.address : Int)) ∧ w = w' := by
  have c21 := h.g21
  have c23 := h.g23
  unfold St.address
  by_cases h4 : 4 ≤ s.lease
  · have e4 : ¬ (s.lease : Int) < 4 := by omega
    rw [if_pos h4]
    clear h4
    go_enter Tryz.func44, Tryz.ntmps44
    go_wp2_with fail
    go_ret
    exact ⟨rfl, rfl⟩
  · have e4 : (s.lease : Int) < 4 := by omega
    rw [if_neg h4]
    clear h4
    go_enter Tryz.func44, Tryz.ntmps44
    go_wp2_with fail
    go_ret
    exact ⟨rfl, rfl⟩
theorem bootSendL (L : Lay) (s : St) (m0 m1 m2 m3 m4 m5 : UInt8) (kind : Nat) (ld : List UInt8) (w : World) (h : BootAt w L s) (hkd : kind < 65536) (hld : ld.length ≤ 9223372036854775807) :
    Calls Tryz.prog 134 #[.pointer (some ⟨L.p, 0, none⟩), .agg #[.int .u8 (m0.toNat : Int), .int .u8 (m1.toNat : Int), .int .u8 (m2.toNat : Int), .int .u8 (m3.toNat : Int), .int .u8 (m4.toNat : Int), .int .u8 (m5.toNat : Int)], .int .u16 (kind : Int), .string (bs ld)] w (LPost L (s.send (m0, m1, m2, m3, m4, m5) kind ld) (.tuple #[]) w) := by
  have hf1 : Fr noB w (w.alloc (.cells #[.int .u8 (m0.toNat : Int), .int .u8 (m1.toNat : Int), .int .u8 (m2.toNat : Int), .int .u8 (m3.toNat : Int), .int .u8 (m4.toNat : Int), .int .u8 (m5.toNat : Int)] 23)) := (Fr.refl _ _).alloc _
  have hB1 := h.none hf1
  have hg1 := Bk.new w 23 #[.int .u8 (m0.toNat : Int), .int .u8 (m1.toNat : Int), .int .u8 (m2.toNat : Int), .int .u8 (m3.toNat : Int), .int .u8 (m4.toNat : Int), .int .u8 (m5.toNat : Int)]
  obtain ⟨g, hg⟩ : ∃ g, w.heap.size = g := ⟨_, rfl⟩
  rw [hg] at hg1
  have Hg := Lib.hid hg
  clear hg
  go_enter Tryz.func134, Tryz.ntmps134
  go_upto_region 1 with fail
  rw [Hg.out]
  generalize w.alloc (.cells #[.int .u8 (m0.toNat : Int), .int .u8 (m1.toNat : Int), .int .u8 (m2.toNat : Int), .int .u8 (m3.toNat : Int), .int .u8 (m4.toNat : Int), .int .u8 (m5.toNat : Int)] 23) = w1 at *
  refine wp_region_pls (by kernel_rfl) (fun w' => BootAt w' L s ∧ Bk w' g 23 #[.int .u8 (m0.toNat : Int), .int .u8 (m1.toNat : Int), .int .u8 (m2.toNat : Int), .int .u8 (m3.toNat : Int), .int .u8 (m4.toNat : Int), .int .u8 (m5.toNat : Int)] ∧ Fr noB w w') [] (.p 1 (.p 2 (.p 3 (.p 4 (.p 6 (.p 7 (.q 0 (.q 5 (.p 8 (.e 9 (.p 10 (.p 11 (.p 12 (.p 13 (.p 14 .nil))))))))))))))) (by kernel_rfl) (⟨hB1.drew, hg1.drew, hf1.drew⟩) ?_
  intro ops Q' hO hQ' wr1 hR1
  iterate 6 (refine pl_p0 hO rfl rfl ?_ (fun w' => ?_) ?_; rotate_left 1; (focus (go_simp; ((try with_reducible rfl); done))); simp only [Act.put, List.setIfInBounds_toArray, List.set_cons_zero, List.set_cons_succ])
  iterate 2 (refine pl_q0 hO rfl rfl ?_ (fun w' hS => ?_) ?_; rotate_left 1; (focus (obtain ⟨hB, hG, hF⟩ := hS; have hGc := hG.cells; have c0 := hB.g0; have c1 := hB.g1; have c2 := hB.g2; have c3 := hB.g3; have c4 := hB.g4; have c5 := hB.g5; go_simp; ((try with_reducible rfl); done))); simp only [Act.put, List.setIfInBounds_toArray, List.set_cons_zero, List.set_cons_succ])
  refine pl_p0 hO rfl rfl ?_ (fun w' => ?_) ?_; rotate_left 1; (focus (go_simp; ((try with_reducible rfl); done))); simp only [Act.put, List.setIfInBounds_toArray, List.set_cons_zero, List.set_cons_succ]
  refine pl_e0 hO rfl rfl rfl (fun K hK => ?_)
  go_simp
  refine (packetWriteEther kind ld m0 m1 m2 m3 m4 m5 s.c.card.1 s.c.card.2.1 s.c.card.2.2.1 s.c.card.2.2.2.1 s.c.card.2.2.2.2.1 s.c.card.2.2.2.2.2 _ hkd hld).mono ?_
  rintro e w2 ⟨rfl, f2⟩
  refine hK _ _ (⟨hR1.1.none f2, hR1.2.1.keep f2 (fun x => x), hR1.2.2.none f2⟩) (fun hR_9 => ?_)
  clear hK K
  iterate 5 (refine pl_p0 hO rfl rfl ?_ (fun w' => ?_) ?_; rotate_left 1; (focus (go_simp; ((try with_reducible rfl); done))); simp only [Act.put, List.setIfInBounds_toArray, List.set_cons_zero, List.set_cons_succ])
  refine pl_nil (hQ' _ _ ?_)
  obtain ⟨hB2, hg2, hf2⟩ := hR_9
  have c14 := hB2.g14
  clear hR1 hB1 hg1 hf1 f2
  obtain ⟨i, cs, hrr, hrg, hrs, hri, hql, hne, hso⟩ := id hB2.tx
  clear hrr hrg hrs hri hne hso i cs
  have hrp := ringPut L.tx L.txs s.c.tx s.tx (wrEther (m0, m1, m2, m3, m4, m5) s.c.card kind ld).1 w2 hB2.ok.tx0 (by have := hB2.ok.tx1; omega) hB2.tx
  unfold putPost at hrp
  obtain ⟨fb, hfb⟩ : ∃ fb, (wrEther (m0, m1, m2, m3, m4, m5) s.c.card kind ld).1 = fb := ⟨_, rfl⟩
  have hsd : s.send (m0, m1, m2, m3, m4, m5) kind ld = if s.tx.length = s.c.tx then { s with lost := wrap64 (s.lost + 1) } else { s with tx := s.tx ++ [fb] } := by unfold St.send; rw [hfb]
  have Hsd := Lib.hid hsd
  have hfb' : (wrEther (m0, m1, m2, m3, m4, m5) (s.c.card.1, s.c.card.2.1, s.c.card.2.2.1, s.c.card.2.2.2.1, s.c.card.2.2.2.2.1, s.c.card.2.2.2.2.2) kind ld).1 = fb := hfb
  rw [hfb] at hrp
  rw [hfb']
  clear hsd hfb hfb'
  have hF2 : Fr (own' L) w w2 := hf2.of_no _
  by_cases hfull : s.tx.length = s.c.tx
  · have hnl : ¬ s.tx.length < s.c.tx := by omega
    rw [decide_eq_false hnl, if_neg hnl] at hrp
    have Hfull := Lib.hid hfull
    have Hrp := Lib.hid hrp
    clear hrp hnl hfull hql
    go_wp2_with fail
    refine Hrp.out.mono ?_
    rintro e w3 ⟨rfl, hr3, hf3⟩
    have hB3 := hB2.txTurn hf3 hr3
    have hF3 := hF2.trans (hf3.mono fun b _ hb => by rcases hb with rfl | rfl; exact own_tx L; exact own_txs L)
    have c19 := hB3.g19
    have hfz := hB3.fr
    clear c14
    go_wp2_with fail
    refine bodyPost_end (results_none rfl _ _ _) rfl ⟨rfl, ?_, ?_⟩
    · rw [Hsd.out, if_pos Hfull.out]
      exact hB3.turn _ ((Fr.refl (oneB L.p) w3).setCell (p := ⟨L.p, 19, none⟩) (fun _ => rfl) _) (hB3.bk.set 19 _) rfl rfl rfl rfl rfl { hB3.ok with }
    · exact hF3.setCell (p := ⟨L.p, 19, none⟩) (fun _ => own_p L) _
  · have hnl : s.tx.length < s.c.tx := by omega
    rw [decide_eq_true hnl, if_pos hnl] at hrp
    have Hfull := Lib.hid hfull
    have Hrp := Lib.hid hrp
    clear hrp hnl hfull hql
    go_wp2_with fail
    refine Hrp.out.mono ?_
    rintro e w3 ⟨rfl, hr3, hf3⟩
    have hB3 := hB2.txTurn hf3 hr3
    have hF3 := hF2.trans (hf3.mono fun b _ hb => by rcases hb with rfl | rfl; exact own_tx L; exact own_txs L)
    clear c14
    go_wp2_with fail
    exact bodyPost_end (results_none rfl _ _ _) rfl ⟨rfl, by rw [Hsd.out, if_neg Hfull.out]; exact hB3, hF3⟩
end Go.Proofs.YtcbkaiakdhiloabGreatDoor
namespace Go.Proofs.YtcbkaiakdhiloabGreatDoor
open Go.RowKit Go.Proofs
attribute [local go_sem] bs_size bs_append bs_extract bs_toList
theorem wrUDP_len (fm tp fi ti : Nat) (ld : List UInt8) : (wrUDP fm tp fi ti ld).1.length ≤ 1480 := by
  unfold wrUDP
  split
  · simp
  · simp [udpWith, udpA, big_length]; omega
theorem bootPacketL (L : Lay) (s : St) (dst fm port : Nat) (ld : List UInt8) (w : World) (h : BootAt w L s) (hdst : dst < 4294967296) (hfm : fm < 65536) (hport : port < 65536) (hld : ld.length ≤ 4611686018427387000) :
    Calls Tryz.prog 139 #[.pointer (some ⟨L.p, 0, none⟩), .int .u32 (dst : Int), .int .u16 (fm : Int), .int .u16 (port : Int), .string (bs ld)] w (LPost L s.took (.string (bs (s.packet dst fm port ld))) w) := by
  have hadr : s.address < 4294967296 := by unfold St.address; split; exact h.ok.addr; omega
  go_enter Tryz.func139, Tryz.ntmps139
  go_wp2_with fail
  refine (bootAddress L s w h).mono ?_
  rintro e w1 ⟨rfl, rfl⟩
  go_wp2_with fail
  refine (packetWriteUDP fm port s.address dst ld w hfm hport hadr hdst hld).mono ?_
  rintro e w2 ⟨rfl, f2⟩
  have hB2 := h.none f2
  have hF2 : Fr noB w w2 := f2
  have hub := wrUDP_len fm port s.address dst ld
  have hpk : s.packet dst fm port ld = (wrIP (s.id % 65536) 64 17 s.address dst (wrUDP fm port s.address dst ld).1).1 := rfl
  obtain ⟨ub, hube⟩ : ∃ ub, (wrUDP fm port s.address dst ld).1 = ub := ⟨_, rfl⟩
  obtain ⟨idn, hide⟩ : ∃ idn, (s.id % 65536) = idn := ⟨_, rfl⟩
  rw [hube, hide] at hpk
  rw [hube] at hub ⊢
  have hidn : idn < 65536 := by omega
  have hub2 : ub.length ≤ 9223372036854775807 := by omega
  have Hpk := Lib.hid hpk
  have Hide := Lib.hid hide
  clear hpk hube hide
  go_upto_region 2 with fail
  refine wp_region_pls (by kernel_rfl) (fun w' => BootAt w' L s ∧ Fr noB w w') [] (.p 0 (.p 1 (.p 2 (.p 4 (.p 6 (.p 7 (.q 3 (.e 5 (.p 8 (.e 9 (.p 10 (.p 11 (.p 12 (.p 13 (.p 14 .nil))))))))))))))) (by kernel_rfl) (⟨hB2.drew, hF2.drew⟩) ?_
  intro ops Q' hO hQ' wr1 hR1
  iterate 6 (refine pl_p0 hO rfl rfl ?_ (fun w' => ?_) ?_; rotate_left 1; (focus (go_simp; ((try with_reducible rfl); done))); simp only [Act.put, List.setIfInBounds_toArray, List.set_cons_zero, List.set_cons_succ])
  refine pl_q0 hO rfl rfl ?_ (fun w' hS => ?_) ?_; rotate_left 1; (focus (obtain ⟨hB, hF⟩ := hS; have c20 := hB.g20; rw [Hide.out] at c20; go_simp; ((try with_reducible rfl); done))); simp only [Act.put, List.setIfInBounds_toArray, List.set_cons_zero, List.set_cons_succ]
  refine pl_e0 hO rfl rfl rfl (fun K hK => ?_)
  go_simp
  refine (bootAddress L s _ hR1.1).mono ?_
  rintro e w3 ⟨rfl, rfl⟩
  refine hK _ _ (hR1) (fun hR_5 => ?_)
  clear hK K
  refine pl_p0 hO rfl rfl ?_ (fun w' => ?_) ?_; rotate_left 1; (focus (go_simp; ((try with_reducible rfl); done))); simp only [Act.put, List.setIfInBounds_toArray, List.set_cons_zero, List.set_cons_succ]
  refine pl_e0 hO rfl rfl rfl (fun K hK => ?_)
  go_simp
  refine (packetWriteIP idn s.address dst 64 17 ub _ hidn hadr hdst hub2).mono ?_
  rintro e w4 ⟨rfl, f4⟩
  refine hK _ _ (⟨hR_5.1.none f4, hR_5.2.none f4⟩) (fun hR_9 => ?_)
  clear hK K
  iterate 5 (refine pl_p0 hO rfl rfl ?_ (fun w' => ?_) ?_; rotate_left 1; (focus (go_simp; ((try with_reducible rfl); done))); simp only [Act.put, List.setIfInBounds_toArray, List.set_cons_zero, List.set_cons_succ])
  refine pl_nil (hQ' _ _ ?_)
  obtain ⟨hB4, hF4⟩ := hR_9
  have c20 := hB4.g20
  rw [Hide.out] at c20
  have hfz := hB4.fr
  clear hR1 hR_5 f4 hB2 hF2
  go_wp2_with fail
  have hval : IntKind.u16.wrap ((idn : Int) + 1) = (((s.id + 1) % 65536 : Nat) : Int) := by have := Hide.out; rw [IntKind.wrap_u16]; omega
  have e : (bootC s L).setIfInBounds 20 (.int .u16 (IntKind.u16.wrap ((idn : Int) + 1))) = bootC s.took L := by rw [hval]; rfl
  go_ret
  refine ⟨by rw [Hpk.out]; rfl, ?_, ?_⟩
  · exact hB4.turn s.took ((Fr.refl (oneB L.p) w4).setCell (p := ⟨L.p, 20, none⟩) (fun _ => rfl) _) (e ▸ hB4.bk.set 20 _) rfl rfl rfl rfl rfl { hB4.ok with }
  · exact (hF4.of_no _).setCell (p := ⟨L.p, 20, none⟩) (fun _ => own_p L) _
end Go.Proofs.YtcbkaiakdhiloabGreatDoor
namespace Go.Proofs.YtcbkaiakdhiloabGreatDoor
open Go.RowKit Go.Proofs Go.Maps
theorem ipL_inj {a b : Nat} (h : ipL a = ipL b) : a = b := by
  unfold ipL at h
  injection h with _ h
  omega
theorem ipL_key (a : Nat) : WideAt.IsKeyLit (ipL a) := trivial
theorem Rep.nil : Rep (.map [] : DataW Unit) [] := ⟨by simp, by simp, by intro ip; rfl, by simp, rfl, tidy_empty⟩
theorem Rep.perm {D : DataW Unit} {l l' : List EntD} (h : Rep D l) (hp : l.Perm l') : Rep D l' where
  nd := (hp.map _).nodup_iff.1 h.nd
  lt := fun e he => h.lt e (hp.mem_iff.2 he)
  has := fun ip => by
    rw [h.has ip, Bool.eq_iff_iff, List.any_eq_true, List.any_eq_true]
    exact ⟨fun ⟨x, hx, hb⟩ => ⟨x, hp.mem_iff.1 hx, hb⟩, fun ⟨x, hx, hb⟩ => ⟨x, hp.mem_iff.2 hx, hb⟩⟩
  at_ := fun e he => h.at_ e (hp.mem_iff.2 he)
  size := by rw [h.size, hp.length_eq]
  tidy := h.tidy
theorem any_ip (l : List EntD) (ip : Nat) : (l.any fun e => e.ip == ip) = true ↔ ip ∈ l.map (·.ip) := by
  rw [List.any_eq_true, List.mem_map]
  exact ⟨fun ⟨x, hx, hb⟩ => ⟨x, hx, by simpa using hb⟩, fun ⟨x, hx, hb⟩ => ⟨x, hx, by simpa using hb⟩⟩
theorem find_some {l : List EntD} {ip : Nat} {e : EntD} (h : find l ip = some e) : e ∈ l ∧ e.ip = ip := ⟨List.mem_of_find?_eq_some h, by have := List.find?_some h; simpa using this⟩
theorem Rep.old {D : DataW Unit} {l : List EntD} {e : EntD} (h : Rep D l) (hm : e.ip ∈ l.map (·.ip)) : Rep (D.put (ipL e.ip) (entDat e)) (setEnt l e.ip fun _ => e) where
  nd := by
    have : (setEnt l e.ip fun _ => e).map (·.ip) = l.map (·.ip) := by
      unfold setEnt; rw [List.map_map]; apply List.map_congr_left; intro x _; simp only [Function.comp]; split <;> simp_all
    rw [this]; exact h.nd
  lt := fun x hx => by
    unfold setEnt at hx
    obtain ⟨y, hy, rfl⟩ := List.mem_map.1 hx
    split
    · obtain ⟨z, hz, e'⟩ := List.mem_map.1 hm; rw [← e']; exact h.lt z hz
    · exact h.lt y hy
  has := fun ip => by
    have e1 : ((setEnt l e.ip fun _ => e).any fun x => x.ip == ip) = l.any fun x => x.ip == ip := by
      unfold setEnt; rw [List.any_map]; congr 1; funext x; simp only [Function.comp]; split <;> simp_all
    rw [e1]
    by_cases hi : ip = e.ip
    · subst hi; rw [has_put_same h.tidy.isMap (ipL_key _)]; exact ((any_ip l _).2 hm).symm
    · rw [has_put_other (fun x => hi (ipL_inj x)), h.has ip]
  at_ := fun x hx z => by
    unfold setEnt at hx
    obtain ⟨y, hy, rfl⟩ := List.mem_map.1 hx
    split
    · exact atKey_put_same h.tidy.isMap (ipL_key _) _ _
    · next hne => rw [atKey_put_other (fun q => hne (ipL_inj q))]; exact h.at_ y hy z
  size := by
    rw [size_put h.tidy, h.has, if_pos ((any_ip l _).2 hm), h.size]; simp [setEnt]
  tidy := h.tidy.put (ipL_key _) _
theorem Rep.del {D : DataW Unit} {l : List EntD} (h : Rep D l) (ip : Nat) : Rep (D.del (ipL ip)) (l.filter fun e => e.ip != ip) where
  nd := (List.filter_sublist.map _).nodup h.nd
  lt := fun e he => h.lt e (List.mem_filter.1 he).1
  has := fun i => by
    rw [List.any_filter]
    by_cases hi : i = ip
    · subst hi; rw [has_del_same]; symm; rw [List.any_eq_false]; intro x _; simp
    · rw [has_del_other (fun x => hi (ipL_inj x)), h.has i]
      congr 1; funext x
      by_cases hx : x.ip = i
      · simp [hx, hi]
      · simp [hx]
  at_ := fun e he z => by
    have h1 := List.mem_filter.1 he
    have hne : e.ip ≠ ip := by simpa using h1.2
    rw [atKey_del_other (fun x => hne (ipL_inj x))]; exact h.at_ e h1.1 z
  size := by
    have h1 := size_del (k := ipL ip) h.tidy
    rw [h.has, h.size] at h1
    have key : ∀ l : List EntD, (l.map (·.ip)).Nodup → (l.filter fun e => e.ip != ip).length + (if (l.any fun e => e.ip == ip) = true then 1 else 0) = l.length := by
      intro l
      induction l with
      | nil => intro _; rfl
      | cons x r ih =>
        intro hn
        rw [List.map_cons, List.nodup_cons] at hn
        have := ih hn.2
        by_cases hx : x.ip = ip
        · have h0 : (r.any fun e => e.ip == ip) = false := by
            rw [Bool.eq_false_iff]; intro h2; exact hn.1 (hx ▸ (any_ip r ip).1 h2)
          rw [h0] at this
          simp only [List.filter_cons, hx, bne_self_eq_false, Bool.false_eq_true, if_false, List.any_cons, beq_self_eq_true, Bool.true_or, if_true, List.length_cons] at this ⊢
          omega
        · have hb : (x.ip == ip) = false := by simpa using hx
          simp only [List.filter_cons, bne, hb, Bool.not_false, if_true, List.any_cons, Bool.false_or, List.length_cons] at this ⊢
          omega
    have := key l h.nd
    omega
  tidy := h.tidy.del _
theorem tight {w : World} {b n : Nat} {D : DataW Unit} (h : w.ownsMap Tryz.prog 34 entR b n D) : w.ownsMap Tryz.prog 34 entR b (Maps.size D) D := by
  obtain ⟨es, c, h1, h2, h3, h4⟩ := h
  refine ⟨es, c, h1, h2, ?_, h4⟩
  rw [h4]
  show es.size ≤ ((es.toList.map _).foldr DataW.insert []).length
  rw [length_sorted]; simp
theorem MapAt.of {w : World} {b n : Nat} {D : DataW Unit} {l : List EntD} (h : w.ownsMap Tryz.prog 34 entR b n D) (hr : Rep D l) : MapAt w b l := ⟨D, by rw [← hr.size]; exact tight h, hr⟩
/-! the one whose time is up first -/
theorem BootAt.mpTurn {w w' : World} {L : Lay} {s : St} {l : List EntD} (h : BootAt w L s) (hf : Fr (oneB L.mp) w w') (hm : MapAt w' L.mp l) (ok : ({ s with cache := l } : St).Ok) : BootAt w' L { s with cache := l } := by
  have hn := h.ne
  simp only [Lay.blocks, List.nodup_cons, List.mem_cons, List.not_mem_nil, or_false, not_or] at hn
  obtain ⟨⟨n1, n2, n3, n4, n5⟩, ⟨m2, m3, m4, m5⟩, ⟨k3, k4, k5⟩, ⟨j4, j5⟩, i5, _⟩ := hn
  exact ⟨h.bk.keep hf n5, h.rx.keep hf m5 k5, h.tx.keep hf j5 i5, hm, row_keep h.im hf fun a ha x => h.ni a ha (by simp only [Lay.blocks, List.mem_cons]; simp [show a.block = L.mp from x]), h.ne, h.ni, ok,
    h.gb.keep hf (fun b hb x => h.gd _ (own_mp L) (x ▸ hb)), h.gd⟩
end Go.Proofs.YtcbkaiakdhiloabGreatDoor
namespace Go.Proofs.YtcbkaiakdhiloabGreatDoor
open Go.RowKit Go.Proofs Go.Maps
attribute [local go_sem] bs_size bs_append bs_extract bs_toList
theorem cacheK : Keyed Tryz.prog 34 := int_keyed Tryz.underlying34
theorem ipKey {ip : Nat} (h : ip < 4294967296) : keyOf Tryz.prog 34 (.int .u32 (ip : Int)) = some (ipL ip) := keyOf_int_mk Tryz.underlying34 (by simp [Lit.wf, IntKind.min, IntKind.max, IntKind.signed, IntKind.bits]; omega)
end Go.Proofs.YtcbkaiakdhiloabGreatDoor
namespace Go.Proofs.YtcbkaiakdhiloabGreatDoor
open Go.RowKit Go.Proofs Go.Maps
attribute [local go_sem] bs_size bs_append bs_extract bs_toList
def ent0 : EntD := ⟨0, zMac, false, 0, 0, []⟩
theorem zeroEnt (w : World) : (zeroValue 159).run Tryz.prog w = .ok (entC ent0) w := by kernel_rfl
theorem at_some {D : DataW Unit} {l : List EntD} {ip : Nat} {e : EntD} (h : Rep D l) (hf : find l ip = some e) : Maps.has D (ipL ip) = true ∧ D.atKey (ipL ip) (entDat ent0) = entDat e := by
  obtain ⟨h1, rfl⟩ := find_some hf
  exact ⟨by rw [h.has, List.any_eq_true]; exact ⟨e, h1, by simp⟩, h.at_ e h1 _⟩
end Go.Proofs.YtcbkaiakdhiloabGreatDoor
namespace Go.Proofs.YtcbkaiakdhiloabGreatDoor
open Go.RowKit Go.Proofs
attribute [local go_sem] bs_size bs_append bs_extract bs_toList
theorem wrIP_len (id : Nat) (ttl pr : UInt8) (fi ti : Nat) (ld : List UInt8) : (wrIP id ttl pr fi ti ld).1.length ≤ 1500 := by
  unfold wrIP
  split
  · simp
  · split
    · simp
    · simp only [ipBytes, List.length_append, ipHead_length]; omega
theorem packet_len (s : St) (dst fm port : Nat) (ld : List UInt8) : (s.packet dst fm port ld).length ≤ 1500 := wrIP_len _ _ _ _ _ _
end Go.Proofs.YtcbkaiakdhiloabGreatDoor
namespace Go.Proofs.YtcbkaiakdhiloabGreatDoor
open Go.RowKit Go.Proofs
attribute [local go_sem] bs_size bs_append bs_extract bs_toList
theorem cacheLen (cb co b : Nat) (l : List EntD) (w : World) (hc : w.cell? ⟨cb, co, none⟩ = some (.map (some b))) (hm : MapAt w b l) (hl4 : l.length ≤ 4) :
    Calls Tryz.prog 50 #[.pointer (some ⟨cb, co, none⟩)] w fun e w' => e = .returned (.int .i64 (l.length : Int)) ∧ Fr noB w w' := by
  obtain ⟨D, hown, hrep⟩ := hm
  go_enter Tryz.func50, Tryz.ntmps50
  go_wp2_with fail
  rw [hown.len Tryz.underlying93 3, hrep.size]
  go_wp2_with fail
  go_ret
  exact ⟨rfl, Fr.refl _ _⟩
end Go.Proofs.YtcbkaiakdhiloabGreatDoor
namespace Go.Proofs.YtcbkaiakdhiloabGreatDoor
open Go.RowKit Go.Proofs
section
variable {w1 w w' : World} {p B n : Nat} {A : Option Addr} {l l' : List UInt8} {L : Bool} {v : Value} {t : TypeId} {cs : Array Value}
theorem Chn.drew2 (h : Chn w1 p B A l w) : Chn w1 p B A l w.drew := ⟨h.wr.drew, h.row, h.fr.drew, h.eB, h.lt⟩
theorem AlS.drew2 (h : AlS L v n t cs B A w) : AlS L v n t cs B A w.drew := fun hL => by
  obtain ⟨g, h1, h2, h3, h4⟩ := h hL
  exact ⟨g, h1, h2.drew, h3, h4⟩
theorem cell_ltP {w : World} {a : Addr} {v : Value} (h : w.cell? a = some v) : a.block < w.heap.size := by
  rcases Nat.lt_or_ge a.block w.heap.size with h1 | h1
  · exact h1
  · unfold World.cell? at h; rw [Array.getElem?_eq_none h1] at h; cases h
theorem AlS.beside (h : Chn w1 p B A l w) (t : TypeId) (cs : Array Value) : AlS true (.slice (some ⟨w.heap.size, 0, none⟩) 0 0) 0 t cs B A (w.alloc (.cells cs t)) := AlS.new h 0 t cs
end
section
variable {P : Program} {ops : Array Oper} {Q : Exit → Act → World → Prop}
theorem wp_region_ssac_plain {id : Nat} {w : World} (hm : P.follows .mixedOrders = true) (hb : backB ops = true) (hgd : (List.range ops.size).all (fun i => match ops[i]? with | some o => o.guard.isNone | none => true) = true)
    (fr : (Nat → Value) → Act) (Φ : Nat → Value → World → Prop) (G : (Nat → Bool) → (Nat → Value) → World → Prop) (u0 : Nat → Value) (h0 : G (fun _ => false) u0 w)
    (hstep : ∀ L u w i o, Cl ops L → G L u w → (∀ j, L j = true → Φ j (u j) w) → ops[i]? = some o → L i = false → (∀ e ∈ o.after.toList, Region.binds .any e = true → L e.on = true) →
      ∀ K : Act → World → Prop, (∀ v w', Φ i v w' → G (mark L i) (upd u i v) w' → (∀ j x, L j = true → Φ j x w → Φ j x w') → K (fr (upd u i v)) w') → o.wp P (fr u) w K Q)
    (hend : ∀ u w, (∀ i, i < ops.size → Φ i (u i) w) → (∀ L, (∀ i, i < ops.size → L i = true) → G L u w → Q .normal (fr u) w)) : (Code.region id ops false).wp P Q (fr u0) w :=
  wp_region_ssau_plain hm hb hgd fr Φ (fun L u w => Cl ops L ∧ G L u w) u0 ⟨Cl.start ops, h0⟩
    (fun L u w i o hG hΦ ho hL hd K hK => hstep L u w i o hG.1 hG.2 hΦ ho hL hd K fun v w' h1 h2 h3 => hK v w' h1 ⟨hG.1.mark ho hd, h2⟩ h3)
    (fun u w h1 L h2 h3 => hend u w h1 L h2 h3.2)
end
theorem sl_put {a : Act} {n k j : Nat} {v : Value} (h : Sz n a) (hk : k < n) : sl (a.put (some k) v) j = if j = k then v else sl a j := by
  obtain ⟨t, d⟩ := a
  have hs := h.size
  simp only at hs
  unfold sl Act.put
  by_cases e : j = k
  · subst e; simp [hs, hk]
  · simp only [e, if_false]
    by_cases hj : j < t.size
    · simp [Array.getD, hj, Array.getElem_setIfInBounds, e]
      intro x; exact absurd x.symm e
    · simp [Array.getD, hj]
theorem Sz.put {a : Act} {n k : Nat} {v : Value} (h : Sz n a) : Sz n (a.put (some k) v) := ⟨by simpa [Act.put] using h.size, h.defers⟩
theorem foldl_put {n : Nat} {u : Nat → Value} : ∀ (D : List Nat) (a : Act), Sz n a → (∀ k ∈ D, k < n) → Sz n (D.foldl (fun b k => b.put (some k) (u k)) a) ∧ ∀ j, sl (D.foldl (fun b k => b.put (some k) (u k)) a) j = if j ∈ D then u j else sl a j
  | [], a, h, _ => ⟨h, fun j => by simp⟩
  | k :: D, a, h, hD => by
    obtain ⟨h1, h2⟩ := foldl_put (u := u) D (a.put (some k) (u k)) h.put (fun x hx => hD x (by simp [hx]))
    refine ⟨h1, fun j => ?_⟩
    rw [List.foldl_cons, h2 j, sl_put h (hD k (by simp))]
    by_cases hj : j ∈ D
    · simp [hj]
    · by_cases hk : j = k
      · subst hk; simp [hj]
      · simp [hj, hk]
theorem Kp.eq_put {n : Nat} {keep : List Nat} {a a' : Act} (D : List Nat) (h : Sz n a) (h' : Sz n a') (kp : Kp keep a a') (hd : ((List.range n).all fun k => D.contains k || keep.contains k) = true) (hD : (D.all fun k => decide (k < n)) = true) :
    a' = D.foldl (fun b k => b.put (some k) (sl a' k)) a := by
  have hD' : ∀ k ∈ D, k < n := fun k hk => by simpa using List.all_eq_true.1 hD k hk
  obtain ⟨h1, h2⟩ := foldl_put (u := sl a') D a h hD'
  refine h'.eq.trans (Eq.trans ?_ h1.eq.symm)
  unfold frN
  congr 2
  apply List.map_congr_left
  intro k hk
  have hk' : k < n := by simpa using hk
  rw [h2 k]
  split
  · rfl
  · next hnd =>
    have := List.all_eq_true.1 hd k hk
    simp only [Bool.or_eq_true, List.contains_iff_mem] at this
    rcases this with h3 | h3
    · exact absurd h3 hnd
    · exact kp k h3
theorem wp_at {P : Program} {c c' : Code} {Q : Exit → Act → World → Prop} {a : Act} {w : World} (h : c = c') (k : c.wp P Q a w) : c'.wp P Q a w := h ▸ k
end Go.Proofs.YtcbkaiakdhiloabGreatDoor
namespace Go.Proofs.YtcbkaiakdhiloabGreatDoor
open Go.RowKit Go.Proofs
attribute [local go_sem] bs_size bs_append bs_extract bs_toList
theorem bootFour (ip : Nat) (w : World) (hip : ip < 4294967296) :
    Calls Tryz.prog 136 #[.int .u32 (ip : Int)] w fun e w' => e = .returned (.string (bs (big 4 ip))) ∧ Fr noB w w' := by
  have hf0 : Fr noB w ((w.alloc (.cells #[.slice none 0 0] 125)).alloc (.cells #[.int .u32 (ip : Int)] 34)) := ((Fr.refl _ _).alloc _).alloc _
  have hbw := (Bk.new w 125 #[.slice none 0 0]).alloc (.cells #[.int .u32 (ip : Int)] 34)
  have hbs := Bk.new (w.alloc (.cells #[.slice none 0 0] 125)) 34 #[.int .u32 (ip : Int)]
  rw [show (w.alloc (.cells #[.slice none 0 0] 125)).heap.size = w.heap.size + 1 by simp] at hbs
  have hwr := Wr.zero hbw
  have hcall := wIP w.heap.size none [] _ (some ⟨w.heap.size + 1, 0, none⟩) 1 1 [(ip : Int)] hwr (SlR.of_bk hbs (by rintro (h | ⟨a, h, _⟩); omega; cases h) rfl) (by simp; omega) (by decide) (by simp)
  have Hcall := Lib.hid hcall
  clear hcall
  go_enter Tryz.func136, Tryz.ntmps136
  go_wp2_with fail
  refine Hcall.out.mono ?_
  rintro e w2 ⟨rfl, A', hw2, hf2, ha2⟩
  go_wp2_with fail
  refine (wString w.heap.size A' _ w2 hw2).mono ?_
  rintro e w3 ⟨rfl, rfl⟩
  go_wp2_with fail
  go_ret
  refine ⟨by simp [bigs], hf0.trans' hf2 ?_⟩
  rintro b hb (rfl | ⟨a, h, _⟩)
  · exact absurd hb (Nat.lt_irrefl _)
  · cases h
end Go.Proofs.YtcbkaiakdhiloabGreatDoor
namespace Go.Proofs.YtcbkaiakdhiloabGreatDoor
open Go.RowKit Go.Proofs
attribute [local go_sem] bs_size bs_append bs_extract bs_toList
theorem cacheClear (cb co : Nat) (v : Value) (w : World) (hc : w.cell? ⟨cb, co, none⟩ = some v) (hfz : w.frozen? ⟨cb, co, none⟩ = false) :
    Calls Tryz.prog 40 #[.pointer (some ⟨cb, co, none⟩)] w fun e w' => e = .returned (.tuple #[]) ∧ w' = (w.alloc (.map #[] 0)).setCell ⟨cb, co, none⟩ (.map (some w.heap.size)) := by
  have hlt := cell_lt' hc
  have hc2 : (w.alloc (.map #[] 0)).cell? ⟨cb, co, none⟩ = some v := by
    rw [show (w.alloc (.map #[] 0)).cell? ⟨cb, co, none⟩ = w.cell? ⟨cb, co, none⟩ from by unfold World.cell?; rw [Below.heap_alloc w _ cb hlt]]
    exact hc
  have hf2 : (w.alloc (.map #[] 0)).frozen? ⟨cb, co, none⟩ = false := by
    rw [show (w.alloc (.map #[] 0)).frozen? ⟨cb, co, none⟩ = w.frozen? ⟨cb, co, none⟩ from by unfold World.frozen?; rw [Below.heap_alloc w _ cb hlt]]
    exact hfz
  have hmm := @run_makeMap Tryz.prog
  go_enter Tryz.func40, Tryz.ntmps40
  go_wp2_with fail
  exact bodyPost_end (results_none rfl _ _ _) rfl ⟨rfl, rfl⟩
theorem cleared {w : World} {cb co : Nat} (hlt : cb < w.heap.size) : MapAt ((w.alloc (.map #[] 0)).setCell ⟨cb, co, none⟩ (.map (some w.heap.size))) w.heap.size [] := by
  have h1 : MapAt (w.alloc (.map #[] 0)) w.heap.size [] := ⟨_, w.ownsMap_made _ _ _, Rep.nil⟩
  have hf : Fr (oneB cb) (w.alloc (.map #[] 0)) ((w.alloc (.map #[] 0)).setCell ⟨cb, co, none⟩ (.map (some w.heap.size))) := (Fr.refl (oneB cb) (w.alloc (.map #[] 0))).setCell (p := ⟨cb, co, none⟩) (fun _ => rfl) (.map (some w.heap.size))
  exact h1.keep hf (fun x => by have x' : w.heap.size = cb := x; omega)
end Go.Proofs.YtcbkaiakdhiloabGreatDoor
namespace Go.Proofs.YtcbkaiakdhiloabGreatDoor
open Go.RowKit Go.Proofs
attribute [local go_sem] bs_size bs_append bs_extract bs_toList
theorem glb_lt {w : World} (h : Glb w) : ∀ b, glB b → b < w.heap.size := by
  rintro b (rfl | rfl | rfl | rfl | rfl | rfl)
  · exact h.all.1
  · exact h.rounds.1
  · exact h.begin.1
  · exact h.tabs.lt.1
  · exact h.tabs.lt.2
  · exact tab_lt h.pow gPow
def LPost2 (L : Lay) (s : St) (r : Value) (w : World) (e : Ending) (w' : World) : Prop := e = .returned r ∧ ∃ L' : Lay, L'.p = L.p ∧ (∀ b, own' L' b → own' L b ∨ w.heap.size ≤ b) ∧ BootAt w' L' s ∧ Fr (own' L) w w'
theorem LPost.two {L : Lay} {s : St} {r : Value} {w w' : World} {e : Ending} (h : LPost L s r w e w') : LPost2 L s r w e w' := ⟨h.1, L, rfl, fun b hb => .inl hb, h.2⟩
theorem LPost2.comp {L L1 : Lay} {s : St} {r : Value} {w w1 w' : World} {e : Ending} (hp : L1.p = L.p) (ho : ∀ b, own' L1 b → own' L b ∨ w.heap.size ≤ b) (hf : Fr (own' L) w w1) (h : LPost2 L1 s r w1 e w') : LPost2 L s r w e w' := by
  obtain ⟨h1, L', h2, h3, h4, h5⟩ := h
  refine ⟨h1, L', h2.trans hp, fun b hb => ?_, h4, hf.trans' h5 fun b hb hx => ?_⟩
  · rcases h3 b hb with h | h
    · exact ho b h
    · exact .inr (Nat.le_trans hf.size h)
  · rcases ho b hx with h | h
    · exact h
    · omega
theorem drop_ok {s : St} (h : s.Ok) : s.drop.Ok where
  rx0 := h.rx0
  rx1 := h.rx1
  tx0 := h.tx0
  tx1 := h.tx1
  draw := h.draw
  xid := by simp [St.drop]
  addr := by simp [St.drop]
  mask := by simp [St.drop]
  router := by simp [St.drop]
  server := by simp [St.drop]
  source := by simp [St.drop]
  lsends := by simp [St.drop]
  tsends := by simp [St.drop]
  port := by simp [St.drop]
  peer := by simp [St.drop]
  goal := by simp [St.drop]
  last := by simp [St.drop]
  name := h.name
  cap := h.cap
  block := h.block
  window := h.window
  blk := by simp [St.drop]
  wind := by simp [St.drop]
  next := by simp [St.drop]
  image := by simp [St.drop]
  waits := by simp [St.drop]
  cache := by simp [St.drop]
  now0 := h.now0
  now1 := h.now1
  dues := by simp [St.drop]
theorem bootDropL (L : Lay) (s : St) (w : World) (h : BootAt w L s) :
    Calls Tryz.prog 93 #[.pointer (some ⟨L.p, 0, none⟩)] w (LPost2 L s.drop (.tuple #[]) w) := by
  obtain ⟨w1, hw1⟩ : ∃ w1, ((((((((((((((((((((((((w.setCell ⟨L.p, 21, none⟩ (.int .i64 0)).setCell ⟨L.p, 22, none⟩ (.int .u32 0)).setCell ⟨L.p, 23, none⟩ (.int .u32 0)).setCell ⟨L.p, 24, none⟩ (.int .u32 0)).setCell ⟨L.p, 25, none⟩ (.int .u32 0)).setCell ⟨L.p, 26, none⟩ (.int .u32 0)).setCell ⟨L.p, 27, none⟩ (.int .u32 0)).setCell ⟨L.p, 28, none⟩ (.int .i64 0)).setCell ⟨L.p, 29, none⟩ (.int .i64 0)).setCell ⟨L.p, 30, none⟩ (.int .i64 0)).setCell ⟨L.p, 31, none⟩ (.int .i64 0)).setCell ⟨L.p, 32, none⟩ (.int .i64 0)).setCell ⟨L.p, 33, none⟩ (.int .i64 0)).setCell ⟨L.p, 34, none⟩ (.int .u16 0)).setCell ⟨L.p, 35, none⟩ (.int .u16 0)).setCell ⟨L.p, 36, none⟩ (.int .u16 0)).setCell ⟨L.p, 37, none⟩ (.int .i64 0)).setCell ⟨L.p, 38, none⟩ (.int .i64 0)).setCell ⟨L.p, 39, none⟩ (.int .u16 0)).setCell ⟨L.p, 40, none⟩ (.int .i64 0)).setCell ⟨L.p, 41, none⟩ (.int .i64 0)).setCell ⟨L.p, 42, none⟩ (.int .i64 0)).setCell ⟨L.p, 43, none⟩ (.string ⟨#[]⟩)).setCell ⟨L.p, 44, none⟩ (.slice none 0 0)) = w1 := ⟨_, rfl⟩
  have hce0 : (((((((((((((((((((((((((bootC s L).setIfInBounds 21 (.int .i64 0)).setIfInBounds 22 (.int .u32 0)).setIfInBounds 23 (.int .u32 0)).setIfInBounds 24 (.int .u32 0)).setIfInBounds 25 (.int .u32 0)).setIfInBounds 26 (.int .u32 0)).setIfInBounds 27 (.int .u32 0)).setIfInBounds 28 (.int .i64 0)).setIfInBounds 29 (.int .i64 0)).setIfInBounds 30 (.int .i64 0)).setIfInBounds 31 (.int .i64 0)).setIfInBounds 32 (.int .i64 0)).setIfInBounds 33 (.int .i64 0)).setIfInBounds 34 (.int .u16 0)).setIfInBounds 35 (.int .u16 0)).setIfInBounds 36 (.int .u16 0)).setIfInBounds 37 (.int .i64 0)).setIfInBounds 38 (.int .i64 0)).setIfInBounds 39 (.int .u16 0)).setIfInBounds 40 (.int .i64 0)).setIfInBounds 41 (.int .i64 0)).setIfInBounds 42 (.int .i64 0)).setIfInBounds 43 (.string ⟨#[]⟩)).setIfInBounds 44 (.slice none 0 0)) = bootC s.drop { L with img := none, icap := 0 } := by
    unfold bootC
    simp only [List.setIfInBounds_toArray, List.set_cons_zero, List.set_cons_succ]
    rfl
  have hb1 : Bk w1 L.p 102 (bootC s.drop { L with img := none, icap := 0 }) := by rw [← hw1, ← hce0]; exact ((((((((((((((((((((((((h.bk.set 21 (.int .i64 0)).set 22 (.int .u32 0)).set 23 (.int .u32 0)).set 24 (.int .u32 0)).set 25 (.int .u32 0)).set 26 (.int .u32 0)).set 27 (.int .u32 0)).set 28 (.int .i64 0)).set 29 (.int .i64 0)).set 30 (.int .i64 0)).set 31 (.int .i64 0)).set 32 (.int .i64 0)).set 33 (.int .i64 0)).set 34 (.int .u16 0)).set 35 (.int .u16 0)).set 36 (.int .u16 0)).set 37 (.int .i64 0)).set 38 (.int .i64 0)).set 39 (.int .u16 0)).set 40 (.int .i64 0)).set 41 (.int .i64 0)).set 42 (.int .i64 0)).set 43 (.string ⟨#[]⟩)).set 44 (.slice none 0 0))
  clear hce0
  have hf1 : Fr (oneB L.p) w w1 := by rw [← hw1]; exact (((((((((((((((((((((((((Fr.refl (oneB L.p) w).setCell (p := ⟨L.p, 21, none⟩) (fun _ => rfl) (.int .i64 0)).setCell (p := ⟨L.p, 22, none⟩) (fun _ => rfl) (.int .u32 0)).setCell (p := ⟨L.p, 23, none⟩) (fun _ => rfl) (.int .u32 0)).setCell (p := ⟨L.p, 24, none⟩) (fun _ => rfl) (.int .u32 0)).setCell (p := ⟨L.p, 25, none⟩) (fun _ => rfl) (.int .u32 0)).setCell (p := ⟨L.p, 26, none⟩) (fun _ => rfl) (.int .u32 0)).setCell (p := ⟨L.p, 27, none⟩) (fun _ => rfl) (.int .u32 0)).setCell (p := ⟨L.p, 28, none⟩) (fun _ => rfl) (.int .i64 0)).setCell (p := ⟨L.p, 29, none⟩) (fun _ => rfl) (.int .i64 0)).setCell (p := ⟨L.p, 30, none⟩) (fun _ => rfl) (.int .i64 0)).setCell (p := ⟨L.p, 31, none⟩) (fun _ => rfl) (.int .i64 0)).setCell (p := ⟨L.p, 32, none⟩) (fun _ => rfl) (.int .i64 0)).setCell (p := ⟨L.p, 33, none⟩) (fun _ => rfl) (.int .i64 0)).setCell (p := ⟨L.p, 34, none⟩) (fun _ => rfl) (.int .u16 0)).setCell (p := ⟨L.p, 35, none⟩) (fun _ => rfl) (.int .u16 0)).setCell (p := ⟨L.p, 36, none⟩) (fun _ => rfl) (.int .u16 0)).setCell (p := ⟨L.p, 37, none⟩) (fun _ => rfl) (.int .i64 0)).setCell (p := ⟨L.p, 38, none⟩) (fun _ => rfl) (.int .i64 0)).setCell (p := ⟨L.p, 39, none⟩) (fun _ => rfl) (.int .u16 0)).setCell (p := ⟨L.p, 40, none⟩) (fun _ => rfl) (.int .i64 0)).setCell (p := ⟨L.p, 41, none⟩) (fun _ => rfl) (.int .i64 0)).setCell (p := ⟨L.p, 42, none⟩) (fun _ => rfl) (.int .i64 0)).setCell (p := ⟨L.p, 43, none⟩) (fun _ => rfl) (.string ⟨#[]⟩)).setCell (p := ⟨L.p, 44, none⟩) (fun _ => rfl) (.slice none 0 0))
  have Hw1 := Lib.hid hw1
  clear hw1
  have hlt := h.lt
  have c21 := h.g21
  have c22 := h.g22
  have c23 := h.g23
  have c24 := h.g24
  have c25 := h.g25
  have c26 := h.g26
  have c27 := h.g27
  have c28 := h.g28
  have c29 := h.g29
  have c30 := h.g30
  have c31 := h.g31
  have c32 := h.g32
  have c33 := h.g33
  have c34 := h.g34
  have c35 := h.g35
  have c36 := h.g36
  have c37 := h.g37
  have c38 := h.g38
  have c39 := h.g39
  have c40 := h.g40
  have c41 := h.g41
  have c42 := h.g42
  have c43 := h.g43
  have c44 := h.g44
  have hfz := h.fr
  have hcall := cacheClear L.p 15 (.map (some L.mp)) w1 (hb1.cell 15) (hb1.free 15)
  have Hcall := Lib.hid hcall
  clear hcall
  go_enter Tryz.func93, Tryz.ntmps93
  go_wp2_with fail
  rw [Hw1.out]
  refine Hcall.out.mono ?_
  rintro e w3 ⟨rfl, rfl⟩
  have hfr : Fr (oneB L.p) w ((w1.alloc (.map #[] 0)).setCell ⟨L.p, 15, none⟩ (.map (some w1.heap.size))) := (hf1.alloc _).setCell (p := ⟨L.p, 15, none⟩) (fun _ => rfl) _
  have hpl : L.p < w1.heap.size := hb1.lt
  have hmp := cleared (w := w1) (cb := L.p) (co := 15) hpl
  have hbk : Bk ((w1.alloc (.map #[] 0)).setCell ⟨L.p, 15, none⟩ (.map (some w1.heap.size))) L.p 102 (bootC s.drop ⟨L.p, L.rx, L.rxs, L.tx, L.txs, w1.heap.size, none, 0⟩) := (hb1.alloc _).set 15 _
  generalize hw3 : (w1.alloc (.map #[] 0)).setCell ⟨L.p, 15, none⟩ (.map (some w1.heap.size)) = w3 at *
  have hs1 := hf1.size
  have hn := h.ne
  have hgl := glb_lt h.gb
  have q0 := hlt _ (.inl (show L.p ∈ L.blocks by simp [Lay.blocks]))
  have q1 := hlt _ (.inl (show L.rx ∈ L.blocks by simp [Lay.blocks]))
  have q2 := hlt _ (.inl (show L.rxs ∈ L.blocks by simp [Lay.blocks]))
  have q3 := hlt _ (.inl (show L.tx ∈ L.blocks by simp [Lay.blocks]))
  have q4 := hlt _ (.inl (show L.txs ∈ L.blocks by simp [Lay.blocks]))
  simp only [Lay.blocks, List.nodup_cons, List.mem_cons, List.not_mem_nil, or_false, not_or] at hn
  obtain ⟨⟨n1, n2, n3, n4, n5⟩, ⟨m2, m3, m4, m5⟩, ⟨k3, k4, k5⟩, ⟨j4, j5⟩, i5, _⟩ := hn
  have hown : ∀ b, own' ⟨L.p, L.rx, L.rxs, L.tx, L.txs, w1.heap.size, none, 0⟩ b → (own' L b ∨ b = w1.heap.size) := by
    rintro b (hb | ⟨a, ha, _⟩)
    · simp only [Lay.blocks, List.mem_cons, List.not_mem_nil, or_false] at hb
      rcases hb with rfl | rfl | rfl | rfl | rfl | rfl
      · exact .inl (.inl (by simp [Lay.blocks]))
      · exact .inl (.inl (by simp [Lay.blocks]))
      · exact .inl (.inl (by simp [Lay.blocks]))
      · exact .inl (.inl (by simp [Lay.blocks]))
      · exact .inl (.inl (by simp [Lay.blocks]))
      · exact .inr rfl
    · cases ha
  go_wp2_with fail
  refine bodyPost_end (results_none rfl _ _ _) rfl ⟨rfl, ⟨L.p, L.rx, L.rxs, L.tx, L.txs, w1.heap.size, none, 0⟩, rfl, fun b hb => ?_, ?_, hfr.mono fun b _ hb => by obtain rfl : b = L.p := hb; exact own_p L⟩
  · rcases hown b hb with hb | rfl
    · exact .inl hb
    · exact .inr hs1
  · refine ⟨hbk, h.rx.keep hfr (fun x => n1 x.symm) (fun x => n2 x.symm), h.tx.keep hfr (fun x => n3 x.symm) (fun x => n4 x.symm), hmp, ⟨by simp [u8s, St.drop], .inl ⟨rfl, rfl⟩⟩, ?_, (fun a ha => by cases ha), drop_ok h.ok, h.gb.keep hfr (fun b hb x => h.gd _ (own_p L) (x ▸ hb)), fun b hb => ?_⟩
    · simp only [Lay.blocks, List.nodup_cons, List.mem_cons, List.not_mem_nil, or_false, not_or]
      exact ⟨⟨n1, n2, n3, n4, by omega⟩, ⟨m2, m3, m4, by omega⟩, ⟨k3, k4, by omega⟩, ⟨j4, by omega⟩, by omega, by simp⟩
    · rcases hown b hb with hb | rfl
      · exact h.gd b hb
      · intro hx; have := hgl _ hx; omega
end Go.Proofs.YtcbkaiakdhiloabGreatDoor
