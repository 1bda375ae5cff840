/- Parts of the walk; written by programs, merged. -/
import Derived.Test.YtcbkaiakdhiloabGreatDoorRaf
import Derived.Lib.LaidTab
import Derived.Lib.ItoaNum
import Derived.Maps.Own
import Derived.Maps.OwnOps
import Derived.Maps.OwnSet
import Derived.Maps.Views
import Derived.Lib.LaidU8T
import Derived.PinnedBridge
import Derived.Maps.RangeWalk
set_option linter.unusedSimpArgs false
set_option linter.unusedVariables false
set_option maxRecDepth 20000
set_option maxHeartbeats 8000000
namespace Go.Proofs.YtcbkaiakdhiloabGreatDoor
open Go.RowKit Go.Proofs Go.Maps
def entC (e : EntD) : Value := .agg #[.int .u8 (e.card.1.toNat : Int), .int .u8 (e.card.2.1.toNat : Int), .int .u8 (e.card.2.2.1.toNat : Int), .int .u8 (e.card.2.2.2.1.toNat : Int), .int .u8 (e.card.2.2.2.2.1.toNat : Int), .int .u8 (e.card.2.2.2.2.2.toNat : Int), .bool e.known, .int .i64 e.due, .int .i64 e.asked, .string (bs e.waits)]
def entDat (e : EntD) : DataW Unit := .agg [.lit (.int .u8 (e.card.1.toNat : Int)), .lit (.int .u8 (e.card.2.1.toNat : Int)), .lit (.int .u8 (e.card.2.2.1.toNat : Int)), .lit (.int .u8 (e.card.2.2.2.1.toNat : Int)), .lit (.int .u8 (e.card.2.2.2.2.1.toNat : Int)), .lit (.int .u8 (e.card.2.2.2.2.2.toNat : Int)), .lit (.bool e.known), .lit (.int .i64 e.due), .lit (.int .i64 e.asked), .lit (.string e.waits)]
def cellD : Value → Option (DataW Unit)
  | .int k n => some (.lit (.int k n))
  | .bool b => some (.lit (.bool b))
  | .string s => some (.lit (.string s.data.toList))
  | _ => none
def cellsD : List Value → Option (List (DataW Unit))
  | [] => some []
  | v :: r => match cellD v, cellsD r with
    | some d, some l => some (d :: l)
    | _, _ => none
theorem cellD_inj {a b : Value} {d : DataW Unit} (ha : cellD a = some d) (hb : cellD b = some d) : a = b := by
  cases a <;> simp only [cellD, Option.some.injEq, reduceCtorEq] at ha <;> cases b <;> simp only [cellD, Option.some.injEq, reduceCtorEq] at hb <;> rw [← hb] at ha <;> simp only [DataW.lit.injEq, Lit.int.injEq, Lit.bool.injEq, Lit.string.injEq, reduceCtorEq] at ha
  · rw [ha]
  · rw [ha.1, ha.2]
  · next s t => 
    have h := congrArg bs ha
    rw [bs_of, bs_of] at h
    rw [h]
theorem cellsD_inj : ∀ {a b : List Value} {l : List (DataW Unit)}, cellsD a = some l → cellsD b = some l → a = b
  | [], [], _, _, _ => rfl
  | [], y :: s, l, ha, hb => by
    simp only [cellsD, Option.some.injEq] at ha; subst ha
    simp only [cellsD] at hb
    split at hb <;> cases hb
  | x :: r, [], l, ha, hb => by
    simp only [cellsD, Option.some.injEq] at hb; subst hb
    simp only [cellsD] at ha
    split at ha <;> cases ha
  | x :: r, y :: s, l, ha, hb => by
    simp only [cellsD] at ha hb
    split at ha
    · next d1 l1 h1 h2 =>
      split at hb
      · next d2 l2 h3 h4 =>
        cases ha
        cases hb
        rw [cellD_inj h1 h3, cellsD_inj h2 h4]
      · cases hb
    · cases ha
def entR : Value → Option (DataW Unit × List MemPlace)
  | .agg cs => (cellsD cs.toList).map fun l => (.agg l, [])
  | _ => none
theorem entR_mk (e : EntD) : entR (entC e) = some (entDat e, []) := by simp [entC, entR, entDat, cellsD, cellD, bs]
theorem entR_inv {v : Value} {e : EntD} {ps : List MemPlace} (h : entR v = some (entDat e, ps)) : v = entC e := by
  cases v <;> simp only [entR, reduceCtorEq] at h
  next cs =>
  rw [Option.map_eq_some_iff] at h
  obtain ⟨l, h1, h2⟩ := h
  injection h2 with h2 _
  have h3 := entR_mk e
  simp only [entC, entR, Option.map_eq_some_iff] at h3
  obtain ⟨l', h4, h5⟩ := h3
  injection h5 with h5 _
  rw [← h5] at h2
  injection h2 with h2
  subst h2
  have := cellsD_inj h1 h4
  unfold entC
  congr 1
  apply Array.ext'
  exact this
def ipL (ip : Nat) : Lit := .int .u32 (ip : Int)
structure Rep (D : DataW Unit) (l : List EntD) : Prop where
  nd : (l.map (·.ip)).Nodup
  lt : ∀ e ∈ l, e.ip < 4294967296
  has : ∀ ip, Maps.has D (ipL ip) = l.any fun e => e.ip == ip
  at_ : ∀ e ∈ l, ∀ z, D.atKey (ipL e.ip) z = entDat e
  size : Maps.size D = l.length
  tidy : Tidy D
def MapAt (w : World) (b : Nat) (l : List EntD) : Prop := ∃ D : DataW Unit, w.ownsMap Tryz.prog 34 entR b l.length D ∧ Rep D l
structure Lay where
  p : Nat
  rx : Nat
  rxs : Nat
  tx : Nat
  txs : Nat
  mp : Nat
  img : Option Addr
  icap : Nat
def Lay.blocks (L : Lay) : List Nat := [L.p, L.rx, L.rxs, L.tx, L.txs, L.mp]
def own' (L : Lay) (b : Nat) : Prop := b ∈ L.blocks ∨ ∃ a, L.img = some a ∧ a.block = b
def bootC (s : St) (L : Lay) : Array Value := #[.int .u8 (s.c.card.1.toNat : Int), .int .u8 (s.c.card.2.1.toNat : Int), .int .u8 (s.c.card.2.2.1.toNat : Int), .int .u8 (s.c.card.2.2.2.1.toNat : Int), .int .u8 (s.c.card.2.2.2.2.1.toNat : Int), .int .u8 (s.c.card.2.2.2.2.2.toNat : Int),
  .string (bs s.c.name), .int .i64 (s.c.cap : Int), .string (bs s.c.digest), .int .i64 (s.c.block : Int), .int .i64 (s.c.window : Int), .int .i64 (s.c.rx : Int), .int .i64 (s.c.tx : Int),
  .pointer (some ⟨L.rx, 0, none⟩), .pointer (some ⟨L.tx, 0, none⟩), .map (some L.mp), .int .i64 s.now, .int .u32 (s.draw : Int), .int .i64 s.boots, .int .i64 s.lost, .int .u16 ((s.id % 65536 : Nat) : Int),
  .int .i64 (s.lease : Int), .int .u32 (s.xid : Int), .int .u32 (s.addr : Int), .int .u32 (s.mask : Int), .int .u32 (s.router : Int), .int .u32 (s.server : Int), .int .u32 (s.source : Int), .int .i64 s.t1, .int .i64 s.t2, .int .i64 s.untl, .int .i64 s.lagain, .int .i64 (s.lsends : Int),
  .int .i64 (s.phase : Int), .int .u16 (s.port : Int), .int .u16 (s.peer : Int), .int .u16 (s.goal : Int), .int .i64 (s.block : Int), .int .i64 (s.wind : Int), .int .u16 ((s.next % 65536 : Nat) : Int), .int .i64 s.came, .int .i64 s.tagain, .int .i64 (s.tsends : Int), .string (bs s.last), .slice L.img s.image.length L.icap]
structure St.Ok (s : St) : Prop where
  rx0 : 0 < s.c.rx
  rx1 : s.c.rx ≤ 16
  tx0 : 0 < s.c.tx
  tx1 : s.c.tx ≤ 16
  draw : s.draw < 4294967296
  xid : s.xid < 4294967296
  addr : s.addr < 4294967296
  mask : s.mask < 4294967296
  router : s.router < 4294967296
  server : s.server < 4294967296
  source : s.source < 4294967296
  lsends : s.lsends ≤ 4
  tsends : s.tsends ≤ 4
  port : s.port < 65536
  peer : s.peer < 65536
  goal : s.goal < 65536
  last : s.last.length ≤ 1472
  name : s.c.name.length ≤ 20
  cap : s.c.cap ≤ 600000
  block : s.c.block ≤ 1024
  window : s.c.window ≤ 8
  blk : s.block ≤ 1024
  wind : s.wind ≤ 8
  next : s.next ≤ s.image.length + 2
  image : s.image.length ≤ s.c.cap
  waits : ∀ e ∈ s.cache, e.waits.length ≤ 1500
  cache : s.cache.length ≤ 4
  now0 : 0 ≤ s.now
  now1 : s.now ≤ 4611686018427387904
  dues : ∀ e ∈ s.cache, 0 ≤ e.due ∧ e.due ≤ 4611686018427388000
def RowG (w : World) (g : Nat) (cs : Array Value) : Prop := g < w.heap.size ∧ ∀ (j : Nat) (u : Value), cs[j]? = some u → w.cell? ⟨g, j, none⟩ = some u
theorem RowG.keep {w w' : World} {S : Nat → Prop} {g : Nat} {cs : Array Value} (h : RowG w g cs) (hf : Fr S w w') (hg : ¬ S g) : RowG w' g cs :=
  ⟨Nat.lt_of_lt_of_le h.1 hf.size, fun j u hu => (hf.cell (a := ⟨g, j, none⟩) h.1 hg).trans (h.2 j u hu)⟩
theorem tab_lt {P : Program} {w : World} {g : Nat} {name : String} {k : IntKind} {zs : List Int} (h : Lib.TabIs P w name k zs) (hn : P.globalNamed name = some g) : g < w.heap.size := by
  unfold Lib.TabIs World.var? at h
  rw [hn] at h
  rcases Nat.lt_or_ge g w.heap.size with h1 | h1
  · exact h1
  · simp [Array.getElem?_eq_none h1] at h
theorem tab_keep {P : Program} {w w' : World} {S : Nat → Prop} {g : Nat} {name : String} {k : IntKind} {zs : List Int} (h : Lib.TabIs P w name k zs) (hn : P.globalNamed name = some g) (hf : Fr S w w') (hg : ¬ S g) : Lib.TabIs P w' name k zs := by
  have hlt := tab_lt h hn
  unfold Lib.TabIs World.var? at h ⊢
  rw [hn] at h ⊢
  simp only [Option.bind_some] at h ⊢
  rw [hf.block g hlt hg]; exact h
theorem gPow : Tryz.prog.globalNamed "internal/strconv.uint64pow10" = some 9 := by kernel_rfl
def glB (b : Nat) : Prop := b = 2 ∨ b = 5 ∨ b = 3 ∨ b = 7 ∨ b = 8 ∨ b = 9
structure Glb (w : World) : Prop where
  all : RowG w 2 #[.int .u8 255, .int .u8 255, .int .u8 255, .int .u8 255, .int .u8 255, .int .u8 255]
  rounds : RU w 5 kTab
  begin : RU w 3 h0.list
  tabs : Tabs w
  pow : Lib.TabIs Tryz.prog w "internal/strconv.uint64pow10" .u64 Lib.pow10Tab
theorem Glb.keep {w w' : World} {S : Nat → Prop} (h : Glb w) (hf : Fr S w w') (hS : ∀ b, glB b → ¬ S b) : Glb w' where
  all := h.all.keep hf (hS _ (.inl rfl))
  rounds := h.rounds.keep hf (hS _ (.inr (.inl rfl)))
  begin := h.begin.keep hf (hS _ (.inr (.inr (.inl rfl))))
  tabs := h.tabs.keep hf (hS _ (.inr (.inr (.inr (.inl rfl))))) (hS _ (.inr (.inr (.inr (.inr (.inl rfl))))))
  pow := tab_keep h.pow gPow hf (hS _ (.inr (.inr (.inr (.inr (.inr rfl))))))
structure BootAt (w : World) (L : Lay) (s : St) : Prop where
  bk : Bk w L.p 102 (bootC s L)
  rx : RingAt w L.rx L.rxs s.c.rx s.rx
  tx : RingAt w L.tx L.txs s.c.tx s.tx
  mp : MapAt w L.mp s.cache
  im : w.ownsRow 0 5 1 (.slice L.img s.image.length L.icap) s.image.length (u8s s.image)
  ne : L.blocks.Nodup
  ni : ∀ a, L.img = some a → a.block ∉ L.blocks
  ok : s.Ok
  gb : Glb w
  gd : ∀ b, own' L b → ¬ glB b
section
variable {w : World} {L : Lay} {s : St}
theorem BootAt.g0 (h : BootAt w L s) : w.cell? ⟨L.p, 0, none⟩ = some (.int .u8 (s.c.card.1.toNat : Int)) := h.bk.cell 0
theorem BootAt.g1 (h : BootAt w L s) : w.cell? ⟨L.p, 1, none⟩ = some (.int .u8 (s.c.card.2.1.toNat : Int)) := h.bk.cell 1
theorem BootAt.g2 (h : BootAt w L s) : w.cell? ⟨L.p, 2, none⟩ = some (.int .u8 (s.c.card.2.2.1.toNat : Int)) := h.bk.cell 2
theorem BootAt.g3 (h : BootAt w L s) : w.cell? ⟨L.p, 3, none⟩ = some (.int .u8 (s.c.card.2.2.2.1.toNat : Int)) := h.bk.cell 3
theorem BootAt.g4 (h : BootAt w L s) : w.cell? ⟨L.p, 4, none⟩ = some (.int .u8 (s.c.card.2.2.2.2.1.toNat : Int)) := h.bk.cell 4
theorem BootAt.g5 (h : BootAt w L s) : w.cell? ⟨L.p, 5, none⟩ = some (.int .u8 (s.c.card.2.2.2.2.2.toNat : Int)) := h.bk.cell 5
theorem BootAt.g13 (h : BootAt w L s) : w.cell? ⟨L.p, 13, none⟩ = some (.pointer (some ⟨L.rx, 0, none⟩)) := h.bk.cell 13
theorem BootAt.g14 (h : BootAt w L s) : w.cell? ⟨L.p, 14, none⟩ = some (.pointer (some ⟨L.tx, 0, none⟩)) := h.bk.cell 14
theorem BootAt.g15 (h : BootAt w L s) : w.cell? ⟨L.p, 15, none⟩ = some (.map (some L.mp)) := h.bk.cell 15
theorem BootAt.g16 (h : BootAt w L s) : w.cell? ⟨L.p, 16, none⟩ = some (.int .i64 s.now) := h.bk.cell 16
theorem BootAt.g18 (h : BootAt w L s) : w.cell? ⟨L.p, 18, none⟩ = some (.int .i64 s.boots) := h.bk.cell 18
theorem BootAt.g19 (h : BootAt w L s) : w.cell? ⟨L.p, 19, none⟩ = some (.int .i64 s.lost) := h.bk.cell 19
theorem BootAt.g21 (h : BootAt w L s) : w.cell? ⟨L.p, 21, none⟩ = some (.int .i64 (s.lease : Int)) := h.bk.cell 21
theorem BootAt.g22 (h : BootAt w L s) : w.cell? ⟨L.p, 22, none⟩ = some (.int .u32 (s.xid : Int)) := h.bk.cell 22
theorem BootAt.g23 (h : BootAt w L s) : w.cell? ⟨L.p, 23, none⟩ = some (.int .u32 (s.addr : Int)) := h.bk.cell 23
theorem BootAt.g26 (h : BootAt w L s) : w.cell? ⟨L.p, 26, none⟩ = some (.int .u32 (s.server : Int)) := h.bk.cell 26
theorem BootAt.g33 (h : BootAt w L s) : w.cell? ⟨L.p, 33, none⟩ = some (.int .i64 (s.phase : Int)) := h.bk.cell 33
theorem BootAt.g44 (h : BootAt w L s) : w.cell? ⟨L.p, 44, none⟩ = some (.slice L.img s.image.length L.icap) := h.bk.cell 44
end
theorem ownsMap_keep {w w' : World} {S : Nat → Prop} {b n : Nat} {D : DataW Unit} (h : w.ownsMap Tryz.prog 34 entR b n D) (hf : Fr S w w') (hb : ¬ S b) : w'.ownsMap Tryz.prog 34 entR b n D := by
  have hl := h.lt
  obtain ⟨es, cl, h1, h2⟩ := h
  exact ⟨es, cl, (hf.block b hl hb).trans h1, h2⟩
theorem MapAt.keep {w w' : World} {S : Nat → Prop} {b : Nat} {l : List EntD} (h : MapAt w b l) (hf : Fr S w w') (hb : ¬ S b) : MapAt w' b l := by
  obtain ⟨D, h1, h2⟩ := h
  exact ⟨D, ownsMap_keep h1 hf hb, h2⟩
theorem MapAt.lt {w : World} {b : Nat} {l : List EntD} (h : MapAt w b l) : b < w.heap.size := by obtain ⟨D, h1, _⟩ := h; exact h1.lt
theorem row_keep {w w' : World} {S : Nat → Prop} {A : Option Addr} {n c : Nat} {xs : List Value} (h : w.ownsRow 0 5 1 (.slice A n c) n xs) (hf : Fr S w w') (hb : ∀ a, A = some a → ¬ S a.block) : w'.ownsRow 0 5 1 (.slice A n c) n xs := by
  refine ⟨h.1, ?_⟩
  rcases h.2 with h1 | ⟨g, cap, cur, h1, h2, h3, h4⟩
  · exact .inl h1
  · refine .inr ⟨g, cap, cur, h1, h2, ?_, h4⟩
    have hl : g < w.heap.size := by
      rcases Nat.lt_or_ge g w.heap.size with hlt | hge
      · exact hlt
      · rw [Array.getElem?_eq_none hge] at h3; cases h3
    injection h1 with h1
    exact (hf.block g hl (hb _ h1)).trans h3
theorem BootAt.keep {w w' : World} {S : Nat → Prop} {L : Lay} {s : St} (h : BootAt w L s) (hf : Fr S w w') (hS : ∀ b, own' L b → ¬ S b) (hG : ∀ b, glB b → ¬ S b) : BootAt w' L s where
  bk := h.bk.keep hf (hS _ (.inl (by simp [Lay.blocks])))
  rx := h.rx.keep hf (hS _ (.inl (by simp [Lay.blocks]))) (hS _ (.inl (by simp [Lay.blocks])))
  tx := h.tx.keep hf (hS _ (.inl (by simp [Lay.blocks]))) (hS _ (.inl (by simp [Lay.blocks])))
  mp := h.mp.keep hf (hS _ (.inl (by simp [Lay.blocks])))
  im := row_keep h.im hf fun a ha => hS _ (.inr ⟨a, ha, rfl⟩)
  ne := h.ne
  ni := h.ni
  ok := h.ok
  gb := h.gb.keep hf hG
  gd := h.gd
theorem BootAt.none {w w' : World} {L : Lay} {s : St} (h : BootAt w L s) (hf : Fr noB w w') : BootAt w' L s := h.keep hf (fun _ _ x => x) (fun _ _ x => x)
theorem own_p (L : Lay) : own' L L.p := .inl (by simp [Lay.blocks])
theorem own_rx (L : Lay) : own' L L.rx := .inl (by simp [Lay.blocks])
theorem own_rxs (L : Lay) : own' L L.rxs := .inl (by simp [Lay.blocks])
theorem own_tx (L : Lay) : own' L L.tx := .inl (by simp [Lay.blocks])
theorem own_txs (L : Lay) : own' L L.txs := .inl (by simp [Lay.blocks])
theorem own_mp (L : Lay) : own' L L.mp := .inl (by simp [Lay.blocks])
theorem BootAt.turn {w w' : World} {L : Lay} {s : St} (s' : St) (h : BootAt w L s) (hf : Fr (oneB L.p) w w') (hb : Bk w' L.p 102 (bootC s' L)) (hc : s'.c = s.c) (hr : s'.rx = s.rx) (ht : s'.tx = s.tx) (hm : s'.cache = s.cache) (hi : s'.image = s.image) (ok : s'.Ok) : BootAt w' L s' := by
  have hn := h.ne
  simp only [Lay.blocks, List.nodup_cons, List.mem_cons, List.not_mem_nil, or_false, not_or] at hn
  obtain ⟨⟨n1, n2, n3, n4, n5⟩, _⟩ := hn
  refine ⟨hb, ?_, ?_, ?_, ?_, h.ne, h.ni, ok, h.gb.keep hf (fun b hb x => h.gd _ (own_p L) (x ▸ hb)), h.gd⟩
  · rw [hc, hr]; exact h.rx.keep hf (fun x => n1 x.symm) (fun x => n2 x.symm)
  · rw [hc, ht]; exact h.tx.keep hf (fun x => n3 x.symm) (fun x => n4 x.symm)
  · rw [hm]; exact h.mp.keep hf (fun x => n5 x.symm)
  · rw [hi]; exact row_keep h.im hf fun a ha x => h.ni a ha (by simp only [Lay.blocks, List.mem_cons]; exact .inl x)
theorem BootAt.txTurn {w w' : World} {L : Lay} {s : St} {q : List (List UInt8)} (h : BootAt w L s) (hf : Fr (fun b => b = L.tx ∨ b = L.txs) w w') (hr : RingAt w' L.tx L.txs s.c.tx q) : BootAt w' L { s with tx := q } := by
  have hn := h.ne
  simp only [Lay.blocks, List.nodup_cons, List.mem_cons, List.not_mem_nil, or_false, not_or] at hn
  obtain ⟨⟨n1, n2, n3, n4, n5⟩, ⟨m2, m3, m4, m5⟩, ⟨k3, k4, k5⟩, ⟨j4, j5⟩, i5, _⟩ := hn
  have ok := h.ok
  refine ⟨h.bk.keep hf (by rintro (x | x); exact n3 x; exact n4 x), h.rx.keep hf (by rintro (x | x); exact m3 x; exact m4 x) (by rintro (x | x); exact k3 x; exact k4 x), hr,
    h.mp.keep hf (by rintro (x | x); exact j5 x.symm; exact i5 x.symm), row_keep h.im hf fun a ha x => h.ni a ha (by simp only [Lay.blocks, List.mem_cons]; rcases x with x | x <;> simp [x]), h.ne, h.ni, { ok with }, h.gb.keep hf (fun b hb x => by rcases x with rfl | rfl; exact h.gd _ (own_tx L) hb; exact h.gd _ (own_txs L) hb), h.gd⟩
theorem BootAt.rxTurn {w w' : World} {L : Lay} {s : St} {q : List (List UInt8)} (h : BootAt w L s) (hf : Fr (fun b => b = L.rx ∨ b = L.rxs) w w') (hr : RingAt w' L.rx L.rxs s.c.rx q) : BootAt w' L { s with rx := q } := by
  have hn := h.ne
  simp only [Lay.blocks, List.nodup_cons, List.mem_cons, List.not_mem_nil, or_false, not_or] at hn
  obtain ⟨⟨n1, n2, n3, n4, n5⟩, ⟨m2, m3, m4, m5⟩, ⟨k3, k4, k5⟩, ⟨j4, j5⟩, i5, _⟩ := hn
  have ok := h.ok
  refine ⟨h.bk.keep hf (by rintro (x | x); exact n1 x; exact n2 x), hr, h.tx.keep hf (by rintro (x | x); exact m3 x.symm; exact k3 x.symm) (by rintro (x | x); exact m4 x.symm; exact k4 x.symm),
    h.mp.keep hf (by rintro (x | x); exact m5 x.symm; exact k5 x.symm), row_keep h.im hf fun a ha x => h.ni a ha (by simp only [Lay.blocks, List.mem_cons]; rcases x with x | x <;> simp [x]), h.ne, h.ni, { ok with }, h.gb.keep hf (fun b hb x => by rcases x with rfl | rfl; exact h.gd _ (own_rx L) hb; exact h.gd _ (own_rxs L) hb), h.gd⟩
def LPost (L : Lay) (s : St) (r : Value) (w : World) (e : Ending) (w' : World) : Prop := e = .returned r ∧ BootAt w' L s ∧ Fr (own' L) w w'
theorem BootAt.drew {w : World} {L : Lay} {s : St} (h : BootAt w L s) : BootAt w.drew L s := h.none ((Fr.refl _ _).drew)
theorem BootAt.lt {w : World} {L : Lay} {s : St} (h : BootAt w L s) : ∀ b, own' L b → b < w.heap.size := by
  intro b hb
  obtain ⟨i, cs, r1, r2, _⟩ := h.rx
  obtain ⟨i', cs', t1, t2, _⟩ := h.tx
  rcases hb with hb | ⟨a, ha, rfl⟩
  · simp only [Lay.blocks, List.mem_cons, List.not_mem_nil, or_false] at hb
    rcases hb with rfl | rfl | rfl | rfl | rfl | rfl
    · exact h.bk.lt
    · exact r1.lt
    · exact r2.lt
    · exact t1.lt
    · exact t2.lt
    · exact h.mp.lt
  · rcases h.im.2 with ⟨h1, _⟩ | ⟨g, cap, cur, h1, _, h3, _⟩
    · injection h1 with h1; rw [ha] at h1; cases h1
    · injection h1 with h1
      rw [ha] at h1; injection h1 with h1; subst h1
      rcases Nat.lt_or_ge g w.heap.size with hlt | hge
      · exact hlt
      · rw [Array.getElem?_eq_none hge] at h3; cases h3
end Go.Proofs.YtcbkaiakdhiloabGreatDoor
namespace Go.Proofs.YtcbkaiakdhiloabGreatDoor
open Go.RowKit Go.Proofs
theorem tab_reads {W : World} {name : String} {k : IntKind} {zs : List Int} {g : Nat} {t e : TypeId} {n : Nat} (hg : Tryz.prog.globalNamed name = some g) (hty : (Tryz.prog.globals[g]?).map (·.type) = some t)
    (ht : Tryz.prog.underlying t = some (.array n e)) (he : Tryz.prog.underlying e = some (.int k)) (hce : Tryz.prog.cellsOf e = 1) (hct : Tryz.prog.cellsOf t = n) (h : Lib.VarReads Tryz.prog W name (Lib.tabData k zs)) : Lib.TabIs Tryz.prog W name k zs := by
  obtain ⟨g', t', cs, fuel, p, hg', ht', hvar, hd⟩ := h
  obtain rfl := Option.some.inj (hg.symm.trans hg')
  obtain rfl := Option.some.inj (hty.symm.trans ht')
  unfold Lib.TabIs
  rw [hvar, ← Lib.cells_of_tab ht he hce hct hd]
theorem cell_ltL {W : World} {g i : Nat} {v : Value} (h : W.cell? ⟨g, i, none⟩ = some v) : g < W.heap.size := by
  rcases Nat.lt_or_ge g W.heap.size with h1 | h1
  · exact h1
  · simp [World.cell?, Array.getElem?_eq_none h1] at h
theorem tab_cell {W : World} {name : String} {k : IntKind} {zs : List Int} {g : Nat} (h : Lib.TabIs Tryz.prog W name k zs) (hg : Tryz.prog.globalNamed name = some g) (i : Nat) (z : Int) (hz : zs[i]? = some z) : W.cell? ⟨g, i, none⟩ = some (.int k z) := by
  have hi : i < zs.length := by
    rcases Nat.lt_or_ge i zs.length with h1 | h1
    · exact h1
    · rw [List.getElem?_eq_none h1] at hz; cases hz
  rw [h.cell hg i hi]
  simp [List.getD, hz]
theorem tab_row {W : World} {name : String} {k : IntKind} {z : Int} {zs : List Int} {g : Nat} (h : Lib.TabIs Tryz.prog W name k (z :: zs)) (hg : Tryz.prog.globalNamed name = some g) : RowG W g ((z :: zs).map (Value.int k)).toArray := by
  refine ⟨cell_ltL (tab_cell h hg 0 z rfl), fun j u hu => ?_⟩
  rw [List.getElem?_toArray, List.getElem?_map, Option.map_eq_some_iff] at hu
  obtain ⟨y, hy, rfl⟩ := hu
  exact tab_cell h hg j y hy
theorem tab_ru {W : World} {name : String} {l : List UInt32} {g : Nat} (h : Lib.TabIs Tryz.prog W name .u32 (l.map fun x => (x.toNat : Int))) (hg : Tryz.prog.globalNamed name = some g) (h0 : l ≠ []) : RU W g l := by
  have key : ∀ (k : Nat) (x : UInt32), l[k]? = some x → W.cell? ⟨g, k, none⟩ = some (.int .u32 (x.toNat : Int)) := fun k x hx => tab_cell h hg k _ (by rw [List.getElem?_map, hx]; rfl)
  obtain ⟨x, r, rfl⟩ := List.exists_cons_of_ne_nil h0
  exact ⟨cell_ltL (key 0 x rfl), key⟩
def u8ren : Go.Shelf.Ren := ⟨fun n => n, fun | 5 => 5 | 119 => 312 | 138 => 314 | 139 => 315 | n => n, fun | 3 => 7 | 4 => 8 | n => n⟩
theorem u8types : U8Types Tryz.prog u8ren := ⟨by kernel_rfl, by kernel_rfl, by kernel_rfl, by kernel_rfl⟩
theorem u8extra : U8Extra Tryz.prog u8ren := ⟨by kernel_rfl, by kernel_rfl, by kernel_rfl, by kernel_rfl, by kernel_rfl, by kernel_rfl, by kernel_rfl⟩
theorem acc_eq : (Rows.laid_unicode_utf8_acceptRanges : DataW Unit) = Lib.acceptData := by kernel_rfl
theorem fst_eq : Rows.laid_unicode_utf8_first = Lib.firstData := Go.Pinned.utf8First_eq
theorem glb_reads {W : World} {l : List (String × DataW Unit)} (h : laidMet Tryz.prog l W) (m1 : ("netboot/packet.All", Rows.laid_netboot_packet_All) ∈ l) (m2 : ("netboot/hash.begin", Rows.laid_netboot_hash_begin) ∈ l) (m3 : ("netboot/hash.rounds", Rows.laid_netboot_hash_rounds) ∈ l)
    (m4 : ("internal/strconv.uint64pow10", Rows.laid_internal_strconv_uint64pow10) ∈ l) (m5 : ("unicode/utf8.acceptRanges", Rows.laid_unicode_utf8_acceptRanges) ∈ l) (m6 : ("unicode/utf8.first", Rows.laid_unicode_utf8_first) ∈ l) : Glb W where
  all := tab_row (z := 255) (zs := [255, 255, 255, 255, 255]) (tab_reads (name := "netboot/packet.All") (g := 2) (t := 23) (e := 5) (n := 6) (by kernel_rfl) (by kernel_rfl) Tryz.underlying23 Tryz.underlying5 (by kernel_rfl) (by kernel_rfl) (Lib.laidMet.reads h m1)) (by kernel_rfl)
  rounds := tab_ru (tab_reads (name := "netboot/hash.rounds") (g := 5) (t := 259) (e := 33) (n := 64) (by kernel_rfl) (by kernel_rfl) Tryz.underlying259 Tryz.underlying33 (by kernel_rfl) (by kernel_rfl) (show Lib.VarReads _ _ _ (Lib.tabData .u32 (kTab.map fun x => (x.toNat : Int))) from (show (Rows.laid_netboot_hash_rounds : DataW Unit) = Lib.tabData .u32 (kTab.map fun x => (x.toNat : Int)) by kernel_rfl) ▸ Lib.laidMet.reads h m3)) (by kernel_rfl) (by decide)
  begin := tab_ru (tab_reads (name := "netboot/hash.begin") (g := 3) (t := 201) (e := 33) (n := 8) (by kernel_rfl) (by kernel_rfl) Tryz.underlying201 Tryz.underlying33 (by kernel_rfl) (by kernel_rfl) (show Lib.VarReads _ _ _ (Lib.tabData .u32 (h0.list.map fun x => (x.toNat : Int))) from (show (Rows.laid_netboot_hash_begin : DataW Unit) = Lib.tabData .u32 (h0.list.map fun x => (x.toNat : Int)) by kernel_rfl) ▸ Lib.laidMet.reads h m2)) (by kernel_rfl) (by decide)
  tabs := utf8Tabs_of_readsT u8types u8extra (fst_eq ▸ Lib.laidMet.reads h m6) (acc_eq ▸ Lib.laidMet.reads h m5)
  pow := tab_reads (g := 9) (t := 325) (e := 202) (n := 20) (by kernel_rfl) (by kernel_rfl) Tryz.underlying325 Tryz.underlying202 (by kernel_rfl) (by kernel_rfl) ((show (Rows.laid_internal_strconv_uint64pow10 : DataW Unit) = Lib.tabData .u64 Lib.pow10Tab by kernel_rfl) ▸ Lib.laidMet.reads h m4)
end Go.Proofs.YtcbkaiakdhiloabGreatDoor
namespace Go.Proofs.YtcbkaiakdhiloabGreatDoor
open Go.RowKit Go.Proofs
section
variable {P : Program} {ops : Array Oper} {Q : Exit → Act → World → Prop} {S : World → Prop} {brk : List Nat} {c : Bool} {k : Nat} {t : Pl} {a : Act} {w : World} {o : Oper} {opl : List Oper}
theorem wantedU {o : Oper} {j d : Nat} {b : Bool} {a : Act} (hg : o.guard = some (j, b)) (hd : (ops[j]?).bind (·.dst) = some d) (hv : a.eval (.tmp d) = undef) : Region.wanted o (yielded ops a.tmps) = false := by
  unfold Region.wanted; rw [hg]
  have : yielded ops a.tmps j = none := by
    unfold yielded
    rw [hd]
    have hv' : a.tmps.getD d undef = undef := hv
    rw [Array.getD_eq_getD_getElem?] at hv'
    simp only [Option.bind_some]
    cases hx : a.tmps[d]? with
    | none => rfl
    | some v =>
      rw [hx, Option.getD_some] at hv'
      rw [hv']; rfl
  simp only [this]; rfl
theorem pl_pu {j d : Nat} {b : Bool} (hO : Hid (ops = opl.toArray)) (ho : opl[k]? = some o) (hg : o.guard = some (j, b)) (hd : (opl[j]?).bind (·.dst) = some d) (hb : a.eval (.tmp d) = undef) (h : wpPl P ops Q S brk c t (a.put o.dst undef) w) : wpPl P ops Q S brk c (.p k t) a w := pl_p_no (ops_at hO ho) (wantedU hg (ops_dst hO hd) hb) h
theorem pl_qu {j d : Nat} {b : Bool} (hO : Hid (ops = opl.toArray)) (ho : opl[k]? = some o) (hg : o.guard = some (j, b)) (hd : (opl[j]?).bind (·.dst) = some d) (hb : a.eval (.tmp d) = undef) (h : wpPl P ops Q S brk c t (a.put o.dst undef) w) : wpPl P ops Q S brk c (.q k t) a w := pl_q_no (ops_at hO ho) (wantedU hg (ops_dst hO hd) hb) h
end
end Go.Proofs.YtcbkaiakdhiloabGreatDoor
namespace Go.Proofs.YtcbkaiakdhiloabGreatDoor
open Go.RowKit Go.Proofs
abbrev KT := Exit → Act → World → Prop
section
variable {P : Program} {ops : Array Oper} {Q : Exit → Act → World → Prop} {S : World → Prop} {brk : List Nat} {c : Bool} {k : Nat} {t : Pl} {a a' : Act} {w : World} {o : Oper} {opl : List Oper} {v : Value} {j d : Nat} {b : Bool}
theorem qd {p : Prop} (h : p := by go_simp; ((try with_reducible rfl); done)) : p := h
theorem pP (hO : Hid (ops = opl.toArray)) (h : wpPl P ops Q S brk c t a' w) (ho : opl[k]? = some o := by rfl) (hg : o.guard = none := by rfl) (hv : ∀ w, (execOp a.eval o).run P w = .ok (.value v) w := by intro w'; go_simp; ((try with_reducible rfl); done))
    (hp : a.put o.dst v = a' := by simp only [Act.put, List.setIfInBounds_toArray, List.set_cons_zero, List.set_cons_succ]; rfl) : wpPl P ops Q S brk c (.p k t) a w := pl_p0 hO ho hg v hv (hp ▸ h)
theorem pR (hO : Hid (ops = opl.toArray)) (h : wpPl P ops Q S brk c t a' w) (ho : opl[k]? = some o := by rfl) (hg : o.guard = some (j, b) := by rfl) (hd : (opl[j]?).bind (·.dst) = some d := by rfl) (hb : a.eval (.tmp d) = .bool b := by rfl) (hv : ∀ w, (execOp a.eval o).run P w = .ok (.value v) w := by intro w'; go_simp; ((try with_reducible rfl); done))
    (hp : a.put o.dst v = a' := by simp only [Act.put, List.setIfInBounds_toArray, List.set_cons_zero, List.set_cons_succ]; rfl) : wpPl P ops Q S brk c (.p k t) a w := pl_p1 hO ho hg hd hb v hv (hp ▸ h)
theorem pQ (hO : Hid (ops = opl.toArray)) (ho : opl[k]? = some o) (hg : o.guard = none) (hv : ∀ w, S w → (execOp a.eval o).run P w = .ok (.value v) w) (h : wpPl P ops Q S brk c t a' w)
    (hp : a.put o.dst v = a' := by simp only [Act.put, List.setIfInBounds_toArray, List.set_cons_zero, List.set_cons_succ]; rfl) : wpPl P ops Q S brk c (.q k t) a w := pl_q0 hO ho hg v hv (hp ▸ h)
theorem pS (hO : Hid (ops = opl.toArray)) (ho : opl[k]? = some o) (hg : o.guard = some (j, b)) (hd : (opl[j]?).bind (·.dst) = some d) (hb : a.eval (.tmp d) = .bool b) (hv : ∀ w, S w → (execOp a.eval o).run P w = .ok (.value v) w) (h : wpPl P ops Q S brk c t a' w)
    (hp : a.put o.dst v = a' := by simp only [Act.put, List.setIfInBounds_toArray, List.set_cons_zero, List.set_cons_succ]; rfl) : wpPl P ops Q S brk c (.q k t) a w := pl_q1 hO ho hg hd hb v hv (hp ▸ h)
theorem pN (hO : Hid (ops = opl.toArray)) (h : wpPl P ops Q S brk c t a' w) (ho : opl[k]? = some o := by rfl) (hg : o.guard = some (j, b) := by rfl) (hd : (opl[j]?).bind (·.dst) = some d := by rfl) (hb : a.eval (.tmp d) = .bool (!b) := by rfl)
    (hp : a.put o.dst undef = a' := by simp only [Act.put, List.setIfInBounds_toArray, List.set_cons_zero, List.set_cons_succ]; rfl) : wpPl P ops Q S brk c (.p k t) a w := pl_pn hO ho hg hd hb (hp ▸ h)
theorem qN (hO : Hid (ops = opl.toArray)) (h : wpPl P ops Q S brk c t a' w) (ho : opl[k]? = some o := by rfl) (hg : o.guard = some (j, b) := by rfl) (hd : (opl[j]?).bind (·.dst) = some d := by rfl) (hb : a.eval (.tmp d) = .bool (!b) := by rfl)
    (hp : a.put o.dst undef = a' := by simp only [Act.put, List.setIfInBounds_toArray, List.set_cons_zero, List.set_cons_succ]; rfl) : wpPl P ops Q S brk c (.q k t) a w := pl_qn hO ho hg hd hb (hp ▸ h)
theorem pU (hO : Hid (ops = opl.toArray)) (h : wpPl P ops Q S brk c t a' w) (ho : opl[k]? = some o := by rfl) (hg : o.guard = some (j, b) := by rfl) (hd : (opl[j]?).bind (·.dst) = some d := by rfl) (hb : a.eval (.tmp d) = undef := by rfl)
    (hp : a.put o.dst undef = a' := by simp only [Act.put, List.setIfInBounds_toArray, List.set_cons_zero, List.set_cons_succ]; rfl) : wpPl P ops Q S brk c (.p k t) a w := pl_pu hO ho hg hd hb (hp ▸ h)
theorem qU (hO : Hid (ops = opl.toArray)) (h : wpPl P ops Q S brk c t a' w) (ho : opl[k]? = some o := by rfl) (hg : o.guard = some (j, b) := by rfl) (hd : (opl[j]?).bind (·.dst) = some d := by rfl) (hb : a.eval (.tmp d) = undef := by rfl)
    (hp : a.put o.dst undef = a' := by simp only [Act.put, List.setIfInBounds_toArray, List.set_cons_zero, List.set_cons_succ]; rfl) : wpPl P ops Q S brk c (.q k t) a w := pl_qu hO ho hg hd hb (hp ▸ h)
end
theorem kk {l : List Nat} {u : Nat → Value} {a : Act} (h : KpU l u a := by repeat (first | exact Kn _ _ | refine Kc (by first | rfl | (apply Eq.symm; assumption)) ?_)) : KpU l u a := h
theorem rgE {X : Prop} {P : Program} {K : KT} {c c' : Code} {a a2 : Act} {w : World} (hK : X) (h : a = a2) (H : Hid X → c'.wp P K a2 w) (hc : c = c' := by conv => lhs; whnf) : c.wp P K a w := by
  subst hc; subst h; exact H (Lib.hid hK)
end Go.Proofs.YtcbkaiakdhiloabGreatDoor
namespace Go.Proofs.YtcbkaiakdhiloabGreatDoor
open Go.RowKit Go.Proofs
attribute [local go_sem] bs_size bs_append bs_extract bs_toList
theorem bootOver (L : Lay) (s : St) (w : World) (h : BootAt w L s) :
    Calls Tryz.prog 41 #[.pointer (some ⟨L.p, 0, none⟩)] w fun e w' => e = .returned (.bool s.over) ∧ w = w' := by
  have c33 := h.g33
  unfold St.over
  by_cases h3 : s.phase = 3
  · have e3 : (s.phase : Int) = 3 := by omega
    have e4 : (s.phase == 3 || s.phase == 4) = true := by simp [h3]
    rw [e4]
    clear h3 e4
    go_enter Tryz.func41, Tryz.ntmps41
    go_wp2_with fail
    go_ret
    exact ⟨rfl, rfl⟩
  · have e3 : ((s.phase : Int) == 3) = false := by rw [beq_eq_false_iff_ne]; omega
    by_cases h4 : s.phase = 4
    · have e4 : (s.phase : Int) = 4 := by omega
      have e5 : (s.phase == 3 || s.phase == 4) = true := by simp [h4]
      rw [e5]
      clear h3 h4 e5 e3
      go_enter Tryz.func41, Tryz.ntmps41
      go_wp2_with fail
      go_ret
      exact ⟨rfl, rfl⟩
    · have e4 : ((s.phase : Int) == 4) = false := by rw [beq_eq_false_iff_ne]; omega
      have e5 : (s.phase == 3 || s.phase == 4) = false := by simp [h3, h4]
      rw [e5]
      clear h3 h4 e5
      go_enter Tryz.func41, Tryz.ntmps41
      go_wp2_with fail
      go_ret
      exact ⟨rfl, rfl⟩
theorem bootAddress (L : Lay) (s : St) (w : World) (h : BootAt w L s) :
    Calls Tryz.prog 44 #[.pointer (some ⟨L.p, 0, none⟩)] w fun e w' => e = .returned (.int .u32 (s.address : Int)) ∧ w = w' := by
  have c21 := h.g21
  have c23 := h.g23
  unfold St.address
  by_cases h4 : 4 ≤ s.lease
  · have e4 : ¬ (s.lease : Int) < 4 := by omega
    rw [if_pos h4]
    clear h4
    go_enter Tryz.func44, Tryz.ntmps44
    go_wp2_with fail
    go_ret
    exact ⟨rfl, rfl⟩
  · have e4 : (s.lease : Int) < 4 := by omega
    rw [if_neg h4]
    clear h4
    go_enter Tryz.func44, Tryz.ntmps44
    go_wp2_with fail
    go_ret
    exact ⟨rfl, rfl⟩
end Go.Proofs.YtcbkaiakdhiloabGreatDoor
namespace Go.Proofs.YtcbkaiakdhiloabGreatDoor
open Go.RowKit Go.Proofs Go.Maps
theorem ipL_inj {a b : Nat} (h : ipL a = ipL b) : a = b := by
  unfold ipL at h
  injection h with _ h
  omega
theorem ipL_key (a : Nat) : WideAt.IsKeyLit (ipL a) := trivial
theorem Rep.nil : Rep (.map [] : DataW Unit) [] := ⟨by simp, by simp, by intro ip; rfl, by simp, rfl, tidy_empty⟩
theorem Rep.perm {D : DataW Unit} {l l' : List EntD} (h : Rep D l) (hp : l.Perm l') : Rep D l' where
  nd := (hp.map _).nodup_iff.1 h.nd
  lt := fun e he => h.lt e (hp.mem_iff.2 he)
  has := fun ip => by
    rw [h.has ip, Bool.eq_iff_iff, List.any_eq_true, List.any_eq_true]
    exact ⟨fun ⟨x, hx, hb⟩ => ⟨x, hp.mem_iff.1 hx, hb⟩, fun ⟨x, hx, hb⟩ => ⟨x, hp.mem_iff.2 hx, hb⟩⟩
  at_ := fun e he => h.at_ e (hp.mem_iff.2 he)
  size := by rw [h.size, hp.length_eq]
  tidy := h.tidy
theorem any_ip (l : List EntD) (ip : Nat) : (l.any fun e => e.ip == ip) = true ↔ ip ∈ l.map (·.ip) := by
  rw [List.any_eq_true, List.mem_map]
  exact ⟨fun ⟨x, hx, hb⟩ => ⟨x, hx, by simpa using hb⟩, fun ⟨x, hx, hb⟩ => ⟨x, hx, by simpa using hb⟩⟩
theorem find_none {l : List EntD} {ip : Nat} (h : find l ip = none) : ip ∉ l.map (·.ip) := by
  intro hm
  obtain ⟨x, hx, e⟩ := List.mem_map.1 hm
  have := List.find?_eq_none.1 h x hx
  simp [e] at this
theorem find_some {l : List EntD} {ip : Nat} {e : EntD} (h : find l ip = some e) : e ∈ l ∧ e.ip = ip := ⟨List.mem_of_find?_eq_some h, by have := List.find?_some h; simpa using this⟩
theorem Rep.new {D : DataW Unit} {l : List EntD} {e : EntD} (h : Rep D l) (hn : e.ip ∉ l.map (·.ip)) (hlt : e.ip < 4294967296) : Rep (D.put (ipL e.ip) (entDat e)) (l ++ [e]) where
  nd := by
    rw [List.map_append, List.nodup_append]
    exact ⟨h.nd, by simp, fun a ha b hb => by simp at hb; subst hb; intro x; subst x; exact hn ha⟩
  lt := fun x hx => by
    rcases List.mem_append.1 hx with hx | hx
    · exact h.lt x hx
    · simp at hx; subst hx; exact hlt
  has := fun ip => by
    rw [List.any_append, List.any_cons, List.any_nil, Bool.or_false]
    by_cases hi : ip = e.ip
    · subst hi; rw [has_put_same h.tidy.isMap (ipL_key _)]; simp
    · rw [has_put_other (fun x => hi (ipL_inj x)), h.has ip]
      have : (e.ip == ip) = false := by rw [beq_eq_false_iff_ne]; exact fun x => hi x.symm
      rw [this, Bool.or_false]
  at_ := fun x hx z => by
    rcases List.mem_append.1 hx with hx | hx
    · have hne : x.ip ≠ e.ip := fun y => hn (y ▸ List.mem_map_of_mem hx)
      rw [atKey_put_other (fun y => hne (ipL_inj y))]; exact h.at_ x hx z
    · simp at hx; subst hx; exact atKey_put_same h.tidy.isMap (ipL_key _) _ _
  size := by
    rw [size_put h.tidy, h.has, if_neg, h.size]; simp
    intro hx; exact hn ((any_ip l e.ip).1 hx)
  tidy := h.tidy.put (ipL_key _) _
theorem Rep.old {D : DataW Unit} {l : List EntD} {e : EntD} (h : Rep D l) (hm : e.ip ∈ l.map (·.ip)) : Rep (D.put (ipL e.ip) (entDat e)) (setEnt l e.ip fun _ => e) where
  nd := by
    have : (setEnt l e.ip fun _ => e).map (·.ip) = l.map (·.ip) := by
      unfold setEnt; rw [List.map_map]; apply List.map_congr_left; intro x _; simp only [Function.comp]; split <;> simp_all
    rw [this]; exact h.nd
  lt := fun x hx => by
    unfold setEnt at hx
    obtain ⟨y, hy, rfl⟩ := List.mem_map.1 hx
    split
    · obtain ⟨z, hz, e'⟩ := List.mem_map.1 hm; rw [← e']; exact h.lt z hz
    · exact h.lt y hy
  has := fun ip => by
    have e1 : ((setEnt l e.ip fun _ => e).any fun x => x.ip == ip) = l.any fun x => x.ip == ip := by
      unfold setEnt; rw [List.any_map]; congr 1; funext x; simp only [Function.comp]; split <;> simp_all
    rw [e1]
    by_cases hi : ip = e.ip
    · subst hi; rw [has_put_same h.tidy.isMap (ipL_key _)]; exact ((any_ip l _).2 hm).symm
    · rw [has_put_other (fun x => hi (ipL_inj x)), h.has ip]
  at_ := fun x hx z => by
    unfold setEnt at hx
    obtain ⟨y, hy, rfl⟩ := List.mem_map.1 hx
    split
    · exact atKey_put_same h.tidy.isMap (ipL_key _) _ _
    · next hne => rw [atKey_put_other (fun q => hne (ipL_inj q))]; exact h.at_ y hy z
  size := by
    rw [size_put h.tidy, h.has, if_pos ((any_ip l _).2 hm), h.size]; simp [setEnt]
  tidy := h.tidy.put (ipL_key _) _
theorem Rep.del {D : DataW Unit} {l : List EntD} (h : Rep D l) (ip : Nat) : Rep (D.del (ipL ip)) (l.filter fun e => e.ip != ip) where
  nd := (List.filter_sublist.map _).nodup h.nd
  lt := fun e he => h.lt e (List.mem_filter.1 he).1
  has := fun i => by
    rw [List.any_filter]
    by_cases hi : i = ip
    · subst hi; rw [has_del_same]; symm; rw [List.any_eq_false]; intro x _; simp
    · rw [has_del_other (fun x => hi (ipL_inj x)), h.has i]
      congr 1; funext x
      by_cases hx : x.ip = i
      · simp [hx, hi]
      · simp [hx]
  at_ := fun e he z => by
    have h1 := List.mem_filter.1 he
    have hne : e.ip ≠ ip := by simpa using h1.2
    rw [atKey_del_other (fun x => hne (ipL_inj x))]; exact h.at_ e h1.1 z
  size := by
    have h1 := size_del (k := ipL ip) h.tidy
    rw [h.has, h.size] at h1
    have key : ∀ l : List EntD, (l.map (·.ip)).Nodup → (l.filter fun e => e.ip != ip).length + (if (l.any fun e => e.ip == ip) = true then 1 else 0) = l.length := by
      intro l
      induction l with
      | nil => intro _; rfl
      | cons x r ih =>
        intro hn
        rw [List.map_cons, List.nodup_cons] at hn
        have := ih hn.2
        by_cases hx : x.ip = ip
        · have h0 : (r.any fun e => e.ip == ip) = false := by
            rw [Bool.eq_false_iff]; intro h2; exact hn.1 (hx ▸ (any_ip r ip).1 h2)
          rw [h0] at this
          simp only [List.filter_cons, hx, bne_self_eq_false, Bool.false_eq_true, if_false, List.any_cons, beq_self_eq_true, Bool.true_or, if_true, List.length_cons] at this ⊢
          omega
        · have hb : (x.ip == ip) = false := by simpa using hx
          simp only [List.filter_cons, bne, hb, Bool.not_false, if_true, List.any_cons, Bool.false_or, List.length_cons] at this ⊢
          omega
    have := key l h.nd
    omega
  tidy := h.tidy.del _
theorem tight {w : World} {b n : Nat} {D : DataW Unit} (h : w.ownsMap Tryz.prog 34 entR b n D) : w.ownsMap Tryz.prog 34 entR b (Maps.size D) D := by
  obtain ⟨es, c, h1, h2, h3, h4⟩ := h
  refine ⟨es, c, h1, h2, ?_, h4⟩
  rw [h4]
  show es.size ≤ ((es.toList.map _).foldr DataW.insert []).length
  rw [length_sorted]; simp
theorem MapAt.of {w : World} {b n : Nat} {D : DataW Unit} {l : List EntD} (h : w.ownsMap Tryz.prog 34 entR b n D) (hr : Rep D l) : MapAt w b l := ⟨D, by rw [← hr.size]; exact tight h, hr⟩
theorem MapAt.perm {w : World} {b : Nat} {l l' : List EntD} (h : MapAt w b l) (hp : l.Perm l') : MapAt w b l' := by
  obtain ⟨D, h1, h2⟩ := h
  exact .of h1 (h2.perm hp)
/-! the one whose time is up first -/
theorem least_mem : ∀ (r : List EntD) (b : EntD), least r b = b ∨ least r b ∈ r
  | [], b => .inl rfl
  | a :: r, b => by
    unfold least
    by_cases hc : ahead a b = true
    · rw [if_pos hc]
      rcases least_mem r a with h | h
      · exact .inr (by rw [h]; simp)
      · exact .inr (List.mem_cons_of_mem _ h)
    · rw [if_neg hc]
      rcases least_mem r b with h | h
      · exact .inl h
      · exact .inr (List.mem_cons_of_mem _ h)
def isLeast (l : List EntD) (x : EntD) : Prop := x ∈ l ∧ ∀ y ∈ l, ahead y x = false
theorem ahead_trans {a b c : EntD} (h1 : ahead b a = false) (h2 : ahead c b = false) : ahead c a = false := by
  unfold ahead at *
  simp only [Bool.or_eq_false_iff, Bool.and_eq_false_iff, decide_eq_false_iff_not] at *
  omega
theorem ahead_self (a : EntD) : ahead a a = false := by
  unfold ahead
  simp
theorem ahead_asym {a b : EntD} (h : ahead a b = true) : ahead b a = false := by
  unfold ahead at *
  simp only [Bool.or_eq_true, Bool.and_eq_true, decide_eq_true_eq, Bool.or_eq_false_iff, Bool.and_eq_false_iff, decide_eq_false_iff_not] at *
  omega
theorem least_least : ∀ (r : List EntD) (b : EntD), ahead b (least r b) = false ∧ ∀ y ∈ r, ahead y (least r b) = false
  | [], b => ⟨ahead_self b, by simp⟩
  | a :: r, b => by
    unfold least
    obtain ⟨h1, h2⟩ := least_least r (if ahead a b then a else b)
    split at h1
    · next h =>
      rw [if_pos h] at h2 ⊢
      have hb := ahead_asym h
      exact ⟨ahead_trans h1 hb, fun y hy => by rcases List.mem_cons.1 hy with rfl | hy; exact h1; exact h2 y hy⟩
    · next h =>
      rw [if_neg h] at h2 ⊢
      have hb : ahead a b = false := by simpa using h
      exact ⟨h1, fun y hy => by rcases List.mem_cons.1 hy with rfl | hy; exact ahead_trans h1 hb; exact h2 y hy⟩
theorem least_isLeast (b : EntD) (r : List EntD) : isLeast (b :: r) (least r b) := by
  obtain ⟨h1, h2⟩ := least_least r b
  refine ⟨?_, fun y hy => by rcases List.mem_cons.1 hy with rfl | hy; exact h1; exact h2 y hy⟩
  rcases least_mem r b with h | h
  · rw [h]; simp
  · exact List.mem_cons_of_mem _ h
theorem isLeast_unique {l : List EntD} {x y : EntD} (hn : (l.map (·.ip)).Nodup) (hx : isLeast l x) (hy : isLeast l y) : x = y := by
  have h1 := hx.2 y hy.1
  have h2 := hy.2 x hx.1
  have hi : x.ip = y.ip := by
    unfold ahead at h1 h2
    simp only [Bool.or_eq_false_iff, Bool.and_eq_false_iff, decide_eq_false_iff_not] at h1 h2
    omega
  have key : ∀ l : List EntD, (l.map (·.ip)).Nodup → x ∈ l → y ∈ l → x = y := by
    intro l
    induction l with
    | nil => intro _ h; cases h
    | cons a r ih =>
      intro hn hx hy
      rw [List.map_cons, List.nodup_cons] at hn
      rcases List.mem_cons.1 hx with rfl | hx' <;> rcases List.mem_cons.1 hy with rfl | hy'
      · rfl
      · exact absurd (hi ▸ List.mem_map_of_mem hy') hn.1
      · exact absurd (hi ▸ List.mem_map_of_mem hx') hn.1
      · exact ih hn.2 hx' hy'
  exact key l hn hx.1 hy.1
theorem enter_perm {l : List EntD} {e x : EntD} (hn : (l.map (·.ip)).Nodup) (hl : ¬ l.length < 4) (hx : isLeast l x) : ((l.filter fun y => y.ip != x.ip) ++ [e]).Perm (enter l e) := by
  unfold enter
  rw [if_neg hl]
  cases l with
  | nil => exact absurd (by decide) hl
  | cons b r =>
    simp only
    have hxl := isLeast_unique hn hx (least_isLeast b r)
    rw [← hxl]
    clear hxl hl
    have hx1 := hx.1
    clear hx
    generalize b :: r = l at *
    induction l with
    | nil => cases hx1
    | cons a r ih =>
      rw [List.map_cons, List.nodup_cons] at hn
      by_cases ha : a.ip = x.ip
      · have hr : ∀ y ∈ r, y.ip ≠ x.ip := fun y hy h => hn.1 (by rw [ha, ← h]; exact List.mem_map_of_mem hy)
        have e1 : (r.filter fun y => y.ip != x.ip) = r := List.filter_eq_self.2 fun y hy => by simpa using hr y hy
        have e2 : (r.map fun y => if y.ip = x.ip then e else y) = r := by
          conv => rhs; rw [← List.map_id r]
          apply List.map_congr_left; intro y hy; rw [if_neg (hr y hy)]; rfl
        rw [List.map_cons, if_pos ha, e2, List.filter_cons, ha]
        simp only [bne_self_eq_false, Bool.false_eq_true, if_false]
        rw [e1]
        exact List.perm_append_singleton _ _
      · have hx' : x ∈ r := by
          rcases List.mem_cons.1 hx1 with rfl | h
          · exact absurd rfl ha
          · exact h
        rw [List.map_cons, if_neg ha, List.filter_cons]
        have : (a.ip != x.ip) = true := by simpa using ha
        rw [this, if_pos rfl, List.cons_append]
        exact (ih hn.2 hx').cons a
theorem BootAt.mpTurn {w w' : World} {L : Lay} {s : St} {l : List EntD} (h : BootAt w L s) (hf : Fr (oneB L.mp) w w') (hm : MapAt w' L.mp l) (ok : ({ s with cache := l } : St).Ok) : BootAt w' L { s with cache := l } := by
  have hn := h.ne
  simp only [Lay.blocks, List.nodup_cons, List.mem_cons, List.not_mem_nil, or_false, not_or] at hn
  obtain ⟨⟨n1, n2, n3, n4, n5⟩, ⟨m2, m3, m4, m5⟩, ⟨k3, k4, k5⟩, ⟨j4, j5⟩, i5, _⟩ := hn
  exact ⟨h.bk.keep hf n5, h.rx.keep hf m5 k5, h.tx.keep hf j5 i5, hm, row_keep h.im hf fun a ha x => h.ni a ha (by simp only [Lay.blocks, List.mem_cons]; simp [show a.block = L.mp from x]), h.ne, h.ni, ok,
    h.gb.keep hf (fun b hb x => h.gd _ (own_mp L) (x ▸ hb)), h.gd⟩
end Go.Proofs.YtcbkaiakdhiloabGreatDoor
namespace Go.Proofs.YtcbkaiakdhiloabGreatDoor
open Go.RowKit Go.Proofs Go.Maps
attribute [local go_sem] bs_size bs_append bs_extract bs_toList
theorem cacheK : Keyed Tryz.prog 34 := int_keyed Tryz.underlying34
theorem ipKey {ip : Nat} (h : ip < 4294967296) : keyOf Tryz.prog 34 (.int .u32 (ip : Int)) = some (ipL ip) := keyOf_int_mk Tryz.underlying34 (by simp [Lit.wf, IntKind.min, IntKind.max, IntKind.signed, IntKind.bits]; omega)
theorem Rep.entry {D : DataW Unit} {l : List EntD} (h : Rep D l) {x : Int} {kl : Lit} {v : Value} {y : DataW Unit × List MemPlace} (hk : keyOf Tryz.prog 34 (.int .u32 x) = some kl) (hh : Maps.has D kl = true) (hv : entR v = some y) (ha : ∀ zd, D.atKey kl zd = y.1) :
    ∃ e ∈ l, x = (e.ip : Int) ∧ kl = ipL e.ip ∧ v = entC e := by
  obtain ⟨x', e1, rfl, hw⟩ := Maps.keyOf_int_inv Tryz.underlying34 hk
  injection e1 with _ e1
  subst e1
  have hx : 0 ≤ x ∧ x < 4294967296 := by
    simp [Lit.wf, IntKind.min, IntKind.max, IntKind.signed, IntKind.bits] at hw; omega
  obtain ⟨n, rfl⟩ := Int.eq_ofNat_of_zero_le hx.1
  have hh' : Maps.has D (ipL n) = true := hh
  rw [h.has, List.any_eq_true] at hh'
  obtain ⟨e, he, hb⟩ := hh'
  have hb : e.ip = n := by simpa using hb
  subst hb
  refine ⟨e, he, rfl, rfl, ?_⟩
  have h1 : D.atKey (ipL e.ip) (.agg []) = entDat e := h.at_ e he _
  have h2 : D.atKey (ipL e.ip) (.agg []) = y.1 := ha _
  have h3 : entR v = some (entDat e, y.2) := by rw [hv, ← h1, h2]
  exact entR_inv h3
def roomRel (l : List EntD) (left : Lit → Bool) (f : Nat) (a : Int) : Prop :=
  (f = 0 ∧ a = -1 ∧ ∀ e ∈ l, left (ipL e.ip) = true) ∨ ∃ x ∈ l, left (ipL x.ip) = false ∧ f = x.ip ∧ a = x.due ∧ ∀ y ∈ l, left (ipL y.ip) = false → ahead y x = false
theorem strike_key {a b : Nat} : (!(ipL a).sameKey (ipL b)) = !(a == b) := by
  by_cases h : a = b
  · subst h; rw [WideAt.sameKey_self (ipL_key a)]; simp
  · rw [sameKey_ne (fun x => h (ipL_inj x))]; simp [h]
theorem roomRel_step {l : List EntD} {left : Lit → Bool} {f : Nat} {a : Int} {e : EntD} (hn : (l.map (·.ip)).Nodup) (h : roomRel l left f a) (he : e ∈ l) (hd : ∀ e ∈ l, 0 ≤ e.due) (ht : a < 0 ∨ e.due < a ∨ (e.due = a ∧ e.ip < f)) :
    roomRel l (fun z => left z && !z.sameKey (ipL e.ip)) e.ip e.due := by
  refine .inr ⟨e, he, ?_, rfl, rfl, fun y hy hl => ?_⟩
  · simp [WideAt.sameKey_self (ipL_key _)]
  · simp only [strike_key, Bool.and_eq_false_iff, Bool.not_eq_false'] at hl
    rcases hl with hl | hl
    · rcases h with ⟨_, _, h3⟩ | ⟨x, hx, hxl, rfl, rfl, h5⟩
      · rw [h3 y hy] at hl; cases hl
      · have h6 := h5 y hy hl
        have := hd x hx
        unfold ahead at h6 ⊢
        simp only [Bool.or_eq_false_iff, Bool.and_eq_false_iff, decide_eq_false_iff_not] at h6 ⊢
        omega
    · have : y = e := by
        have hh : y.ip = e.ip := by simpa using hl
        have key : ∀ l : List EntD, (l.map (·.ip)).Nodup → y ∈ l → e ∈ l → y = e := by
          intro l
          induction l with
          | nil => intro _ h; cases h
          | cons a r ih =>
            intro hn hx hy
            rw [List.map_cons, List.nodup_cons] at hn
            rcases List.mem_cons.1 hx with rfl | hx' <;> rcases List.mem_cons.1 hy with rfl | hy'
            · rfl
            · exact absurd (hh ▸ List.mem_map_of_mem hy') hn.1
            · exact absurd (hh ▸ List.mem_map_of_mem hx') hn.1
            · exact ih hn.2 hx' hy'
        exact key l hn hy he
      rw [this]; exact ahead_self e
theorem roomRel_keep {l : List EntD} {left : Lit → Bool} {f : Nat} {a : Int} {e : EntD} (hn : (l.map (·.ip)).Nodup) (h : roomRel l left f a) (he : e ∈ l) (hd : ∀ e ∈ l, 0 ≤ e.due) (ht : ¬ (a < 0 ∨ e.due < a ∨ (e.due = a ∧ e.ip < f))) :
    roomRel l (fun z => left z && !z.sameKey (ipL e.ip)) f a := by
  rcases h with ⟨_, h2, _⟩ | ⟨x, hx, hxl, rfl, rfl, h5⟩
  · omega
  · refine .inr ⟨x, hx, by simp [hxl], rfl, rfl, fun y hy hl => ?_⟩
    simp only [strike_key, Bool.and_eq_false_iff, Bool.not_eq_false'] at hl
    rcases hl with hl | hl
    · exact h5 y hy hl
    · have hh : y.ip = e.ip := by simpa using hl
      have : y = e := by
        have key : ∀ l : List EntD, (l.map (·.ip)).Nodup → y ∈ l → e ∈ l → y = e := by
          intro l
          induction l with
          | nil => intro _ h; cases h
          | cons a r ih =>
            intro hn hx hy
            rw [List.map_cons, List.nodup_cons] at hn
            rcases List.mem_cons.1 hx with rfl | hx' <;> rcases List.mem_cons.1 hy with rfl | hy'
            · rfl
            · exact absurd (hh ▸ List.mem_map_of_mem hy') hn.1
            · exact absurd (hh ▸ List.mem_map_of_mem hx') hn.1
            · exact ih hn.2 hx' hy'
        exact key l hn hy he
      subst this
      unfold ahead
      simp only [Bool.or_eq_false_iff, Bool.and_eq_false_iff, decide_eq_false_iff_not]
      omega
theorem roomRel_end {l : List EntD} {left : Lit → Bool} {f : Nat} {a : Int} (hl : 0 < l.length) (h : roomRel l left f a) (hz : ∀ z, left z = false) : ∃ x, isLeast l x ∧ f = x.ip := by
  rcases h with ⟨_, _, h3⟩ | ⟨x, hx, hxl, rfl, rfl, h5⟩
  · have := h3 l[0] (List.getElem_mem hl)
    rw [hz] at this; cases this
  · exact ⟨x, ⟨hx, fun y hy => h5 y hy (hz _)⟩, rfl⟩
def roomPost (b : Nat) (l : List EntD) (w : World) (e : Ending) (w' : World) : Prop :=
  e = .returned (.tuple #[]) ∧ Fr (oneB b) w w' ∧ ((l.length < 4 ∧ MapAt w' b l) ∨ (¬ l.length < 4 ∧ ∃ x, isLeast l x ∧ MapAt w' b (l.filter fun y => y.ip != x.ip)))
theorem cacheRoom (cb co b : Nat) (l : List EntD) (w : World) (hc : w.cell? ⟨cb, co, none⟩ = some (.map (some b))) (hcb : cb ≠ b) (hm : MapAt w b l) (hd : ∀ e ∈ l, 0 ≤ e.due ∧ e.due ≤ 4611686018427388000) (hl4 : l.length ≤ 1000) :
    Calls Tryz.prog 170 #[.pointer (some ⟨cb, co, none⟩)] w (roomPost b l w) := by
  obtain ⟨D, hown, hrep⟩ := hm
  have hrl := hown.len Tryz.underlying93 3
  rw [hrep.size] at hrl
  by_cases hlt : l.length < 4
  · have hli : (l.length : Int) < 4 := by omega
    have Hlt := Lib.hid hlt
    clear hlt
    go_enter Tryz.func170, Tryz.ntmps170
    go_wp2_with fail
    exact bodyPost_ret (results_none rfl _ _ _) rfl ⟨rfl, Fr.refl _ _, .inl ⟨Hlt.out, D, hown, hrep⟩⟩
  · have hli : ¬ (l.length : Int) < 4 := by omega
    have Hlt := Lib.hid hlt
    clear hlt
    go_enter Tryz.func170, Tryz.ntmps170
    go_wp2_with (refine wpList_range_own _ rfl (.tmp 15) 93 rfl 34 159 cacheK Tryz.underlying93 entR b l.length D rfl hown ?_; intro w1 hrg hg1 hs1)
    have hdn : ∀ e ∈ l, 0 ≤ e.due := fun e he => (hd e he).1
    have hw1 : Fr noB w w1 := (Fr.refl _ _).grown hg1 (fun g h _ => by cases h)
    have hcl : cb < w.heap.size := cell_lt' hc
    have Hd := Lib.hid hd
    have Hhas := Lib.hid (show Maps.has D = Maps.has D from rfl)
    clear hd hrl
    obtain ⟨r, hr⟩ : ∃ r, w.heap.size = r := ⟨_, rfl⟩
    rw [hr] at hrg hs1 hcl ⊢
    have Hr := Lib.hid hr
    clear hr
    go_loopw [2, 3] (fun fv av wr => ∃ (f : Nat) (a : Int) (left : Lit → Bool) (cnt : Nat), fv = .int .u32 (f : Int) ∧ av = .int .i64 a ∧ f < 4294967296 ∧ -1 ≤ a ∧ a ≤ 4611686018427388000 ∧ roomRel l left f a ∧ wr.ranges Tryz.prog 34 entR b r l.length D left cnt ∧ Fr noB w wr ∧ (∀ kl, left kl = true → Maps.has D kl = true)) (fun _ _ wr => wr.rangeLeft b r)
    case atStart =>
      exact ⟨0, -1, _, _, rfl, rfl, by decide, by decide, by decide, .inl ⟨rfl, rfl, fun e he => by rw [hrep.has, List.any_eq_true]; exact ⟨e, he, by simp⟩⟩, hrg, hw1, fun _ h => h⟩
    case round =>
      obtain ⟨f, a, left, cnt, rfl, rfl, hf4, ha0, ha1, hrel, hrg, hwr, hleft⟩ := hrel
      have hcr : wr.cell? ⟨cb, co, none⟩ = some (.map (some b)) := (hwr.cell (a := ⟨cb, co, none⟩) (by have := Hr.out; simp only; omega) (fun x => x)).trans hc
      have hleq := hrg.left_eq
      have Hleq := Lib.hid hleq
      clear hleq
      go_wp2_with (refine wpList_next_ranges (α := Int) (β := Value) _ rfl (.tmp 16) rfl 34 cacheK entR (fun x => .int .u32 x) id (fun key kl hk => by obtain ⟨x, e, _⟩ := Maps.keyOf_int_inv Tryz.underlying34 hk; exact ⟨x, e⟩) (fun v y _ => ⟨v, rfl⟩) b r l.length D left cnt rfl hrg ?_ ?_)
      · intro h0 hz
        obtain ⟨x, hx, hfx⟩ := roomRel_end (by have := Hlt.out; omega) hrel hz
        have hown2 := hrg.owns
        have hkey := ipKey hf4
        have Hx := Lib.hid hx
        have Hfx := Lib.hid hfx
        clear h0 hz hx hfx hrel hleft
        go_wp2_with (at_delete
                     go_must (refine wpList_delete_own _ rfl (.tmp 47) (.tmp 48) 93 34 rfl 159 cacheK Tryz.underlying93 entR b l.length D rfl hown2 _ (ipL f) rfl hkey ?_)
                     intro w3 hown3 htn3)
        have hf3 : Fr (oneB b) w w3 := (hwr.of_no (oneB b)).trans ((Fr.refl (oneB b) wr).grown htn3.grown (fun g h _ => by injection h with h; exact h.symm))
        refine bodyPost_end (results_none rfl _ _ _) rfl ⟨rfl, hf3, .inr ⟨Hlt.out, x, Hx.out, ?_⟩⟩
        rw [Hfx.out] at hown3
        exact .of hown3 (hrep.del x.ip)
      · intro x c kl yd yp w2 cnt2 hkey hlk hv hat hrg2 hlt hg2 hs2 hen
        obtain ⟨e, he, rfl, rfl, rfl⟩ := hrep.entry hkey (hleft _ hlk) hv hat
        have hw2 : Fr noB w w2 := hwr.trans' (T := fun k => k = r) ((Fr.refl _ _).grown hg2 (fun g h _ => by injection h with h; exact h.symm)) (fun k hk h => by have := Hr.out; omega)
        have hdu := Hd.out e he
        have hel := hrep.lt e he
        have hdec : (a < 0 ∨ e.due < a ∨ (e.due = a ∧ e.ip < f)) ∨ ¬ (a < 0 ∨ e.due < a ∨ (e.due = a ∧ e.ip < f)) := Classical.em _
        have Hstep := Lib.hid (fun h => roomRel_step hrep.nd hrel he hdn h)
        have Hkeep := Lib.hid (fun h => roomRel_keep hrep.nd hrel he hdn h)
        have Hleft2 : Hid (∀ kl, (fun z => left z && !z.sameKey (ipL e.ip)) kl = true → Maps.has D kl = true) := Lib.hid (fun kl h => hleft kl (by simp only [Bool.and_eq_true] at h; exact h.1))
        have Hrg2 := Lib.hid hrg2
        have Hlt2 := Lib.hid hlt
        unfold entC at hen ⊢
        clear hrg2 hlt hkey hlk hv hat hrel hrg hleft hwr hg2 hdn he hs2 hcr
        by_cases t1 : a < 0
        · have hh : a < 0 ∨ e.due < a ∨ (e.due = a ∧ e.ip < f) := .inl t1
          have Hh := Lib.hid hh
          clear hh hdec
          go_wp2_with fail
          go_quiet (fail)
          go_wp2_with fail
          refine ⟨⟨e.ip, e.due, _, cnt2, rfl, rfl, by omega, by omega, by omega, Hstep.out Hh.out, Hrg2.out.alloc _, (hw2.alloc _).drewN _, Hleft2.out⟩, ?_⟩
          have h1 := (Hrg2.out.alloc (.cells #[.int .u8 (e.card.1.toNat : Int), .int .u8 (e.card.2.1.toNat : Int), .int .u8 (e.card.2.2.1.toNat : Int), .int .u8 (e.card.2.2.2.1.toNat : Int), .int .u8 (e.card.2.2.2.2.1.toNat : Int), .int .u8 (e.card.2.2.2.2.2.toNat : Int), .bool e.known, .int .i64 e.due, .int .i64 e.asked, .string (bs e.waits)] 159)).left_eq
          have h2 := Hleq.out
          have h3 := Hlt2.out
          show World.rangeLeft (w2.alloc _) b r < World.rangeLeft wr b r
          rw [h1, h2]; exact h3
        by_cases t2 : e.due < a
        · have hh : a < 0 ∨ e.due < a ∨ (e.due = a ∧ e.ip < f) := .inr (.inl t2)
          have Hh := Lib.hid hh
          clear hh hdec
          go_wp2_with fail
          go_quiet (fail)
          go_wp2_with fail
          refine ⟨⟨e.ip, e.due, _, cnt2, rfl, rfl, by omega, by omega, by omega, Hstep.out Hh.out, Hrg2.out.alloc _, (hw2.alloc _).drewN _, Hleft2.out⟩, ?_⟩
          have h1 := (Hrg2.out.alloc (.cells #[.int .u8 (e.card.1.toNat : Int), .int .u8 (e.card.2.1.toNat : Int), .int .u8 (e.card.2.2.1.toNat : Int), .int .u8 (e.card.2.2.2.1.toNat : Int), .int .u8 (e.card.2.2.2.2.1.toNat : Int), .int .u8 (e.card.2.2.2.2.2.toNat : Int), .bool e.known, .int .i64 e.due, .int .i64 e.asked, .string (bs e.waits)] 159)).left_eq
          have h2 := Hleq.out
          have h3 := Hlt2.out
          show World.rangeLeft (w2.alloc _) b r < World.rangeLeft wr b r
          rw [h1, h2]; exact h3
        by_cases t3 : e.due = a
        · have t3b : (e.due == a) = true := by simpa using t3
          by_cases t4 : e.ip < f
          · have hh : a < 0 ∨ e.due < a ∨ (e.due = a ∧ e.ip < f) := .inr (.inr ⟨t3, t4⟩)
            have Ht3 := Lib.hid t3
            have Hh := Lib.hid hh
            clear hh hdec t3
            go_wp2_with fail
            go_quiet (fail)
            go_wp2_with fail
            refine ⟨⟨e.ip, e.due, _, cnt2, rfl, rfl, by omega, by omega, by omega, Hstep.out Hh.out, Hrg2.out.alloc _, (hw2.alloc _).drewN _, Hleft2.out⟩, ?_⟩
            have h1 := (Hrg2.out.alloc (.cells #[.int .u8 (e.card.1.toNat : Int), .int .u8 (e.card.2.1.toNat : Int), .int .u8 (e.card.2.2.1.toNat : Int), .int .u8 (e.card.2.2.2.1.toNat : Int), .int .u8 (e.card.2.2.2.2.1.toNat : Int), .int .u8 (e.card.2.2.2.2.2.toNat : Int), .bool e.known, .int .i64 e.due, .int .i64 e.asked, .string (bs e.waits)] 159)).left_eq
            have h2 := Hleq.out
            have h3 := Hlt2.out
            show World.rangeLeft (w2.alloc _) b r < World.rangeLeft wr b r
            rw [h1, h2]; exact h3
          · have hh : ¬ (a < 0 ∨ e.due < a ∨ (e.due = a ∧ e.ip < f)) := by omega
            have Ht3 := Lib.hid t3
            have Hh := Lib.hid hh
            clear hh hdec t3
            go_wp2_with fail
            refine ⟨⟨f, a, _, cnt2, rfl, rfl, by omega, by omega, by omega, Hkeep.out Hh.out, Hrg2.out.alloc _, hw2.alloc _, Hleft2.out⟩, ?_⟩
            have h1 := (Hrg2.out.alloc (.cells #[.int .u8 (e.card.1.toNat : Int), .int .u8 (e.card.2.1.toNat : Int), .int .u8 (e.card.2.2.1.toNat : Int), .int .u8 (e.card.2.2.2.1.toNat : Int), .int .u8 (e.card.2.2.2.2.1.toNat : Int), .int .u8 (e.card.2.2.2.2.2.toNat : Int), .bool e.known, .int .i64 e.due, .int .i64 e.asked, .string (bs e.waits)] 159)).left_eq
            have h2 := Hleq.out
            have h3 := Hlt2.out
            show World.rangeLeft (w2.alloc _) b r < World.rangeLeft wr b r
            rw [h1, h2]; exact h3
        · have t3b : (e.due == a) = false := by simpa using t3
          have hh : ¬ (a < 0 ∨ e.due < a ∨ (e.due = a ∧ e.ip < f)) := by omega
          have Hh := Lib.hid hh
          clear hh hdec t3
          go_wp2_with fail
          refine ⟨⟨f, a, _, cnt2, rfl, rfl, by omega, by omega, by omega, Hkeep.out Hh.out, Hrg2.out.alloc _, hw2.alloc _, Hleft2.out⟩, ?_⟩
          have h1 := (Hrg2.out.alloc (.cells #[.int .u8 (e.card.1.toNat : Int), .int .u8 (e.card.2.1.toNat : Int), .int .u8 (e.card.2.2.1.toNat : Int), .int .u8 (e.card.2.2.2.1.toNat : Int), .int .u8 (e.card.2.2.2.2.1.toNat : Int), .int .u8 (e.card.2.2.2.2.2.toNat : Int), .bool e.known, .int .i64 e.due, .int .i64 e.asked, .string (bs e.waits)] 159)).left_eq
          have h2 := Hleq.out
          have h3 := Hlt2.out
          show World.rangeLeft (w2.alloc _) b r < World.rangeLeft wr b r
          rw [h1, h2]; exact h3
end Go.Proofs.YtcbkaiakdhiloabGreatDoor
namespace Go.Proofs.YtcbkaiakdhiloabGreatDoor
open Go.RowKit Go.Proofs Go.Maps
attribute [local go_sem] bs_size bs_append bs_extract bs_toList
def ent0 : EntD := ⟨0, zMac, false, 0, 0, []⟩
theorem ent0_C : entC ent0 = .agg #[.int .u8 0, .int .u8 0, .int .u8 0, .int .u8 0, .int .u8 0, .int .u8 0, .bool false, .int .i64 0, .int .i64 0, .string ⟨#[]⟩] := rfl
theorem zeroEnt (w : World) : (zeroValue 159).run Tryz.prog w = .ok (entC ent0) w := by kernel_rfl
theorem at_none {D : DataW Unit} {l : List EntD} {ip : Nat} (h : Rep D l) (hf : find l ip = none) : Maps.has D (ipL ip) = false ∧ D.atKey (ipL ip) (entDat ent0) = entDat ent0 := by
  have h1 : Maps.has D (ipL ip) = false := by
    rw [h.has, Bool.eq_false_iff]; intro hx; exact find_none hf ((any_ip l ip).1 hx)
  exact ⟨h1, atKey_of_not_has h1 _⟩
theorem at_some {D : DataW Unit} {l : List EntD} {ip : Nat} {e : EntD} (h : Rep D l) (hf : find l ip = some e) : Maps.has D (ipL ip) = true ∧ D.atKey (ipL ip) (entDat ent0) = entDat e := by
  obtain ⟨h1, rfl⟩ := find_some hf
  exact ⟨by rw [h.has, List.any_eq_true]; exact ⟨e, h1, by simp⟩, h.at_ e h1 _⟩
theorem roomPost.use {b ip : Nat} {l : List EntD} {w w' : World} {e : Ending} (h : roomPost b l w e w') (hn : (l.map (·.ip)).Nodup) (hf : find l ip = none) :
    e = .returned (.tuple #[]) ∧ Fr (oneB b) w w' ∧ ∃ (l' : List EntD) (D : DataW Unit), w'.ownsMap Tryz.prog 34 entR b l'.length D ∧ Rep D l' ∧ ip ∉ l'.map (·.ip) ∧ l'.length ≤ l.length ∧ ∀ x, (l' ++ [x]).Perm (enter l x) := by
  obtain ⟨h1, h2, ⟨h3, D, h4, h5⟩ | ⟨h3, x, h4, D, h5, h6⟩⟩ := h
  · exact ⟨h1, h2, l, D, h4, h5, find_none hf, Nat.le_refl _, fun x => by unfold enter; rw [if_pos h3]⟩
  · refine ⟨h1, h2, _, D, h5, h6, fun hx => find_none hf ?_, List.length_filter_le _ _, fun y => enter_perm hn h3 h4⟩
    obtain ⟨y, hy, hi⟩ := List.mem_map.1 hx
    exact hi ▸ List.mem_map_of_mem (List.mem_filter.1 hy).1
end Go.Proofs.YtcbkaiakdhiloabGreatDoor
