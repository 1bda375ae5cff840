/- Parts of the walk; written by programs, merged. -/
import Derived.Test.YtcbkaiakdhiloabGreatDoorMaa
import Derived.Test.YtcbkaiakdhiloabGreatDoorMab
import Derived.Test.YtcbkaiakdhiloabGreatDoorMaf
import Derived.Test.YtcbkaiakdhiloabGreatDoorProg
import Derived.Test.YtcbkaiakdhiloabGreatDoorShelf
import Derived.WalkKit
import Derived.WalkLawsBesides
import Derived.WalkSpells
import Derived.Deep.AppendLies
import Derived.Deep.DrawnRows
import Derived.Maps.AppendAt
import Derived.StillTailTactics
import Derived.Lib.Hide
import Derived.Lib.AppendStr
import Derived.Lib.Strings
import Derived.Laws.MakeOwn
import Derived.Laws.OwnMore
import Derived.Laws.BitsAllLaws
import Derived.Orders
import Derived.Deep.MidRow
import Derived.Deep.DeepMust
import Derived.Deep.RegionHeld3
import Derived.Deep.RegionLaw
import Derived.Deep.LoopGhost
import Derived.Deep.Cut
import Derived.Deep.CutRange
import Derived.Deep.QuietTactic
import Derived.BigQuiet
import Derived.Lib.ConvBytes
import Derived.Lib.LazyBuf
import Derived.Recover
import Derived.OrdersHeld
import Derived.Lib.MapLaws
import Derived.Lib.TrimAscii
import Derived.Lib.LaidTab
import Derived.Lib.ItoaNum
import Derived.Maps.Own
import Derived.Maps.OwnOps
import Derived.Maps.OwnSet
import Derived.Maps.Views
import Derived.Maps.RangeWalk
import Derived.Deep.CutBlock
import Derived.Laws.StructEq
import Derived.DeepKeys
set_option linter.unusedSimpArgs false
set_option linter.unusedVariables false
set_option maxRecDepth 20000
set_option maxHeartbeats 8000000
namespace Go.Proofs.YtcbkaiakdhiloabGreatDoor
open Go.RowKit Go.Proofs
structure MLay where
  rx : Option Addr
  rxc : Nat
  tx : Option Addr
  txc : Nat
  ca : Option Addr
  cac : Nat
  im : Option Addr
  imc : Nat
def blkA (a : Option Addr) : List Nat := match a with | none => [] | some x => [x.block]
def mblocks (p : Nat) (M : MLay) : List Nat := p :: (blkA M.rx ++ (blkA M.tx ++ (blkA M.ca ++ blkA M.im)))
def mown (p : Nat) (M : MLay) (b : Nat) : Prop := b ∈ mblocks p M
structure Dj (p : Nat) (r t c i : List Nat) : Prop where
  pr : p ∉ r
  pt : p ∉ t
  pc : p ∉ c
  pi : p ∉ i
  rt : ∀ b ∈ r, b ∉ t
  rc : ∀ b ∈ r, b ∉ c
  ri : ∀ b ∈ r, b ∉ i
  tc : ∀ b ∈ t, b ∉ c
  ti : ∀ b ∈ t, b ∉ i
  ci : ∀ b ∈ c, b ∉ i
def strV (l : List (List UInt8)) : List Value := l.map fun f => .string (bs f)
def entF (e : EntD) : List Value := [.int .u32 (e.ip : Int), .int .u8 (e.card.1.toNat : Int), .int .u8 (e.card.2.1.toNat : Int), .int .u8 (e.card.2.2.1.toNat : Int), .int .u8 (e.card.2.2.2.1.toNat : Int), .int .u8 (e.card.2.2.2.2.1.toNat : Int), .int .u8 (e.card.2.2.2.2.2.toNat : Int), .bool e.known, .int .i64 e.due, .int .i64 e.asked, .string (bs e.waits)]
def entsF : List EntD → List Value
  | [] => []
  | e :: r => entF e ++ entsF r
def modC (s : St) (T : Nat) (M : MLay) : Array Value := #[.pointer (some ⟨T, 0, none⟩), .int .u8 (s.c.card.1.toNat : Int), .int .u8 (s.c.card.2.1.toNat : Int), .int .u8 (s.c.card.2.2.1.toNat : Int), .int .u8 (s.c.card.2.2.2.1.toNat : Int), .int .u8 (s.c.card.2.2.2.2.1.toNat : Int), .int .u8 (s.c.card.2.2.2.2.2.toNat : Int), .string (bs s.c.name), .int .i64 (s.c.cap : Int), .string (bs s.c.digest), .int .i64 (s.c.block : Int), .int .i64 (s.c.window : Int), .int .i64 (s.c.rx : Int), .int .i64 (s.c.tx : Int), .slice M.rx s.rx.length M.rxc, .slice M.tx s.tx.length M.txc, .int .i64 s.now, .int .u32 (s.draw : Int), .int .i64 s.boots, .int .i64 s.lost, .int .i64 (wrap64 (s.id : Int)), .slice M.ca s.cache.length M.cac, .int .i64 (s.lease : Int), .int .u32 (s.xid : Int), .int .u32 (s.addr : Int), .int .u32 (s.mask : Int), .int .u32 (s.router : Int), .int .u32 (s.server : Int), .int .u32 (s.source : Int), .int .i64 s.t1, .int .i64 s.t2, .int .i64 s.untl, .int .i64 s.lagain, .int .i64 (s.lsends : Int), .int .i64 (s.phase : Int), .int .i64 (s.port : Int), .int .i64 (s.peer : Int), .int .i64 (s.block : Int), .int .i64 (s.wind : Int), .int .i64 (s.next : Int), .int .i64 s.came, .int .i64 s.tagain, .int .i64 (s.tsends : Int), .int .i64 (s.goal : Int), .string (bs s.last), .slice M.im s.image.length M.imc]
structure ModelAt (w : World) (p T : Nat) (M : MLay) (s : St) : Prop where
  bk : Bk w p 174 (modC s T M)
  rx : w.ownsRow 0 9 1 (.slice M.rx s.rx.length M.rxc) s.rx.length (strV s.rx)
  tx : w.ownsRow 0 9 1 (.slice M.tx s.tx.length M.txc) s.tx.length (strV s.tx)
  ca : w.ownsRow 0 237 11 (.slice M.ca s.cache.length M.cac) s.cache.length (entsF s.cache)
  im : w.ownsRow 0 5 1 (.slice M.im s.image.length M.imc) s.image.length (u8s s.image)
  nd : Dj p (blkA M.rx) (blkA M.tx) (blkA M.ca) (blkA M.im)
  ok : s.Ok
  rxl : s.rx.length ≤ s.c.rx
  txl : s.tx.length ≤ s.c.tx
  all : RowG w 4 #[.int .u8 255, .int .u8 255, .int .u8 255, .int .u8 255, .int .u8 255, .int .u8 255]
  ga : ∀ b, mown p M b → b ≠ 4
  dk : (s.cache.map (·.ip)).Nodup
  ip : ∀ e ∈ s.cache, e.ip < 4294967296
section
variable {w : World} {p T : Nat} {M : MLay} {s : St}
theorem ModelAt.g0 (h : ModelAt w p T M s) : w.cell? ⟨p, 0, none⟩ = some (.pointer (some ⟨T, 0, none⟩)) := h.bk.cell 0
theorem ModelAt.g1 (h : ModelAt w p T M s) : w.cell? ⟨p, 1, none⟩ = some (.int .u8 (s.c.card.1.toNat : Int)) := h.bk.cell 1
theorem ModelAt.g2 (h : ModelAt w p T M s) : w.cell? ⟨p, 2, none⟩ = some (.int .u8 (s.c.card.2.1.toNat : Int)) := h.bk.cell 2
theorem ModelAt.g3 (h : ModelAt w p T M s) : w.cell? ⟨p, 3, none⟩ = some (.int .u8 (s.c.card.2.2.1.toNat : Int)) := h.bk.cell 3
theorem ModelAt.g4 (h : ModelAt w p T M s) : w.cell? ⟨p, 4, none⟩ = some (.int .u8 (s.c.card.2.2.2.1.toNat : Int)) := h.bk.cell 4
theorem ModelAt.g5 (h : ModelAt w p T M s) : w.cell? ⟨p, 5, none⟩ = some (.int .u8 (s.c.card.2.2.2.2.1.toNat : Int)) := h.bk.cell 5
theorem ModelAt.g6 (h : ModelAt w p T M s) : w.cell? ⟨p, 6, none⟩ = some (.int .u8 (s.c.card.2.2.2.2.2.toNat : Int)) := h.bk.cell 6
theorem ModelAt.g7 (h : ModelAt w p T M s) : w.cell? ⟨p, 7, none⟩ = some (.string (bs s.c.name)) := h.bk.cell 7
theorem ModelAt.g8 (h : ModelAt w p T M s) : w.cell? ⟨p, 8, none⟩ = some (.int .i64 (s.c.cap : Int)) := h.bk.cell 8
theorem ModelAt.g9 (h : ModelAt w p T M s) : w.cell? ⟨p, 9, none⟩ = some (.string (bs s.c.digest)) := h.bk.cell 9
theorem ModelAt.g10 (h : ModelAt w p T M s) : w.cell? ⟨p, 10, none⟩ = some (.int .i64 (s.c.block : Int)) := h.bk.cell 10
theorem ModelAt.g11 (h : ModelAt w p T M s) : w.cell? ⟨p, 11, none⟩ = some (.int .i64 (s.c.window : Int)) := h.bk.cell 11
theorem ModelAt.g12 (h : ModelAt w p T M s) : w.cell? ⟨p, 12, none⟩ = some (.int .i64 (s.c.rx : Int)) := h.bk.cell 12
theorem ModelAt.g13 (h : ModelAt w p T M s) : w.cell? ⟨p, 13, none⟩ = some (.int .i64 (s.c.tx : Int)) := h.bk.cell 13
theorem ModelAt.g14 (h : ModelAt w p T M s) : w.cell? ⟨p, 14, none⟩ = some (.slice M.rx s.rx.length M.rxc) := h.bk.cell 14
theorem ModelAt.g15 (h : ModelAt w p T M s) : w.cell? ⟨p, 15, none⟩ = some (.slice M.tx s.tx.length M.txc) := h.bk.cell 15
theorem ModelAt.g16 (h : ModelAt w p T M s) : w.cell? ⟨p, 16, none⟩ = some (.int .i64 s.now) := h.bk.cell 16
theorem ModelAt.g17 (h : ModelAt w p T M s) : w.cell? ⟨p, 17, none⟩ = some (.int .u32 (s.draw : Int)) := h.bk.cell 17
theorem ModelAt.g18 (h : ModelAt w p T M s) : w.cell? ⟨p, 18, none⟩ = some (.int .i64 s.boots) := h.bk.cell 18
theorem ModelAt.g19 (h : ModelAt w p T M s) : w.cell? ⟨p, 19, none⟩ = some (.int .i64 s.lost) := h.bk.cell 19
theorem ModelAt.g20 (h : ModelAt w p T M s) : w.cell? ⟨p, 20, none⟩ = some (.int .i64 (wrap64 (s.id : Int))) := h.bk.cell 20
theorem ModelAt.g21 (h : ModelAt w p T M s) : w.cell? ⟨p, 21, none⟩ = some (.slice M.ca s.cache.length M.cac) := h.bk.cell 21
theorem ModelAt.g22 (h : ModelAt w p T M s) : w.cell? ⟨p, 22, none⟩ = some (.int .i64 (s.lease : Int)) := h.bk.cell 22
theorem ModelAt.g23 (h : ModelAt w p T M s) : w.cell? ⟨p, 23, none⟩ = some (.int .u32 (s.xid : Int)) := h.bk.cell 23
theorem ModelAt.g24 (h : ModelAt w p T M s) : w.cell? ⟨p, 24, none⟩ = some (.int .u32 (s.addr : Int)) := h.bk.cell 24
theorem ModelAt.g27 (h : ModelAt w p T M s) : w.cell? ⟨p, 27, none⟩ = some (.int .u32 (s.server : Int)) := h.bk.cell 27
theorem ModelAt.g32 (h : ModelAt w p T M s) : w.cell? ⟨p, 32, none⟩ = some (.int .i64 s.lagain) := h.bk.cell 32
theorem ModelAt.g33 (h : ModelAt w p T M s) : w.cell? ⟨p, 33, none⟩ = some (.int .i64 (s.lsends : Int)) := h.bk.cell 33
theorem ModelAt.g34 (h : ModelAt w p T M s) : w.cell? ⟨p, 34, none⟩ = some (.int .i64 (s.phase : Int)) := h.bk.cell 34
theorem ModelAt.g41 (h : ModelAt w p T M s) : w.cell? ⟨p, 41, none⟩ = some (.int .i64 s.tagain) := h.bk.cell 41
theorem ModelAt.g45 (h : ModelAt w p T M s) : w.cell? ⟨p, 45, none⟩ = some (.slice M.im s.image.length M.imc) := h.bk.cell 45
theorem ModelAt.fr (h : ModelAt w p T M s) : ∀ j, w.frozen? ⟨p, j, none⟩ = false := h.bk.frees
end
theorem orow_keep {w w' : World} {S : Nat → Prop} {e : TypeId} {size n c : Nat} {A : Option Addr} {xs : List Value} (h : w.ownsRow 0 e size (.slice A n c) n xs) (hf : Fr S w w') (hb : ∀ b ∈ blkA A, ¬ S b) : w'.ownsRow 0 e size (.slice A n c) n xs := by
  refine ⟨h.1, ?_⟩
  rcases h.2 with h1 | ⟨g, cap, cur, h1, h2, h3, h4⟩
  · exact .inl h1
  · refine .inr ⟨g, cap, cur, h1, h2, ?_, h4⟩
    have hl : g < w.heap.size := (Array.getElem?_eq_some_iff.1 h3).1
    injection h1 with h1
    exact (hf.block g hl (hb _ (by rw [h1]; simp [blkA]))).trans h3
theorem orow_lt {w : World} {e : TypeId} {size n c : Nat} {A : Option Addr} {xs : List Value} (h : w.ownsRow 0 e size (.slice A n c) n xs) : ∀ b ∈ blkA A, b < w.heap.size := by
  intro b hb
  rcases h.2 with ⟨h1, _⟩ | ⟨g, cap, cur, h1, h2, h3, h4⟩
  · injection h1 with h1; rw [h1] at hb; cases hb
  · injection h1 with h1
    rw [h1] at hb
    have : b = g := by simpa [blkA] using hb
    subst this
    exact (Array.getElem?_eq_some_iff.1 h3).1
theorem ModelAt.lt {w : World} {p T : Nat} {M : MLay} {s : St} (h : ModelAt w p T M s) : ∀ b, mown p M b → b < w.heap.size := by
  intro b hb
  unfold mown mblocks at hb
  simp only [List.mem_cons, List.mem_append] at hb
  rcases hb with rfl | hb | hb | hb | hb
  · exact h.bk.lt
  · exact orow_lt h.rx b hb
  · exact orow_lt h.tx b hb
  · exact orow_lt h.ca b hb
  · exact orow_lt h.im b hb
theorem mown_p (p : Nat) (M : MLay) : mown p M p := by simp [mown, mblocks]
theorem ModelAt.keep {w w' : World} {S : Nat → Prop} {p T : Nat} {M : MLay} {s : St} (h : ModelAt w p T M s) (hf : Fr S w w') (hS : ∀ b, mown p M b → ¬ S b) (hA : ¬ S 4) : ModelAt w' p T M s where
  bk := h.bk.keep hf (hS _ (mown_p p M))
  rx := orow_keep h.rx hf fun b hb => hS b (by simp [mown, mblocks, hb])
  tx := orow_keep h.tx hf fun b hb => hS b (by simp [mown, mblocks, hb])
  ca := orow_keep h.ca hf fun b hb => hS b (by simp [mown, mblocks, hb])
  im := orow_keep h.im hf fun b hb => hS b (by simp [mown, mblocks, hb])
  nd := h.nd
  ok := h.ok
  rxl := h.rxl
  txl := h.txl
  all := h.all.keep hf hA
  ga := h.ga
  dk := h.dk
  ip := h.ip
theorem ModelAt.none {w w' : World} {p T : Nat} {M : MLay} {s : St} (h : ModelAt w p T M s) (hf : Fr noB w w') : ModelAt w' p T M s := h.keep hf (fun _ _ x => x) (fun x => x)
theorem ModelAt.drew {w : World} {p T : Nat} {M : MLay} {s : St} (h : ModelAt w p T M s) : ModelAt w.drew p T M s := h.none ((Fr.refl _ _).drew)
theorem ModelAt.set1 {w : World} {p T : Nat} {M : MLay} {s : St} (h : ModelAt w p T M s) (k : Nat) (v : Value) (s' : St) (he : (modC s T M).setIfInBounds k v = modC s' T M) (hc : s'.c = s.c) (hr : s'.rx = s.rx) (ht : s'.tx = s.tx) (hm : s'.cache = s.cache) (hi : s'.image = s.image) (ok : s'.Ok) :
    ModelAt (w.setCell ⟨p, k, Option.none⟩ v) p T M s' := by
  have hf : Fr (oneB p) w (w.setCell ⟨p, k, Option.none⟩ v) := (Fr.refl (oneB p) w).setCell (p := ⟨p, k, Option.none⟩) (fun _ => rfl) v
  have hn := h.nd
  have hne : ∀ (X : List Nat), p ∉ X → ∀ b ∈ X, ¬ oneB p b := fun X hX b hb e => hX (by have e' : b = p := e; exact e' ▸ hb)
  refine ⟨by rw [← he]; exact h.bk.set k v, ?_, ?_, ?_, ?_, h.nd, ok, by rw [hr, hc]; exact h.rxl, by rw [ht, hc]; exact h.txl, h.all.keep hf (fun e => h.ga p (mown_p p M) (by have e' : 4 = p := e; exact e'.symm)), h.ga, by rw [hm]; exact h.dk, by rw [hm]; exact h.ip⟩
  · rw [hr]; exact orow_keep h.rx hf fun b hb => hne _ hn.pr b hb
  · rw [ht]; exact orow_keep h.tx hf fun b hb => hne _ hn.pt b hb
  · rw [hm]; exact orow_keep h.ca hf fun b hb => hne _ hn.pc b hb
  · rw [hi]; exact orow_keep h.im hf fun b hb => hne _ hn.pi b hb
theorem fr_mset (p : Nat) (M : MLay) (w : World) (k : Nat) (v : Value) : Fr (mown p M) w (w.setCell ⟨p, k, none⟩ v) := (Fr.refl (mown p M) w).setCell (p := ⟨p, k, none⟩) (fun _ => mown_p p M) v
def MNow (p T : Nat) (M : MLay) (w0 : World) (s : St) (w : World) : Prop := ∃ M' : MLay, (∀ b, mown p M' b → mown p M b ∨ w0.heap.size ≤ b) ∧ ModelAt w p T M' s ∧ Fr (mown p M) w0 w
theorem MNow.at_ {p T : Nat} {M : MLay} {w : World} {s : St} (h : ModelAt w p T M s) : MNow p T M w s w := ⟨M, fun _ hb => .inl hb, h, Fr.refl _ _⟩
theorem MNow.of {p T : Nat} {M : MLay} {w w' : World} {s : St} (h : ModelAt w' p T M s) (hf : Fr (mown p M) w w') : MNow p T M w s w' := ⟨M, fun _ hb => .inl hb, h, hf⟩
theorem MNow.comp {p T : Nat} {M M1 : MLay} {w0 w w' : World} {s' : St} (o1 : ∀ b, mown p M1 b → mown p M b ∨ w0.heap.size ≤ b) (f1 : Fr (mown p M) w0 w) (h : MNow p T M1 w s' w') : MNow p T M w0 s' w' := by
  obtain ⟨M2, o2, b2, f2⟩ := h
  refine ⟨M2, fun b hb => ?_, b2, f1.trans' f2 fun b hb hx => (o1 b hx).resolve_right (by omega)⟩
  rcases o2 b hb with x | x
  · exact o1 b x
  · exact .inr (Nat.le_trans f1.size x)
theorem MNow.pre {p T : Nat} {M : MLay} {w0 w w' : World} {s : St} (hf : Fr noB w0 w) (h : MNow p T M w s w') : MNow p T M w0 s w' := MNow.comp (fun _ hb => .inl hb) (hf.of_no _) h
theorem ModelAt.rxTurn {w w' : World} {p T : Nat} {M : MLay} {s : St} {q : List (List UInt8)} {A : Option Addr} {c : Nat} (h : ModelAt w p T M s) (hf : Fr (fun b => b ∈ blkA M.rx) w w') (hA : w'.ownsRow 0 9 1 (.slice A q.length c) q.length (strV q)) (hb : ∀ b ∈ blkA A, b ∈ blkA M.rx ∨ w.heap.size ≤ b) (hq : q.length ≤ s.c.rx) :
    MNow p T M w { s with rx := q } (w'.setCell ⟨p, 14, Option.none⟩ (.slice A q.length c)) := by
  have hlt := h.lt
  have hal := h.all.1
  have hpl : p < w.heap.size := h.bk.lt
  have hpA : p ∉ blkA A := fun hx => by rcases hb p hx with y | y; exact h.nd.pr y; omega
  have hf2 : Fr (fun b => b ∈ blkA M.rx ∨ b = p) w (w'.setCell ⟨p, 14, Option.none⟩ (.slice A q.length c)) := (hf.mono fun b _ hb => .inl hb).setCell (p := ⟨p, 14, Option.none⟩) (fun _ => .inr rfl) _
  have otx : ∀ b ∈ blkA M.tx, b < w.heap.size := fun b hb => hlt b (by simp [mown, mblocks, hb])
  have ktx : ∀ b ∈ blkA M.tx, ¬ (b ∈ blkA M.rx ∨ b = p) := fun b hb hx => by
    rcases hx with hx | rfl
    · exact (fun b hb hx => h.nd.rt b hx hb) b hb hx
    · exact h.nd.pt hb
  have atx : ∀ b ∈ blkA A, b ∉ blkA M.tx := fun b hbA hy => by
    rcases hb b hbA with z | z
    · exact h.nd.rt b z hy
    · have := otx b hy; omega
  have oca : ∀ b ∈ blkA M.ca, b < w.heap.size := fun b hb => hlt b (by simp [mown, mblocks, hb])
  have kca : ∀ b ∈ blkA M.ca, ¬ (b ∈ blkA M.rx ∨ b = p) := fun b hb hx => by
    rcases hx with hx | rfl
    · exact (fun b hb hx => h.nd.rc b hx hb) b hb hx
    · exact h.nd.pc hb
  have aca : ∀ b ∈ blkA A, b ∉ blkA M.ca := fun b hbA hy => by
    rcases hb b hbA with z | z
    · exact h.nd.rc b z hy
    · have := oca b hy; omega
  have oim : ∀ b ∈ blkA M.im, b < w.heap.size := fun b hb => hlt b (by simp [mown, mblocks, hb])
  have kim : ∀ b ∈ blkA M.im, ¬ (b ∈ blkA M.rx ∨ b = p) := fun b hb hx => by
    rcases hx with hx | rfl
    · exact (fun b hb hx => h.nd.ri b hx hb) b hb hx
    · exact h.nd.pi hb
  have aim : ∀ b ∈ blkA A, b ∉ blkA M.im := fun b hbA hy => by
    rcases hb b hbA with z | z
    · exact h.nd.ri b z hy
    · have := oim b hy; omega
  refine ⟨{ M with rx := A, rxc := c }, fun b hb' => ?_, ⟨(h.bk.keep hf (fun hx => h.nd.pr hx)).set 14 _, ?_, orow_keep h.tx hf2 ktx, orow_keep h.ca hf2 kca, orow_keep h.im hf2 kim, ?_, { h.ok with }, hq, h.txl, h.all.keep hf2 ?_, fun b hb' => ?_, h.dk, h.ip⟩, hf2.mono fun b _ hb' => ?_⟩
  · simp only [mown, mblocks, List.mem_cons, List.mem_append] at hb' ⊢
    rcases hb' with y | y | y | y | y
    · exact .inl (.inl y)
    · rcases hb b y with z | z
      · simp [z]
      · exact .inr z
    · simp [y]
    · simp [y]
    · simp [y]
  · refine orow_keep (S := oneB p) hA ((Fr.refl (oneB p) w').setCell (p := ⟨p, 14, Option.none⟩) (fun _ => rfl) _) fun b hb' e => hpA ?_
    have e' : b = p := e
    exact e' ▸ hb'
  · exact ⟨hpA, h.nd.pt, h.nd.pc, h.nd.pi, atx, aca, aim, h.nd.tc, h.nd.ti, h.nd.ci⟩
  · rintro (hx | hx)
    · exact h.ga _ (by simp [mown, mblocks, hx]) rfl
    · exact h.ga p (mown_p p M) hx.symm
  · simp only [mown, mblocks, List.mem_cons, List.mem_append] at hb'
    rcases hb' with y | y | y | y | y
    · exact h.ga b (by simp [mown, mblocks, y])
    · rcases hb b y with z | z
      · exact h.ga b (by simp [mown, mblocks, z])
      · omega
    · exact h.ga b (by simp [mown, mblocks, y])
    · exact h.ga b (by simp [mown, mblocks, y])
    · exact h.ga b (by simp [mown, mblocks, y])
  · rcases hb' with y | rfl
    · simp [mown, mblocks, y]
    · exact mown_p _ _
theorem ModelAt.txTurn {w w' : World} {p T : Nat} {M : MLay} {s : St} {q : List (List UInt8)} {A : Option Addr} {c : Nat} (h : ModelAt w p T M s) (hf : Fr (fun b => b ∈ blkA M.tx) w w') (hA : w'.ownsRow 0 9 1 (.slice A q.length c) q.length (strV q)) (hb : ∀ b ∈ blkA A, b ∈ blkA M.tx ∨ w.heap.size ≤ b) (hq : q.length ≤ s.c.tx) :
    MNow p T M w { s with tx := q } (w'.setCell ⟨p, 15, Option.none⟩ (.slice A q.length c)) := by
  have hlt := h.lt
  have hal := h.all.1
  have hpl : p < w.heap.size := h.bk.lt
  have hpA : p ∉ blkA A := fun hx => by rcases hb p hx with y | y; exact h.nd.pt y; omega
  have hf2 : Fr (fun b => b ∈ blkA M.tx ∨ b = p) w (w'.setCell ⟨p, 15, Option.none⟩ (.slice A q.length c)) := (hf.mono fun b _ hb => .inl hb).setCell (p := ⟨p, 15, Option.none⟩) (fun _ => .inr rfl) _
  have orx : ∀ b ∈ blkA M.rx, b < w.heap.size := fun b hb => hlt b (by simp [mown, mblocks, hb])
  have krx : ∀ b ∈ blkA M.rx, ¬ (b ∈ blkA M.tx ∨ b = p) := fun b hb hx => by
    rcases hx with hx | rfl
    · exact h.nd.rt b hb hx
    · exact h.nd.pr hb
  have arx : ∀ b ∈ blkA A, b ∉ blkA M.rx := fun b hbA hy => by
    rcases hb b hbA with z | z
    · exact (fun b hb hx => h.nd.rt b hx hb) b z hy
    · have := orx b hy; omega
  have oca : ∀ b ∈ blkA M.ca, b < w.heap.size := fun b hb => hlt b (by simp [mown, mblocks, hb])
  have kca : ∀ b ∈ blkA M.ca, ¬ (b ∈ blkA M.tx ∨ b = p) := fun b hb hx => by
    rcases hx with hx | rfl
    · exact (fun b hb hx => h.nd.tc b hx hb) b hb hx
    · exact h.nd.pc hb
  have aca : ∀ b ∈ blkA A, b ∉ blkA M.ca := fun b hbA hy => by
    rcases hb b hbA with z | z
    · exact h.nd.tc b z hy
    · have := oca b hy; omega
  have oim : ∀ b ∈ blkA M.im, b < w.heap.size := fun b hb => hlt b (by simp [mown, mblocks, hb])
  have kim : ∀ b ∈ blkA M.im, ¬ (b ∈ blkA M.tx ∨ b = p) := fun b hb hx => by
    rcases hx with hx | rfl
    · exact (fun b hb hx => h.nd.ti b hx hb) b hb hx
    · exact h.nd.pi hb
  have aim : ∀ b ∈ blkA A, b ∉ blkA M.im := fun b hbA hy => by
    rcases hb b hbA with z | z
    · exact h.nd.ti b z hy
    · have := oim b hy; omega
  refine ⟨{ M with tx := A, txc := c }, fun b hb' => ?_, ⟨(h.bk.keep hf (fun hx => h.nd.pt hx)).set 15 _, orow_keep h.rx hf2 krx, ?_, orow_keep h.ca hf2 kca, orow_keep h.im hf2 kim, ?_, { h.ok with }, h.rxl, hq, h.all.keep hf2 ?_, fun b hb' => ?_, h.dk, h.ip⟩, hf2.mono fun b _ hb' => ?_⟩
  · simp only [mown, mblocks, List.mem_cons, List.mem_append] at hb' ⊢
    rcases hb' with y | y | y | y | y
    · exact .inl (.inl y)
    · simp [y]
    · rcases hb b y with z | z
      · simp [z]
      · exact .inr z
    · simp [y]
    · simp [y]
  · refine orow_keep (S := oneB p) hA ((Fr.refl (oneB p) w').setCell (p := ⟨p, 15, Option.none⟩) (fun _ => rfl) _) fun b hb' e => hpA ?_
    have e' : b = p := e
    exact e' ▸ hb'
  · exact ⟨h.nd.pr, hpA, h.nd.pc, h.nd.pi, fun b hb hx => arx b hx hb, h.nd.rc, h.nd.ri, aca, aim, h.nd.ci⟩
  · rintro (hx | hx)
    · exact h.ga _ (by simp [mown, mblocks, hx]) rfl
    · exact h.ga p (mown_p p M) hx.symm
  · simp only [mown, mblocks, List.mem_cons, List.mem_append] at hb'
    rcases hb' with y | y | y | y | y
    · exact h.ga b (by simp [mown, mblocks, y])
    · exact h.ga b (by simp [mown, mblocks, y])
    · rcases hb b y with z | z
      · exact h.ga b (by simp [mown, mblocks, z])
      · omega
    · exact h.ga b (by simp [mown, mblocks, y])
    · exact h.ga b (by simp [mown, mblocks, y])
  · rcases hb' with y | rfl
    · simp [mown, mblocks, y]
    · exact mown_p _ _
theorem ModelAt.caTurn {w w' : World} {p T : Nat} {M : MLay} {s : St} {q : List EntD} {A : Option Addr} {c : Nat} (h : ModelAt w p T M s) (hf : Fr (fun b => b ∈ blkA M.ca) w w') (hA : w'.ownsRow 0 237 11 (.slice A q.length c) q.length (entsF q)) (hb : ∀ b ∈ blkA A, b ∈ blkA M.ca ∨ w.heap.size ≤ b) (ok : ({ s with cache := q } : St).Ok) (hdk : (q.map (·.ip)).Nodup) (hip : ∀ e ∈ q, e.ip < 4294967296) :
    MNow p T M w { s with cache := q } (w'.setCell ⟨p, 21, Option.none⟩ (.slice A q.length c)) := by
  have hlt := h.lt
  have hal := h.all.1
  have hpl : p < w.heap.size := h.bk.lt
  have hpA : p ∉ blkA A := fun hx => by rcases hb p hx with y | y; exact h.nd.pc y; omega
  have hf2 : Fr (fun b => b ∈ blkA M.ca ∨ b = p) w (w'.setCell ⟨p, 21, Option.none⟩ (.slice A q.length c)) := (hf.mono fun b _ hb => .inl hb).setCell (p := ⟨p, 21, Option.none⟩) (fun _ => .inr rfl) _
  have orx : ∀ b ∈ blkA M.rx, b < w.heap.size := fun b hb => hlt b (by simp [mown, mblocks, hb])
  have krx : ∀ b ∈ blkA M.rx, ¬ (b ∈ blkA M.ca ∨ b = p) := fun b hb hx => by
    rcases hx with hx | rfl
    · exact h.nd.rc b hb hx
    · exact h.nd.pr hb
  have arx : ∀ b ∈ blkA A, b ∉ blkA M.rx := fun b hbA hy => by
    rcases hb b hbA with z | z
    · exact (fun b hb hx => h.nd.rc b hx hb) b z hy
    · have := orx b hy; omega
  have otx : ∀ b ∈ blkA M.tx, b < w.heap.size := fun b hb => hlt b (by simp [mown, mblocks, hb])
  have ktx : ∀ b ∈ blkA M.tx, ¬ (b ∈ blkA M.ca ∨ b = p) := fun b hb hx => by
    rcases hx with hx | rfl
    · exact h.nd.tc b hb hx
    · exact h.nd.pt hb
  have atx : ∀ b ∈ blkA A, b ∉ blkA M.tx := fun b hbA hy => by
    rcases hb b hbA with z | z
    · exact (fun b hb hx => h.nd.tc b hx hb) b z hy
    · have := otx b hy; omega
  have oim : ∀ b ∈ blkA M.im, b < w.heap.size := fun b hb => hlt b (by simp [mown, mblocks, hb])
  have kim : ∀ b ∈ blkA M.im, ¬ (b ∈ blkA M.ca ∨ b = p) := fun b hb hx => by
    rcases hx with hx | rfl
    · exact (fun b hb hx => h.nd.ci b hx hb) b hb hx
    · exact h.nd.pi hb
  have aim : ∀ b ∈ blkA A, b ∉ blkA M.im := fun b hbA hy => by
    rcases hb b hbA with z | z
    · exact h.nd.ci b z hy
    · have := oim b hy; omega
  refine ⟨{ M with ca := A, cac := c }, fun b hb' => ?_, ⟨(h.bk.keep hf (fun hx => h.nd.pc hx)).set 21 _, orow_keep h.rx hf2 krx, orow_keep h.tx hf2 ktx, ?_, orow_keep h.im hf2 kim, ?_, ok, h.rxl, h.txl, h.all.keep hf2 ?_, fun b hb' => ?_, hdk, hip⟩, hf2.mono fun b _ hb' => ?_⟩
  · simp only [mown, mblocks, List.mem_cons, List.mem_append] at hb' ⊢
    rcases hb' with y | y | y | y | y
    · exact .inl (.inl y)
    · simp [y]
    · simp [y]
    · rcases hb b y with z | z
      · simp [z]
      · exact .inr z
    · simp [y]
  · refine orow_keep (S := oneB p) hA ((Fr.refl (oneB p) w').setCell (p := ⟨p, 21, Option.none⟩) (fun _ => rfl) _) fun b hb' e => hpA ?_
    have e' : b = p := e
    exact e' ▸ hb'
  · exact ⟨h.nd.pr, h.nd.pt, hpA, h.nd.pi, h.nd.rt, fun b hb hx => arx b hx hb, h.nd.ri, fun b hb hx => atx b hx hb, h.nd.ti, aim⟩
  · rintro (hx | hx)
    · exact h.ga _ (by simp [mown, mblocks, hx]) rfl
    · exact h.ga p (mown_p p M) hx.symm
  · simp only [mown, mblocks, List.mem_cons, List.mem_append] at hb'
    rcases hb' with y | y | y | y | y
    · exact h.ga b (by simp [mown, mblocks, y])
    · exact h.ga b (by simp [mown, mblocks, y])
    · exact h.ga b (by simp [mown, mblocks, y])
    · rcases hb b y with z | z
      · exact h.ga b (by simp [mown, mblocks, z])
      · omega
    · exact h.ga b (by simp [mown, mblocks, y])
  · rcases hb' with y | rfl
    · simp [mown, mblocks, y]
    · exact mown_p _ _
end Go.Proofs.YtcbkaiakdhiloabGreatDoor
namespace Go.Proofs.YtcbkaiakdhiloabGreatDoor
open Go.RowKit Go.Proofs
section
variable {P : Program} (w : World)
def partV (P : Program) (e : TypeId) (xs : Array Value) (off : Nat) : Option Value :=
  match P.underlying e with
  | some (.struct _) => some (.agg (xs.extract off (off + P.cellsOf e)))
  | some (.array _ _) => some (.agg (xs.extract off (off + P.cellsOf e)))
  | some _ => xs[off]?
  | none => none
theorem run_partV {e : TypeId} {xs : Array Value} {off : Nat} {a : Value} (h : partV P e xs off = some a) : (part e xs off).run P w = .ok a w := by
  unfold partV at h
  cases hu : P.underlying e with
  | none => simp [hu] at h
  | some kd =>
    obtain ⟨i, hi⟩ := info_of_underlying hu
    cases kd <;> simp [hu] at h <;> first | (subst h; simp [part, isAgg, run_underlying hu, run_sizeOf w hi]) | simp [part, isAgg, run_underlying hu, h]
def selfEq (P : Program) : Nat → TypeId → Value → Bool
  | 0, _, _ => false
  | m + 1, t, v => match P.underlying t, v with
    | some .bool, .bool _ => true
    | some (.int _), .int _ _ => true
    | some .string, .string _ => true
    | some (.array n e), .agg xs => (P.info? e).isSome && (List.range n).all fun i => match partV P e xs (i * P.cellsOf e) with | some a => selfEq P m e a | none => false
    | some (.struct fs), .agg xs => !P.stoodInHeld t && fs.toList.all fun f => f.name == "_" || match partV P f.type xs f.offset with | some a => selfEq P m f.type a | none => false
    | _, _ => false
theorem eqItems_self (d : Nat) {e : TypeId} {c : Nat} {xs : Array Value} : ∀ (is : List Nat),
    (∀ i ∈ is, ∃ a, partV P e xs (i * c) = some a ∧ (Op.equalIn d e a a).run P w = .ok true w) → (Op.eqItems d e c xs xs is).run P w = .ok true w
  | [], _ => by simp [Op.eqItems]
  | i :: is, h => by
    obtain ⟨a, h1, h2⟩ := h i (by simp)
    simp only [Op.eqItems, Sem.run_bind, run_partV w h1, h2, Result.andThen_ok, Bool.not_true, Bool.false_eq_true, if_false]
    exact eqItems_self d is fun j hj => h j (by simp [hj])
theorem eqFields_self (d : Nat) {xs : Array Value} : ∀ (fs : List Field),
    (∀ f ∈ fs, f.name = "_" ∨ ∃ a, partV P f.type xs f.offset = some a ∧ (Op.equalIn d f.type a a).run P w = .ok true w) → (Op.eqFields d xs xs fs).run P w = .ok true w
  | [], _ => by simp [Op.eqFields]
  | f :: fs, h => by
    have ih := eqFields_self d fs fun g hg => h g (by simp [hg])
    unfold Op.eqFields
    rw [Sem.run_ite]
    split
    · next hn =>
      rcases h f (by simp) with h0 | ⟨a, h1, h2⟩
      · exact absurd h0 hn
      · simp only [Sem.run_bind, run_partV w h1, h2, Result.andThen_ok, Bool.not_true, Bool.false_eq_true, if_false]
        exact ih
    · exact ih
theorem equalIn_self (d : Nat) : ∀ (m : Nat) (t : TypeId) (v : Value), selfEq P m t v = true → (Op.equalIn (d + m) t v v).run P w = .ok true w
  | 0, t, v, h => by simp [selfEq] at h
  | m + 1, t, v, h => by
    unfold selfEq at h
    cases hu : P.underlying t with
    | none => simp [hu] at h
    | some kd =>
      simp only [hu] at h
      rw [show d + (m + 1) = (d + m) + 1 from rfl]
      have h0 := h
      cases kd <;> cases v <;> simp at h
      · rw [run_equalIn_bool' w (d + m) t _ _ hu]; simp
      · rw [run_equalIn_int w (d + m) t _ _ _ _ hu]; simp
      · rw [run_equalIn_string w (d + m) t _ _ hu]; simp
      · next n e xs =>
        obtain ⟨i, hi⟩ := Option.isSome_iff_exists.1 h.1
        rw [run_equalIn_array w (d + m) xs xs hu hi]
        refine eqItems_self w (d + m) _ fun j hj => ?_
        have h2 := h.2 j (by simpa using hj)
        cases hp : partV P e xs (j * P.cellsOf e) with
        | none => simp [hp] at h2
        | some a => rw [hp] at h2; exact ⟨a, rfl, equalIn_self d m e a h2⟩
      · next fs xs =>
        have hf : P.fieldsOf t = fs := by unfold Program.fieldsOf; rw [hu]
        rw [run_equalIn_struct w (d + m) t xs xs (by rw [hf]; exact hu) h.1, hf]
        refine eqFields_self w (d + m) _ fun f hfm => ?_
        simp only [Bool.and_eq_true] at h0
        have h2 := List.all_eq_true.1 h0.2 f hfm
        simp only [Bool.or_eq_true, beq_iff_eq] at h2
        rcases h2 with h2 | h2
        · exact .inl h2
        · refine .inr ?_
          cases hp : partV P f.type xs f.offset with
          | none => simp [hp] at h2
          | some a => rw [hp] at h2; exact ⟨a, rfl, equalIn_self d m f.type a h2⟩
theorem eql_self {t : TypeId} {xs : Array Value} (h : selfEq P 8 t (.agg xs) = true) : (binOp .eql t (.agg xs) (.agg xs)).run P w = .ok (.bool true) w := by
  rw [run_eql_struct w t xs xs, show (10000 : Nat) = 9992 + 8 from rfl, equalIn_self w 9992 8 t (.agg xs) h]; rfl
end
end Go.Proofs.YtcbkaiakdhiloabGreatDoor
namespace Go.Proofs.YtcbkaiakdhiloabGreatDoor
open Go.RowKit Go.Proofs
theorem eqItems_step {P : Program} (w : World) (d : Nat) {e : TypeId} {c : Nat} {xs ys : Array Value} {i : Nat} {is : List Nat} (a b : UInt8) (hu : P.underlying e = some (.int .u8))
    (h1 : partV P e xs (i * c) = some (.int .u8 (a.toNat : Int))) (h2 : partV P e ys (i * c) = some (.int .u8 (b.toNat : Int))) :
    (Op.eqItems (d + 1) e c xs ys (i :: is)).run P w = if a = b then (Op.eqItems (d + 1) e c xs ys is).run P w else .ok false w := by
  simp only [Op.eqItems, Sem.run_bind, run_partV w h1, run_partV w h2, Result.andThen_ok, run_equalIn_int w d e _ _ _ _ hu]
  by_cases h : a = b
  · subst h
    simp
  · have : ((a.toNat : Int) == (b.toNat : Int)) = false := by
      rw [beq_eq_false_iff_ne]; intro x; exact h (UInt8.toNat_inj.1 (by omega))
    simp [this, h]
def macA (a : Mac) : Array Value := #[.int .u8 (a.1.toNat : Int), .int .u8 (a.2.1.toNat : Int), .int .u8 (a.2.2.1.toNat : Int), .int .u8 (a.2.2.2.1.toNat : Int), .int .u8 (a.2.2.2.2.1.toNat : Int), .int .u8 (a.2.2.2.2.2.toNat : Int)]
theorem mac_run (a b : Mac) (w : World) : (Op.equalIn 10000 23 (.agg (macA a)) (.agg (macA b))).run Tryz.prog w = .ok (decide (a = b)) w := by
  obtain ⟨a0, a1, a2, a3, a4, a5⟩ := a
  obtain ⟨b0, b1, b2, b3, b4, b5⟩ := b
  obtain ⟨i, hi⟩ := info_of_underlying (P := Tryz.prog) Tryz.underlying5
  have hp : ∀ (xs : Array Value) (k : Nat), partV Tryz.prog 5 xs k = xs[k]? := fun xs k => by unfold partV; rw [Tryz.underlying5]
  have hc : Tryz.prog.cellsOf 5 = 1 := by kernel_rfl
  rw [show (10000 : Nat) = 9998 + 1 + 1 from rfl, run_equalIn_array w (9998 + 1) _ _ Tryz.underlying23 hi, hc]
  simp only [show (List.range 6) = [0, 1, 2, 3, 4, 5] from rfl]
  rw [eqItems_step w 9998 a0 b0 Tryz.underlying5 (by rw [hp]; rfl) (by rw [hp]; rfl), eqItems_step w 9998 a1 b1 Tryz.underlying5 (by rw [hp]; rfl) (by rw [hp]; rfl),
    eqItems_step w 9998 a2 b2 Tryz.underlying5 (by rw [hp]; rfl) (by rw [hp]; rfl), eqItems_step w 9998 a3 b3 Tryz.underlying5 (by rw [hp]; rfl) (by rw [hp]; rfl),
    eqItems_step w 9998 a4 b4 Tryz.underlying5 (by rw [hp]; rfl) (by rw [hp]; rfl), eqItems_step w 9998 a5 b5 Tryz.underlying5 (by rw [hp]; rfl) (by rw [hp]; rfl)]
  simp only [Op.eqItems, Sem.run_pure, Prod.mk.injEq]
  by_cases h0 : a0 = b0 <;> simp [h0]
  by_cases h1 : a1 = b1 <;> simp [h1]
  by_cases h2 : a2 = b2 <;> simp [h2]
  by_cases h3 : a3 = b3 <;> simp [h3]
  by_cases h4 : a4 = b4 <;> simp [h4]
  by_cases h5 : a5 = b5 <;> simp [h5]
theorem mac_eql (a b : Mac) (w : World) : (binOp .eql 23 (.agg (macA a)) (.agg (macA b))).run Tryz.prog w = .ok (.bool (decide (a = b))) w := by
  rw [run_eql_struct w _ _ _, mac_run]; rfl
theorem mac_guard : Tryz.prog.eqGuardType Tryz.prog.depth 23 = false := by kernel_rfl
end Go.Proofs.YtcbkaiakdhiloabGreatDoor
