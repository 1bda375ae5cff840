/- Parts of the walk; written by programs, merged. -/
import Derived.Test.YtcbkaiakdhiloacGreatDoorMai
import Derived.RangeFuncGives
import Derived.Sort.MapsRangeIn
import Derived.OwnWalkIn
import Derived.TacticsInMore
import Derived.RegionIn
import Derived.LoopNIn
import Derived.LoopIn
import Derived.Shelf.Abstract
set_option linter.unusedSimpArgs false
set_option linter.unusedVariables false
set_option maxRecDepth 20000
set_option maxHeartbeats 8000000
namespace Go.Proofs.YtcbkaiakdhiloacGreatDoor
open Go.RowKit Go.Proofs Go.Maps Go.Sort Go.Shelf
abbrev encU (x : Nat) : Value := .int .u32 (x : Int)
theorem encU_inj {x y : Nat} (h : encU x = encU y) : x = y := by injection h with _ h; omega
theorem keyOf_ip {v : Value} {kl : Lit} (h : keyOf Tryz.prog 38 v = some kl) : ∃ x : Nat, v = encU x ∧ kl = ipL x ∧ True := by
  obtain ⟨x, e1, e2, hw⟩ := Maps.keyOf_int_inv Tryz.underlying38 h
  have h0 : 0 ≤ x := by simp [Lit.wf, IntKind.min, IntKind.max, IntKind.signed, IntKind.bits] at hw; omega
  refine ⟨x.toNat, ?_, ?_, trivial⟩
  · exact e1.trans (congrArg (Value.int .u32) (Int.toNat_of_nonneg h0).symm)
  · exact e2.trans (congrArg (Lit.int .u32) (Int.toNat_of_nonneg h0).symm)
def CollectedN (D0 : DataW Unit) (left : Lit → Bool) (ss : List Nat) : Prop := ss.Nodup ∧ ∀ x : Nat, x ∈ ss ↔ (has D0 (ipL x) = true ∧ left (ipL x) = false)
theorem CollectedN.start (D0 : DataW Unit) : CollectedN D0 (has D0) [] := ⟨List.nodup_nil, fun x => by cases has D0 (ipL x) <;> simp⟩
theorem CollectedN.step {D0 : DataW Unit} {left : Lit → Bool} {ss : List Nat} (h : CollectedN D0 left ss) {x : Nat} {y : DataW Unit} (hlk : left (ipL x) = true) (hat : ∀ zd, D0.atKey (ipL x) zd = y) : CollectedN D0 (fun z => left z && !z.sameKey (ipL x)) (ss ++ [x]) := by
  have hhas : has D0 (ipL x) = true := has_true_of_atKey hat
  have hnew : x ∉ ss := fun hx => by have := ((h.2 x).1 hx).2; rw [hlk] at this; cases this
  refine ⟨List.nodup_append.2 ⟨h.1, by simp, fun a ha b hb => by simp at hb; subst hb; exact fun e => hnew (e ▸ ha)⟩, fun y => ?_⟩
  by_cases hy : y = x
  · subst hy; simp [Lit.sameKey, ipL]; exact hhas
  · have : ((ipL y).sameKey (ipL x)) = false := by simp [Lit.sameKey, ipL]; omega
    simp [h.2 y, hy, this]
theorem CollectedN.perm {D0 : DataW Unit} {left : Lit → Bool} {ss : List Nat} {l0 : List EntD} (h : CollectedN D0 left ss) (hr : Rep D0 l0) (hl : ∀ kl, left kl = false) : ss.Perm (l0.map (·.ip)) := by
  refine (List.perm_ext_iff_of_nodup h.1 hr.nd).2 fun x => ?_
  rw [h.2 x, hl, hr.has, any_ip]
  simp
set_option maxRecDepth 100000 in
theorem kskeys1N_in (F : Fence) (n : Nat) (h10 : F.fn 135) (hro : F.round = none) (hn : 1 ≤ n) (l Bm b nn : Nat) (D0 : DataW Unit) (l0 : List EntD) (hR0 : Rep D0 l0) {R : Value → Option (DataW Unit × List MemPlace)} (J : List Nat → World → Prop)
    (hY : ∀ pre x W, J pre W → pre.length < Maps.size D0 → YieldAt F (n - 1) Tryz.prog l #[encU x] W fun e W' => e = .returned (.bool true) ∧ J (pre ++ [x]) W' ∧ KeepsWalks W W')
    (W : World) (hJ : AbidesFrom W.heap.size J) (hm : W.cell? ⟨Bm, 0, none⟩ = some (.map (some b))) (hown : W.ownsMap Tryz.prog 38 R b nn D0) (h0 : J [] W) :
    CallsIn F n Tryz.prog 135 #[.func (.yield l) #[] #[], .pointer (some ⟨Bm, 0, none⟩)] W fun e W' => (∃ v, e = .returned v) ∧ ∃ ss : List Nat, ss.Perm (l0.map (·.ip)) ∧ J ss W' := by
  refine callsIn_of_wp Tryz.func135 rfl h10 ?_ hro
  simp only [Tryz.ntmps135, List.size_toArray, List.length_cons, List.length_nil, Nat.reduceAdd, Nat.reduceSub, Array.replicate_succ, Array.replicate_zero, List.push_toArray, List.append_toArray, List.nil_append, List.cons_append]
  gi_wp2_with (first
    | (gi_at_range; refine wpListIn_range_own _ rfl _ 97 rfl 38 160 cacheK Tryz.underlying97 _ b nn _ rfl hown ?_; intro w0 hrg0 hg0 hs0)
    | gi_in)
  go_frame
  gi_loopw [3] (fun _ wr => ∃ (left : Lit → Bool) (cnt : Nat) (ss : List Nat), wr.ranges Tryz.prog 38 R b W.heap.size nn D0 left cnt ∧ ss.length + cnt ≤ Maps.size D0 ∧ CollectedN D0 left ss ∧ J ss wr)
    (fun _ wr => wr.rangeLeft b W.heap.size)
  case atStart =>
    exact ⟨_, _, [], hrg0, by simp, CollectedN.start D0, hJ [] W w0 none h0 hg0 (fun r e => by cases e)⟩
  case round =>
    obtain ⟨left, cnt, ss, hrg, hcs, hC, hJs⟩ := hrel
    gi_wp2_with (first
      | (gi_at_next; refine wpListIn_next_ranges (α := Nat) (β := Value) _ rfl _ rfl 38 cacheK R encU id (fun key kl hk => by obtain ⟨x, hx, _⟩ := keyOf_ip hk; exact ⟨x, hx⟩) (fun v _ _ => ⟨v, rfl⟩) b W.heap.size nn _ _ _ rfl hrg ?_ ?_)
      | gi_in)
    · -- NOTHING IS LEFT
      intro hc0 hl0
      gi_wp2
      go_end0
      exact ⟨⟨_, rfl⟩, ss, hC.perm hR0 hl0, hJs⟩
    · -- AN ENTRY HAS COME: yield(k)
      intro x c kl yd yp w2 cnt2 hkey hlk hv hat hrg2 hlt hg2 hs2 hen
      obtain ⟨x', ex, rfl, _⟩ := keyOf_ip hkey
      obtain rfl : x = x' := encU_inj ex
      have hJ2 : J ss w2 := hJ ss wr w2 (some W.heap.size) hJs hg2 (fun r e => by cases e; exact ⟨Nat.le_refl _, hrg.iter_walk⟩)
      obtain ⟨fn, tmps, assign, body, hy, hR⟩ := hY ss x w2 hJ2 (by omega)
      clear hs2
      gi_wp2
      refine hR.mono ?_
      rintro e W3 ⟨rfl, hJ3, hk3⟩
      gi_wp2
      have hrg3 := hrg2.of_walks hk3
      go_roundw
      case rel => exact ⟨_, cnt2, ss ++ [x], hrg3, by simp; omega, hC.step hlk hat, hJ3⟩
      case measure => rw [hrg3.left_eq, hrg.left_eq]; exact hlt
theorem kskeys_gives (F : Fence) (n : Nat) (h10 : F.fn 135) (hro : F.round = none) (hn : 1 ≤ n) (Bm b nn : Nat) (D0 : DataW Unit) (l0 : List EntD) (hR0 : Rep D0 l0) {R : Value → Option (DataW Unit × List MemPlace)} (w : World) (hBm : Bm < w.heap.size)
    (hm : w.cell? ⟨Bm, 0, none⟩ = some (.map (some b))) (hown : w.ownsMap Tryz.prog 38 R b nn D0) :
    SeqGives F n Tryz.prog 135 #[.pointer (some ⟨Bm, 0, none⟩)] encU (fun ss => ss.Perm (l0.map (·.ip))) (Maps.size D0) w := fun l J W hW hJ hY h0 => by
  have hown' : W.ownsMap Tryz.prog 38 R b nn D0 := by
    have hbl := hown.lt
    obtain ⟨es, clock, hb, Ft, hs, hD⟩ := hown
    exact ⟨es, clock, (hW.block b hbl).trans hb, Ft, hs, hD⟩
  exact kskeys1N_in F n h10 hro hn l Bm b nn D0 l0 hR0 J hY W hJ ((hW.cell (p := ⟨Bm, 0, none⟩) hBm).trans hm) hown' h0
def ksapAssign : Code := (Code.region 2 #[{ dst := some 5, op := Op.assign (Operand.tmp 7), type := 38, pos := "iter.go:51", after := #[], guard := none }] false)
def ksapBody : Code := (Code.block 1 (Code.region 3 #[{ dst := some 8, op := Op.load 110 (Operand.tmp 2), type := 110, pos := "iter.go:52", after := #[], guard := none }, { dst := some 9, op := Op.move (Operand.tmp 5), type := 38, pos := "iter.go:52", after := #[], guard := none }, { dst := some 10, op := Op.buildSlice 110 1 #[(0, Operand.tmp 9)], type := 110, pos := "iter.go:52", after := #[{ on := 1, ground := Ground.data }], guard := none }, { dst := some 11, op := Op.call { callee := Callee.builtin Builtin.append, args := #[Operand.tmp 8, Operand.tmp 10], argTypes := #[110, 110] }, type := 110, pos := "iter.go:52", after := #[{ on := 0, ground := Ground.data }, { on := 2, ground := Ground.data }], guard := none }, { dst := none, op := Op.store 110 (Operand.tmp 2) (Operand.tmp 11), type := 0, pos := "iter.go:52", after := #[{ on := 3, ground := Ground.data }, { on := 3, ground := Ground.chain }, { on := 0, ground := Ground.phase }, { on := 1, ground := Ground.phase }, { on := 2, ground := Ground.phase }, { on := 3, ground := Ground.phase }], guard := none }] false))
def ksapRec (fn : FuncId) (sv : Value) (Bs D : Nat) (st : LoopState) (pend : Option Code) : Loop :=
  { state := st, pending := pend, fn, tmps := #[.slice none 0 0, sv, .pointer (some ⟨Bs, 0, none⟩), undef, .slice none 0 0, undef, sv, undef, undef, undef, undef, undef, undef], params := #[7], assign := ksapAssign, body := ksapBody, defers := D }
structure KsApAt (w0 : World) (fn : FuncId) (sv : Value) (Bs l D : Nat) (ss : List Nat) (W : World) : Prop where
  box : ∃ v, W.heap[Bs]? = some (.cells #[v] 110 (0, 0)) ∧ W.ownsRow w0.heap.size 38 1 v ss.length (ss.map encU) ∧ (v = .slice none 0 0 ↔ ss = [])
  L : W.heap[l]? = some (.loop (ksapRec fn sv Bs D .ready none))
  K : W.heap[D]? = some (.deferred (some []))
  below : Below w0.heap.size w0 W
theorem ks_ownsRow_abides {W W' : World} {row : Option Nat} {base : Nat} {e : TypeId} {size : Nat} {v : Value} {k : Nat} {xs : List Value} (h : W.ownsRow base e size v k xs) (hg : W.grownBy W' row)
    (hrow : ∀ r, row = some r → ∃ o : Obj, W.heap[r]? = some o ∧ o.isWalk = true) : W'.ownsRow base e size v k xs := by
  refine h.kept hg ?_
  rcases h.2 with ⟨rfl, _⟩ | ⟨g, cap, cur, rfl, _, hgb, _⟩
  · exact .inl rfl
  · refine .inr fun e' => ?_
    obtain ⟨o, ho, hw⟩ := hrow g (by simpa [Value.ownBlock] using e'.symm)
    rw [hgb] at ho; cases ho; cases hw
theorem ksap_abides (w0 : World) (fn : FuncId) (sv : Value) (Bs l D B : Nat) (hB : w0.heap.size ≤ B) : AbidesFrom B (KsApAt w0 fn sv Bs l D) := fun s W W' row h hg hrow => by
  have hrow' : ∀ r, row = some r → ∃ o : Obj, W.heap[r]? = some o ∧ o.isWalk = true := fun r e => (hrow r e).2
  obtain ⟨v, hv, hr, hn⟩ := h.box
  exact ⟨⟨v, (grownBy_keeps hg hrow' hv rfl).trans hv, ks_ownsRow_abides hr hg hrow', hn⟩, (grownBy_keeps hg hrow' h.L rfl).trans h.L, (grownBy_keeps hg hrow' h.K rfl).trans h.K,
    h.below.grown hg h.below.size (fun k e => Nat.le_trans hB (hrow k e).1)⟩
theorem ks_grownBy_putObj (W : World) (l : Nat) (o : Obj) : W.grownBy (W.putObj l o) (some l) :=
  ⟨rfl, rfl, rfl, by simp, fun k _ hk => World.putObj_heap_other (fun e => hk (by rw [e]))⟩
theorem ks_grownBy_setCell0 (W : World) (b : Nat) (v : Value) : W.grownBy (W.setCell ⟨b, 0, none⟩ v) (some b) :=
  ⟨rfl, rfl, rfl, (KeepsWalks.setCell W _ v).size, fun k _ hk => Below.heap_setCell _ _ _ k (fun e => hk (by rw [e]))⟩
theorem ks_ownsRow_ne {W : World} {base : Nat} {e : TypeId} {size : Nat} {v : Value} {k : Nat} {xs : List Value} (h : W.ownsRow base e size v k xs) {j : Nat} {o : Obj} (hj : W.heap[j]? = some o) (hno : ∀ cur, o ≠ .cells cur e (0, 0)) :
    v.ownBlock = none ∨ v.ownBlock ≠ some j := by
  rcases h.2 with ⟨rfl, _⟩ | ⟨g, cap, cur, rfl, _, hgb, _⟩
  · exact .inl rfl
  · refine .inr fun e' => ?_
    have : g = j := by simpa [Value.ownBlock] using e'
    subst this; rw [hgb] at hj; cases hj; exact hno cur rfl
theorem ks_cell_of_box {W : World} {B : Nat} {v : Value} {t : TypeId} (h : W.heap[B]? = some (.cells #[v] t (0, 0))) : W.cell? ⟨B, 0, none⟩ = some v ∧ W.frozen? ⟨B, 0, none⟩ = false := by
  constructor <;> simp [World.cell?, World.frozen?, h]
theorem ks_heap_setCell_box {W : World} {B : Nat} {v : Value} {t : TypeId} (v' : Value) (h : W.heap[B]? = some (.cells #[v] t (0, 0))) : (W.setCell ⟨B, 0, none⟩ v').heap[B]? = some (.cells #[v'] t (0, 0)) := by
  obtain ⟨hlt, hk⟩ := Array.getElem?_eq_some_iff.1 h
  show (W.heap.modify B _)[B]? = _
  rw [Array.getElem?_eq_getElem (by rw [Array.size_modify]; exact hlt), Array.getElem_modify_self, hk]
  rfl
theorem ks_ownsRow_not_walk {W : World} {base : Nat} {e : TypeId} {size : Nat} {v : Value} {k : Nat} {xs : List Value} (h : W.ownsRow base e size v k xs) : ∀ (j : Nat) (o : Obj), v.ownBlock = some j → W.heap[j]? = some o → o.isWalk = false := by
  intro j o hj ho
  rcases h.2 with ⟨rfl, _⟩ | ⟨g, cap, cur, rfl, _, hgb, _⟩
  · simp [Value.ownBlock] at hj
  · have : g = j := by simpa [Value.ownBlock] using hj
    subst this; rw [hgb] at ho; cases ho; rfl
theorem ksinfo26 : (Tryz.prog.info? 38).map (fun i => (i.zero, i.size, i.bytes)) = some (some (.int .u32 0), 1, 4) := by kernel_rfl
set_option maxRecDepth 100000 in
theorem ksapYield (F : Fence) (m : Nat) (w0 : World) (fn : FuncId) (hfn : F.fn fn) (sv : Value) (Bs l D : Nat) (hBl : Bs ≠ l) (hDl : D ≠ l) (hDB : D ≠ Bs) (h0B : w0.heap.size ≤ Bs) (h0l : w0.heap.size ≤ l)
    (N : Nat) (hN : N ≤ maxLen) (hNb : N * 4 ≤ 140737488355328) (ss : List Nat) (x : Nat) (W : World) (h : KsApAt w0 fn sv Bs l D ss W) (hlen : ss.length < N) :
    YieldAt F m Tryz.prog l #[encU x] W fun e W' => e = .returned (.bool true) ∧ KsApAt w0 fn sv Bs l D (ss ++ [x]) W' ∧ KeepsWalks W W' := by
  obtain ⟨i0, hi, hz0, hz1, hz2⟩ := info_parts ksinfo26
  obtain ⟨v, hv, hrow, _⟩ := h.box
  refine ⟨fn, #[.slice none 0 0, sv, .pointer (some ⟨Bs, 0, none⟩), undef, .slice none 0 0, undef, sv, encU x, undef, undef, undef, undef, undef], ksapAssign, ksapBody, by simpa [ksapRec] using run_yield (P := Tryz.prog) (args := #[encU x]) h.L rfl, roundIn_of_wpIn hfn ?_⟩
  have hl : l < W.heap.size := (Array.getElem?_eq_some_iff.1 h.L).1
  have hbr := run_beginRound (P := Tryz.prog) h.L rfl
  obtain ⟨W2, hW2⟩ : ∃ W2, W.putObj l (.loop { ksapRec fn sv Bs D .ready none with state := .busy }) = W2 := ⟨_, rfl⟩
  rw [hW2] at hbr
  have hg2 : W.grownBy W2 (some l) := by rw [← hW2]; exact ks_grownBy_putObj _ _ _
  have hk2 : KeepsWalks W W2 := by rw [← hW2]; exact KeepsWalks.putObj _ h.L rfl
  have hv2 : W2.heap[Bs]? = some (.cells #[v] 110 (0, 0)) := by rw [← hW2]; exact (World.putObj_heap_other hBl).trans hv
  have hK2 : W2.heap[D]? = some (.deferred (some [])) := by rw [← hW2]; exact (World.putObj_heap_other hDl).trans h.K
  have hL2 : W2.heap[l]? = some (.loop { ksapRec fn sv Bs D .ready none with state := .busy }) := by rw [← hW2]; exact World.putObj_heap_same hl
  have hrow2 : W2.ownsRow w0.heap.size 38 1 v ss.length (ss.map encU) := hrow.kept hg2 (ks_ownsRow_ne hrow h.L (fun cur e => by cases e))
  have hb2 : Below w0.heap.size w0 W2 := h.below.grown hg2 h.below.size (fun k e => by cases e; exact h0l)
  obtain ⟨hc2, hf2⟩ := ks_cell_of_box hv2
  have hBlt : Bs < W2.heap.size := (Array.getElem?_eq_some_iff.1 hv2).1
  have hl2 : l < W2.heap.size := (Array.getElem?_eq_some_iff.1 hL2).1
  have hDlt : D < W2.heap.size := (Array.getElem?_eq_some_iff.1 hK2).1
  have ne_of : ∀ {j : Nat} {o : Obj}, W2.heap[j]? = some o → (∀ cur, o ≠ .cells cur 38 (0, 0)) → some j ≠ v.ownBlock := fun hj hno => by
    rcases ks_ownsRow_ne hrow2 hj hno with e | e
    · rw [e]; simp
    · exact fun e' => e e'.symm
  clear hW2
  unfold ksapAssign
  gi_wp2_with (rw [Oper.semAt_eq _ _ _ (fun c h => by cases h)]; go_simp; try go_bits)
  unfold ksapBody
  gi_wp2_with (first | (gi_at_builtin; refine wpListIn_append_own _ rfl _ _ 110 rfl w0.heap.size 38 i0 (.int .u32 0) 1 4 Tryz.underlying110 hi hz0 hz1 hz2 rfl (by decide) _ _ _ rfl (hrow2.alloc _) ⟨W2.heap.size, 0, none⟩ 1 1 [encU x] rfl rfl (cell_one_new _ _ _) (by simp [Value.oneCell', encU]) (by omega) (by omega) (by have := hb2.size; simp; omega) ?_; intro v' w3 hown' hg3 hnil3; have hv3 : w3.heap[Bs]? = some (.cells #[v] 110 (0, 0)) := (hg3.block Bs (by simp; omega) (ne_of hv2 (fun cur e => by cases e))).trans ((Below.heap_alloc _ _ Bs hBlt).trans hv2); obtain ⟨hc3, hf3⟩ := ks_cell_of_box hv3; obtain ⟨g', cap', cur', rfl, hbase', hgb', hr1, hr2, hr3, hr4⟩ : ∃ g' cap' cur', v' = .slice (some ⟨g', 0, none⟩) (ss.length + 1) cap' ∧ w0.heap.size ≤ g' ∧ w3.heap[g']? = some (.cells cur' 38 (0, 0)) ∧ ss.length + 1 ≤ cap' ∧ cap' ≤ maxLen ∧ cur'.size = cap' * 1 ∧ cur'.toList.take ((ss.length + 1) * 1) = ss.map encU ++ [encU x] := hown'.2.elim (fun h0 => absurd h0.2 (by omega)) id; go_frame) | (rw [Oper.semAt_eq _ _ _ (fun c h => by cases h)]; go_simp; try go_bits))
  have hg3' : (W2.alloc (.cells #[encU x] 38)).grownBy w3 v.ownBlock := hg3
  have hL3 : w3.heap[l]? = some (.loop { ksapRec fn sv Bs D .ready none with state := .busy }) := (hg3'.block l (by simp; omega) (ne_of hL2 (fun cur e => by cases e))).trans ((Below.heap_alloc _ _ l hl2).trans hL2)
  have hK3 : w3.heap[D]? = some (.deferred (some [])) := (hg3'.block D (by simp; omega) (ne_of hK2 (fun cur e => by cases e))).trans ((Below.heap_alloc _ _ D hDlt).trans hK2)
  obtain ⟨w4, hw4⟩ : ∃ w4, w3.setCell ⟨Bs, 0, none⟩ (.slice (some ⟨g', 0, none⟩) (ss.length + 1) cap') = w4 := ⟨_, rfl⟩
  rw [hw4]
  have hg4 : w3.grownBy w4 (some Bs) := by rw [← hw4]; exact ks_grownBy_setCell0 _ _ _
  have hv4 : w4.heap[Bs]? = some (.cells #[.slice (some ⟨g', 0, none⟩) (ss.length + 1) cap'] 110 (0, 0)) := by rw [← hw4]; exact ks_heap_setCell_box _ hv3
  have hL4 : w4.heap[l]? = some (.loop { ksapRec fn sv Bs D .ready none with state := .busy }) := (hg4.block l (Array.getElem?_eq_some_iff.1 hL3).1 (fun e => hBl (by cases e; rfl))).trans hL3
  have hK4 : w4.heap[D]? = some (.deferred (some [])) := (hg4.block D (Array.getElem?_eq_some_iff.1 hK3).1 (fun e => hDB (by cases e; rfl))).trans hK3
  have hrow4 := hown'.kept hg4 (ks_ownsRow_ne hown' hv3 (fun cur e => by cases e))
  have hl4 : l < w4.heap.size := (Array.getElem?_eq_some_iff.1 hL4).1
  have hb3 : Below w0.heap.size w0 w3 := (hb2.alloc hb2.size _).grown hg3' (by have := hb2.size; simp; omega) (fun k e => (hrow2.lt k e).1)
  have hb4 : Below w0.heap.size w0 w4 := hb3.grown hg4 hb3.size (fun k e => by cases e; exact h0B)
  have hk4 : KeepsWalks W w4 := ((hk2.trans (KeepsWalks.alloc _ _)).trans (KeepsWalks.of_grownBy hg3' (ks_ownsRow_not_walk (hrow2.alloc _)))).trans (by rw [← hw4]; exact KeepsWalks.setCell _ _ _)
  clear hw4
  refine ⟨_, _, run_endRound none hL4, rfl, ⟨⟨_, (World.putObj_heap_other hBl).trans hv4, ?_, by simp⟩, World.putObj_heap_same hl4, (World.putObj_heap_other hDl).trans hK4, hb4.grown (ks_grownBy_putObj _ _ _) hb4.size (fun k e => by cases e; exact h0l)⟩, hk4.trans (KeepsWalks.putObj _ hL4 rfl)⟩
  have := hrow4.kept (ks_grownBy_putObj w4 l (.loop { { ksapRec fn sv Bs D .ready none with state := .busy } with state := if (none : Option Code).isNone then .ready else .done, pending := none })) (ks_ownsRow_ne hrow4 hL4 (fun cur e => by cases e))
  simpa using this
set_option maxRecDepth 100000 in
theorem ksappendSeq_in (F : Fence) (n : Nat) (h11 : F.fn 194) (hro : F.round = none) (hn : 2 ≤ n) (g : Nat) (lb : Array Value) (hFg : F.fn g) (eg : ∀ args w, (callFunc g args).run Tryz.prog w = .ok (.enter g args) w)
    (S : List Nat → Prop) (N : Nat) (hN : N ≤ maxLen) (hNb : N * 4 ≤ 140737488355328) (w : World) (hseq : SeqGives F (n - 1) Tryz.prog g lb encU S N w) :
    CallsIn F n Tryz.prog 194 #[.slice none 0 0, .func (.func g) #[] lb] w fun e w' => ∃ (v : Value) (ss : List Nat), e = .returned v ∧ S ss ∧ w'.ownsRow w.heap.size 38 1 v ss.length (ss.map encU) ∧ (v = .slice none 0 0 ↔ ss = []) ∧ Below w.heap.size w w' := by
  have h1 : 1 ≤ n := by omega
  refine callsIn_of_wp_marks Tryz.func194 rfl h11 ?_ hro
  simp only [Tryz.ntmps194, List.size_toArray, List.length_cons, List.length_nil, Nat.reduceAdd, Nat.reduceSub, Array.replicate_succ, Array.replicate_zero, List.push_toArray, List.append_toArray, List.nil_append, List.cons_append]
  gi_wp2
  refine wpIn_rangeFunc ?_
  intro fn hfn
  rw [hro]
  obtain ⟨W0, hW0⟩ : ∃ W0, w.alloc (.cells #[.slice none 0 0] 110) = W0 := ⟨_, rfl⟩
  have hs0 : W0.heap.size = w.heap.size + 1 := by rw [← hW0]; simp
  have hv0 : W0.heap[w.heap.size]? = some (.cells #[.slice none 0 0] 110 (0, 0)) := by rw [← hW0]; exact World.alloc_heap_new w _
  have hb0 : Below w.heap.size w W0 := by rw [← hW0]; exact (Below.refl _ w).alloc (Nat.le_refl _) _
  rw [hW0]
  obtain ⟨W1, hW1⟩ : ∃ W1, (W0.alloc (.deferred (some []))).alloc (.loop (ksapRec fn (.func (.func g) #[] lb) w.heap.size W0.heap.size .ready none)) = W1 := ⟨_, rfl⟩
  have hold : ∀ k, k < W0.heap.size → W1.heap[k]? = W0.heap[k]? := fun k hk => by
    rw [← hW1]; exact (Below.heap_alloc _ _ k (by simp; omega)).trans (Below.heap_alloc _ _ k hk)
  have hb1 : Below w.heap.size w W1 := by rw [← hW1]; exact (hb0.alloc hb0.size _).alloc (by have := hb0.size; simp; omega) _
  have hs1 : W1.heap.size = W0.heap.size + 2 := by rw [← hW1]; simp
  have hM : KsApAt w fn (.func (.func g) #[] lb) w.heap.size (W0.heap.size + 1) W0.heap.size [] W1 :=
    ⟨⟨_, (hold w.heap.size (by omega)).trans hv0, ⟨rfl, .inl ⟨rfl, rfl⟩⟩, by simp⟩,
     by rw [← hW1]; have := World.alloc_heap_new (W0.alloc (.deferred (some []))) (.loop (ksapRec fn (.func (.func g) #[] lb) w.heap.size W0.heap.size .ready none)); rwa [World.size_alloc] at this,
     by rw [← hW1]; exact (Below.heap_alloc _ _ _ (by simp)).trans (World.alloc_heap_new W0 _), hb1⟩
  refine ⟨W0.heap.size + 1, [{ target := .collected W0.heap.size, args := #[] }], W1, { target := .fn (.func g) lb, args := #[.func (.yield (W0.heap.size + 1)) #[] #[]] }, W1, g,
    #[.func (.yield (W0.heap.size + 1)) #[] #[]] ++ lb, W1, ?_, ?_, ?_, ?_, fun _ => h1, ?_⟩
  · rw [← hW1]; exact run_enterLoop_outer _ _ _ _ _
  · simp [resolve, go_sem]
  · intro f' hf'; simp [Target.leads] at hf'; subst hf'; exact hFg
  · simp [invoke, go_sem, eg]
  · refine (hseq (W0.heap.size + 1) (KsApAt w fn (.func (.func g) #[] lb) w.heap.size (W0.heap.size + 1) W0.heap.size) W1 hb1 (ksap_abides _ _ _ _ _ _ _ hb1.size)
      (fun pre x W hJ hl => ksapYield F (n - 1 - 1) w fn hfn _ w.heap.size (W0.heap.size + 1) W0.heap.size (by omega) (by omega) (by omega) (Nat.le_refl _) (by omega) N hN hNb pre x W hJ hl) hM).mono ?_
    rintro e W2 ⟨⟨v0, rfl⟩, ss, hS, h2⟩
    obtain ⟨v, hv, hrow, hnil⟩ := h2.box
    have hend := run_endLoop (P := Tryz.prog) h2.L (by simp [ksapRec])
    obtain ⟨W3, hW3⟩ : ∃ W3, W2.putObj (W0.heap.size + 1) (.loop { ksapRec fn (.func (.func g) #[] lb) w.heap.size W0.heap.size .ready none with state := .exhausted }) = W3 := ⟨_, rfl⟩
    rw [hW3] at hend
    have hg3 : W2.grownBy W3 (some (W0.heap.size + 1)) := by rw [← hW3]; exact ks_grownBy_putObj _ _ _
    have hv3 : W3.heap[w.heap.size]? = some (.cells #[v] 110 (0, 0)) := by rw [← hW3]; exact (World.putObj_heap_other (by omega)).trans hv
    have hK3 : W3.heap[W0.heap.size]? = some (.deferred (some [])) := by rw [← hW3]; exact (World.putObj_heap_other (by omega)).trans h2.K
    have hrow3 := hrow.kept hg3 (ks_ownsRow_ne hrow h2.L (fun cur e => by cases e))
    have hb3 : Below w.heap.size w W3 := h2.below.grown hg3 h2.below.size (fun k e => by cases e; omega)
    obtain ⟨hc3, hf3⟩ := ks_cell_of_box hv3
    clear hW3
    refine ⟨none, W3, hend, ?_⟩
    gi_wp2
    rw [← hs0]
    refine ⟨by simp, .inl ⟨_, _, rfl, run_takeDeferred hK3, ?_⟩⟩
    exact ⟨_, results_tmp rfl _ _ _, v, ss, rfl, hS, hrow3.kept (ks_grownBy_putObj _ _ _) (ks_ownsRow_ne hrow3 hK3 (fun cur e => by cases e)), hnil, hb3.grown (ks_grownBy_putObj _ _ _) hb3.size (fun k e => by cases e; omega)⟩
theorem kscollect_in (F : Fence) (n : Nat) (h8 : F.fn 133) (h11 : F.fn 194) (hro : F.round = none) (hn : 3 ≤ n) (g : Nat) (lb : Array Value) (hFg : F.fn g) (eg : ∀ args w, (callFunc g args).run Tryz.prog w = .ok (.enter g args) w)
    (S : List Nat → Prop) (N : Nat) (hN : N ≤ maxLen) (hNb : N * 4 ≤ 140737488355328) (w : World) (hseq : SeqGives F (n - 1 - 1) Tryz.prog g lb encU S N w) :
    CallsIn F n Tryz.prog 133 #[.func (.func g) #[] lb] w fun e w' => ∃ (v : Value) (ss : List Nat), e = .returned v ∧ S ss ∧ w'.ownsRow w.heap.size 38 1 v ss.length (ss.map encU) ∧ (v = .slice none 0 0 ↔ ss = []) ∧ Below w.heap.size w w' := by
  have h1 : 1 ≤ n := by omega
  refine callsIn_of_wp Tryz.func133 rfl h8 ?_ hro
  simp only [Tryz.ntmps133, List.size_toArray, List.length_cons, List.length_nil, Nat.reduceAdd, Nat.reduceSub, Array.replicate_succ, Array.replicate_zero, List.push_toArray, List.append_toArray, List.nil_append, List.cons_append]
  gi_wp2_with (gi_at_call 194; refine (ksappendSeq_in F (n - 1) h11 hro (by omega) g lb hFg eg S N hN hNb _ hseq).mono ?_; rintro e w' ⟨v, ss, rfl, hS, hrow, hnil, hb⟩)
  go_ret
  exact ⟨v, ss, rfl, hS, hrow, hnil, hb⟩
theorem kskeys_in (F : Fence) (n : Nat) (h7 : F.fn 73) (hro : F.round = none) (mb : Option Nat) (w : World) :
    CallsIn F n Tryz.prog 73 #[.map mb] w fun e w' => e = .returned (.func (.func 135) #[] #[.pointer (some ⟨w.heap.size, 0, none⟩)]) ∧ w' = w.alloc (.cells #[.map mb] 97) := by
  refine callsIn_of_wp Tryz.func73 rfl h7 ?_ hro
  simp only [Tryz.ntmps73, List.size_toArray, List.length_cons, List.length_nil, Nat.reduceAdd, Nat.reduceSub, Array.replicate_succ, Array.replicate_zero, List.push_toArray, List.append_toArray, List.nil_append, List.cons_append]
  gi_wp2
  go_ret
  exact ⟨rfl, rfl⟩
end Go.Proofs.YtcbkaiakdhiloacGreatDoor
namespace Go.Proofs.YtcbkaiakdhiloacGreatDoor
open Go.RowKit Go.Proofs Go.Maps
/-! plain lists -/
def at0 (c : List Nat) (p : Nat) : Nat := c.getD p 0
theorem at0_set (c : List Nat) (a v p : Nat) (h : a < c.length) : at0 (c.set a v) p = if p = a then v else at0 c p := by
  unfold at0
  rw [List.getD_eq_getElem?_getD, List.getD_eq_getElem?_getD, List.getElem?_set]
  by_cases hp : a = p
  · subst hp; simp [h]
  · rw [if_neg hp, if_neg (fun e => hp e.symm)]
def Srt (c : List Nat) (m : Nat) : Prop := ∀ p q, p < q → q < m → at0 c p ≤ at0 c q
def Good (c : List Nat) (i j : Nat) : Prop := (∀ p q, p < q → q ≤ i → p ≠ j → q ≠ j → at0 c p ≤ at0 c q) ∧ (∀ q, j < q → q ≤ i → at0 c j ≤ at0 c q)
theorem Good.start {c : List Nat} {i : Nat} (h : Srt c i) : Good c i i := ⟨fun p q h1 h2 h3 h4 => h p q h1 (by omega), fun q h1 h2 => by omega⟩
theorem Good.done {c : List Nat} {i j : Nat} (h : Good c i j) (hj : j ≤ i) (he : j = 0 ∨ at0 c (j - 1) ≤ at0 c j) : Srt c (i + 1) := by
  intro p q h1 h2
  by_cases hp : p = j
  · subst hp; exact h.2 q h1 (by omega)
  · by_cases hq : q = j
    · subst hq
      rcases he with he | he
      · omega
      · by_cases hp' : p = q - 1
        · subst hp'; exact he
        · exact Nat.le_trans (h.1 p (q - 1) (by omega) (by omega) hp (by omega)) he
    · exact h.1 p q h1 (by omega) hp hq
theorem Good.swap {c : List Nat} {i k : Nat} (h : Good c i (k + 1)) (hk : k + 1 ≤ i) (hi : i < c.length) (hlt : at0 c (k + 1) < at0 c k) : Good ((c.set (k + 1) (at0 c k)).set k (at0 c (k + 1))) i k := by
  have e : ∀ p, at0 ((c.set (k + 1) (at0 c k)).set k (at0 c (k + 1))) p = if p = k then at0 c (k + 1) else if p = k + 1 then at0 c k else at0 c p := fun p => by
    rw [at0_set _ _ _ _ (by rw [List.length_set]; omega), at0_set _ _ _ _ (by omega)]
  constructor
  · intro p q h1 h2 h3 h4
    rw [e, e, if_neg h3, if_neg h4]
    by_cases hp : p = k + 1
    · rw [if_pos hp]
      by_cases hq : q = k + 1
      · omega
      · rw [if_neg hq]; exact h.1 k q (by omega) h2 (by omega) hq
    · rw [if_neg hp]
      by_cases hq : q = k + 1
      · rw [if_pos hq]; exact h.1 p k (by omega) (by omega) hp (by omega)
      · rw [if_neg hq]; exact h.1 p q h1 h2 hp hq
  · intro q h1 h2
    rw [e, e, if_pos rfl, if_neg (by omega)]
    by_cases hq : q = k + 1
    · rw [if_pos hq]; omega
    · rw [if_neg hq]; exact h.2 q (by omega) h2
theorem swap_perm (c : List Nat) (a b : Nat) (ha : a < c.length) (hb : b < c.length) : ((c.set a (at0 c b)).set b (at0 c a)).Perm c := by
  have h1 : at0 c b = c[b] := by unfold at0; rw [List.getD_eq_getElem?_getD, List.getElem?_eq_getElem hb]; rfl
  have h2 : at0 c a = c[a] := by unfold at0; rw [List.getD_eq_getElem?_getD, List.getElem?_eq_getElem ha]; rfl
  rw [h1, h2]
  exact List.set_set_perm ha hb
theorem srt_pw {c : List Nat} (h : Srt c c.length) : c.Pairwise (· ≤ ·) := by
  rw [List.pairwise_iff_getElem]
  intro i j hi hj hij
  have := h i j hij hj
  unfold at0 at this
  rw [List.getD_eq_getElem?_getD, List.getD_eq_getElem?_getD, List.getElem?_eq_getElem hi, List.getElem?_eq_getElem hj] at this
  exact this
theorem pw_unique : ∀ (a b : List Nat), a.Pairwise (· ≤ ·) → b.Pairwise (· ≤ ·) → a.Perm b → a = b
  | [], b, _, _, h => (List.nil_perm.1 h).symm ▸ rfl
  | x :: a, [], _, _, h => by have := h.length_eq; cases this
  | x :: a, y :: b, ha, hb, h => by
    rw [List.pairwise_cons] at ha hb
    have hx : x ∈ y :: b := h.mem_iff.1 (by simp)
    have hy : y ∈ x :: a := h.mem_iff.2 (by simp)
    have : x = y := by
      simp only [List.mem_cons] at hx hy
      rcases hx with rfl | hx
      · rfl
      · rcases hy with rfl | hy
        · rfl
        · have := ha.1 y hy; have := hb.1 x hx; omega
    subst this
    rw [pw_unique a b ha.2 hb.2 h.cons_inv]
theorem insN_perm (x : Nat) : ∀ l : List Nat, (insN x l).Perm (x :: l)
  | [] => List.Perm.refl _
  | y :: r => by
    unfold insN
    split
    · exact List.Perm.refl _
    · exact ((insN_perm x r).cons y).trans (List.Perm.swap x y r)
theorem insN_pw (x : Nat) : ∀ l : List Nat, l.Pairwise (· ≤ ·) → (insN x l).Pairwise (· ≤ ·)
  | [], _ => by simp [insN]
  | y :: r, h => by
    unfold insN
    rw [List.pairwise_cons] at h
    split
    · next hxy => exact List.pairwise_cons.2 ⟨fun z hz => by rcases List.mem_cons.1 hz with rfl | hz; exact hxy; exact Nat.le_trans hxy (h.1 z hz), List.pairwise_cons.2 h⟩
    · next hxy =>
      refine List.pairwise_cons.2 ⟨fun z hz => ?_, insN_pw x r h.2⟩
      rcases List.mem_cons.1 ((insN_perm x r).mem_iff.1 hz) with rfl | hz
      · omega
      · exact h.1 z hz
theorem sortN_perm : ∀ l : List Nat, (sortN l).Perm l
  | [] => List.Perm.refl _
  | x :: r => (insN_perm x _).trans ((sortN_perm r).cons x)
theorem sortN_pw : ∀ l : List Nat, (sortN l).Pairwise (· ≤ ·)
  | [] => List.Pairwise.nil
  | x :: r => insN_pw x _ (sortN_pw r)
/-! in memory -/
def UA (w : World) (g : Nat) (c : List Nat) : Prop := ∃ cur, Bk w g 38 cur ∧ c.length ≤ cur.size ∧ ∀ (j x : Nat), c[j]? = some x → cur[j]? = some (encU x)
theorem UA.get {w : World} {g : Nat} {c : List Nat} (h : UA w g c) {j : Nat} (hj : j < c.length) : w.cell? ⟨g, j, none⟩ = some (.int .u32 (at0 c j : Int)) := by
  obtain ⟨cur, h1, h2, h3⟩ := h
  have := h3 j (at0 c j) (by unfold at0; rw [List.getD_eq_getElem?_getD, List.getElem?_eq_getElem hj]; rfl)
  exact (h1.cell j).trans this
theorem UA.fr {w : World} {g : Nat} {c : List Nat} (h : UA w g c) (j : Nat) : w.frozen? ⟨g, j, none⟩ = false := by obtain ⟨cur, h1, _⟩ := h; exact h1.free j
theorem UA.lt {w : World} {g : Nat} {c : List Nat} (h : UA w g c) : g < w.heap.size := by obtain ⟨cur, h1, _⟩ := h; exact h1.lt
theorem UA.set {w : World} {g : Nat} {c : List Nat} (h : UA w g c) {j : Nat} (y : Nat) (hj : j < c.length) : UA (w.setCell ⟨g, j, none⟩ (.int .u32 (y : Int))) g (c.set j y) := by
  obtain ⟨cur, h1, h2, h3⟩ := h
  refine ⟨_, h1.set j _, by simp; omega, fun i x hx => ?_⟩
  rw [List.getElem?_set] at hx
  by_cases hi : j = i
  · subst hi
    rw [if_pos rfl, if_pos hj] at hx
    cases hx
    rw [Array.getElem?_setIfInBounds_self_of_lt (by omega)]
  · rw [if_neg hi] at hx
    rw [Array.getElem?_setIfInBounds_ne hi]
    exact h3 i x hx
theorem UA.keep {w w' : World} {S : Nat → Prop} {g : Nat} {c : List Nat} (h : UA w g c) (hf : Fr S w w') (hg : ¬ S g) : UA w' g c := by
  obtain ⟨cur, h1, h2⟩ := h; exact ⟨cur, h1.keep hf hg, h2⟩
theorem isNaN0 (a : Nat) (w : World) : Calls Tryz.prog 277 #[.int .u32 (a : Int)] w fun e w' => e = .returned (.bool false) ∧ w = w' := by
  go_enter Tryz.func277, Tryz.ntmps277
  go_wp2_with fail
  go_ret
  exact ⟨by simp, rfl⟩
theorem lessIP (a b : Nat) (w : World) : Calls Tryz.prog 244 #[.int .u32 (a : Int), .int .u32 (b : Int)] w fun e w' => e = .returned (.bool (decide (a < b))) ∧ w = w' := by
  go_enter Tryz.func244, Tryz.ntmps244
  go_wp2_with fail
  refine (isNaN0 a _).mono ?_
  rintro e w2 ⟨rfl, rfl⟩
  go_wp2_with fail
  go_ret
  exact ⟨by simp, rfl⟩
def isF (u : Nat → Value) : Act := ⟨#[u 0, u 1, u 2, u 3, u 4, u 5, u 6, u 7, u 8, u 9, u 10, u 11, u 12, u 13, u 14, u 15, u 16, u 17, u 18, u 19, u 20, u 21, u 22, u 23, u 24, u 25, u 26, u 27, u 28, u 29, u 30, u 31, u 32, u 33, u 34, u 35, u 36, u 37, u 38, u 39, u 40, u 41, u 42, u 43, u 44, u 45, u 46, u 47, u 48], []⟩
set_option maxRecDepth 100000 in
theorem isF_eq (u : Nat → Value) : isF u = frN 49 u := rfl
theorem isF_of {a : Act} (h : Sz 49 a) : a = isF (sl a) := h.eq.trans (isF_eq _).symm
theorem isR0  (a : Act) (w : World) (K : Exit → Act → World → Prop) (hs : Sz 49 a)
    (h1 : sl a 1 = .int .i64 0) 
    (hK : ∀ a' w', Sz 49 a' → Kp [0, 1, 2, 7] a a' → sl a' 6 = .int .i64 1 → w' = w → K .normal a' w') :
    (regionOf Tryz.f238 0).wp Tryz.prog K a w := by
  unfold Kp at hK; rw [isF_of hs]; clear hs; generalize sl a = u at *; clear a; have HK := Lib.hid hK; clear hK; conv => arg 2; whnf
  simp only [isF, h1]
  go_wp2_with fail
  exact HK.out _ _  ⟨rfl, rfl⟩ (Kc rfl (Kc h1.symm (Kc rfl (Kc rfl (Kn _ _))))) (rfl) rfl
theorem isR1 (i n : Nat) (a : Act) (w : World) (K : Exit → Act → World → Prop) (hs : Sz 49 a)
    (h6 : sl a 6 = .int .i64 (i : Int)) (h2 : sl a 2 = .int .i64 (n : Int)) 
    (hK : ∀ a' w', Sz 49 a' → Kp [0, 1, 2, 6, 7] a a' → sl a' 12 = .bool (decide (i < n)) → w' = w → K .normal a' w') :
    (regionOf Tryz.f238 1).wp Tryz.prog K a w := by
  unfold Kp at hK; rw [isF_of hs]; clear hs; generalize sl a = u at *; clear a; have HK := Lib.hid hK; clear hK; conv => arg 2; whnf
  simp only [isF, h6, h2]
  go_wp2_with fail
  exact HK.out _ _  ⟨rfl, rfl⟩ (Kc rfl (Kc rfl (Kc h2.symm (Kc h6.symm (Kc rfl (Kn _ _)))))) (congrArg Value.bool (decide_eq_decide.2 (by omega))) rfl
theorem isR3 (i : Nat) (a : Act) (w : World) (K : Exit → Act → World → Prop) (hs : Sz 49 a)
    (h6 : sl a 6 = .int .i64 (i : Int)) 
    (hK : ∀ a' w', Sz 49 a' → Kp [0, 1, 2, 6] a a' → sl a' 7 = .int .i64 (i : Int) → w' = w → K .normal a' w') :
    (regionOf Tryz.f238 3).wp Tryz.prog K a w := by
  unfold Kp at hK; rw [isF_of hs]; clear hs; generalize sl a = u at *; clear a; have HK := Lib.hid hK; clear hK; conv => arg 2; whnf
  simp only [isF, h6]
  go_wp2_with fail
  exact HK.out _ _  ⟨rfl, rfl⟩ (Kc rfl (Kc rfl (Kc rfl (Kc h6.symm (Kn _ _))))) (rfl) rfl
theorem isR5 (j k : Nat) (a : Act) (w : World) (K : Exit → Act → World → Prop) (hs : Sz 49 a)
    (h7 : sl a 7 = .int .i64 (j : Int)) (q : IntKind.i64.wrap ((j : Int) - 1) = (k : Int))
    (hK : ∀ a' w', Sz 49 a' → Kp [0, 1, 2, 6] a a' → sl a' 7 = .int .i64 (k : Int) → w' = w → K .normal a' w') :
    (regionOf Tryz.f238 5).wp Tryz.prog K a w := by
  unfold Kp at hK; rw [isF_of hs]; clear hs; generalize sl a = u at *; clear a; have HK := Lib.hid hK; clear hK; conv => arg 2; whnf
  simp only [isF, h7]
  clear h7
  go_wp2_with fail
  exact HK.out _ _  ⟨rfl, rfl⟩ (Kc rfl (Kc rfl (Kc rfl (Kc rfl (Kn _ _))))) (rfl) rfl
theorem isR2 (i j : Nat) (a : Act) (w : World) (K : Exit → Act → World → Prop) (hs : Sz 49 a)
    (h6 : sl a 6 = .int .i64 (i : Int)) (q : IntKind.i64.wrap ((i : Int) + 1) = (j : Int))
    (hK : ∀ a' w', Sz 49 a' → Kp [0, 1, 2, 7] a a' → sl a' 6 = .int .i64 (j : Int) → w' = w → K .normal a' w') :
    (regionOf Tryz.f238 2).wp Tryz.prog K a w := by
  unfold Kp at hK; rw [isF_of hs]; clear hs; generalize sl a = u at *; clear a; have HK := Lib.hid hK; clear hK; conv => arg 2; whnf
  simp only [isF, h6]
  clear h6
  go_wp2_with fail
  exact HK.out _ _  ⟨rfl, rfl⟩ (Kc rfl (Kc rfl (Kc rfl (Kc rfl (Kn _ _))))) (rfl) rfl
theorem isR4a (g n cap : Nat) (a : Act) (w : World) (K : Exit → Act → World → Prop) (hs : Sz 49 a)
    (h0 : sl a 0 = .slice (some ⟨g, 0, none⟩) n cap) (h1 : sl a 1 = .int .i64 0) (h7 : sl a 7 = .int .i64 0) 
    (hK : ∀ a' w', Sz 49 a' → Kp [0, 1, 2, 6, 7] a a' → sl a' 30 = .bool false → Fr noB w w' → K .normal a' w') :
    (regionOf Tryz.f238 4).wp Tryz.prog K a w := by
  unfold Kp at hK; rw [isF_of hs]; clear hs; generalize sl a = u at *; clear a; have HK := Lib.hid hK; clear hK; conv => arg 2; whnf
  simp only [isF, h0, h1, h7]
  refine wp_region_pls (by kernel_rfl) (fun w' => Fr noB w w') [] (.p 0 (.p 1 (.p 2 (.p 3 (.p 4 (.p 5 (.p 6 (.p 8 (.p 9 (.p 10 (.p 11 (.q 7 (.q 12 (.e 13 (.p 14 .nil))))))))))))))) (by kernel_rfl) ((Fr.refl _ _).drew) ?_
  intro ops Q' hO hQ' wr1 hR1
  iterate 4 (refine pl_p0 hO rfl rfl ?_ (fun w' => ?_) ?_; rotate_left 1; (focus (go_simp; ((try with_reducible rfl); done))); simp only [Act.put, List.setIfInBounds_toArray, List.set_cons_zero, List.set_cons_succ])
  iterate 7 (refine pl_pn hO rfl rfl rfl rfl ?_; simp only [Act.put, List.setIfInBounds_toArray, List.set_cons_zero, List.set_cons_succ])
  iterate 2 (refine pl_qn hO rfl rfl rfl rfl ?_; simp only [Act.put, List.setIfInBounds_toArray, List.set_cons_zero, List.set_cons_succ])
  refine pl_en hO rfl rfl rfl rfl rfl (fun _ => hR1) ?_
  simp only [Act.put, List.setIfInBounds_toArray, List.set_cons_zero, List.set_cons_succ]
  refine pl_p0 hO rfl rfl ?_ (fun w' => ?_) ?_; rotate_left 1; (focus (go_simp; ((try with_reducible rfl); done))); simp only [Act.put, List.setIfInBounds_toArray, List.set_cons_zero, List.set_cons_succ]
  refine pl_nil (hQ' _ _ ?_)
  exact HK.out _ _  ⟨rfl, rfl⟩ (Kc h0.symm (Kc h1.symm (Kc rfl (Kc rfl (Kc h7.symm (Kn _ _)))))) (rfl) hR1
theorem isR4b (g n cap : Nat) (c : List Nat) (j k : Nat) (a : Act) (w : World) (K : Exit → Act → World → Prop) (hs : Sz 49 a)
    (h0 : sl a 0 = .slice (some ⟨g, 0, none⟩) n cap) (h1 : sl a 1 = .int .i64 0) (h7 : sl a 7 = .int .i64 (j : Int)) (h : UA w g c) (hn : c.length = n) (hk1 : j < c.length) (hk0 : k < c.length) (q : IntKind.i64.wrap ((j : Int) - 1) = (k : Int)) (qn : (j : Int) < (n : Int)) (qn0 : (k : Int) < (n : Int)) (qz : (0 : Int) < (j : Int)) (qz2 : 0 < j) (qc : n ≤ cap)
    (hK : ∀ a' w', Sz 49 a' → Kp [0, 1, 2, 6, 7] a a' → sl a' 30 = .bool (decide (at0 c j < at0 c k)) → UA w' g c → Fr noB w w' → K .normal a' w') :
    (regionOf Tryz.f238 4).wp Tryz.prog K a w := by
  unfold Kp at hK; rw [isF_of hs]; clear hs; generalize sl a = u at *; clear a; have HK := Lib.hid hK; clear hK; conv => arg 2; whnf
  simp only [isF, h0, h1, h7]
  refine wp_region_pls (by kernel_rfl) (fun w' => UA w' g c ∧ Fr noB w w') [] (.p 0 (.p 1 (.p 2 (.p 3 (.p 4 (.p 5 (.p 6 (.p 8 (.p 9 (.p 10 (.p 11 (.q 7 (.q 12 (.e 13 (.p 14 .nil))))))))))))))) (by kernel_rfl) (⟨h.keep ((Fr.refl noB w).drew) (fun x => x), (Fr.refl _ _).drew⟩) ?_
  intro ops Q' hO hQ' wr1 hR1
  iterate 4 (refine pl_p0 hO rfl rfl ?_ (fun w' => ?_) ?_; rotate_left 1; (focus (go_simp; ((try with_reducible rfl); done))); simp only [Act.put, List.setIfInBounds_toArray, List.set_cons_zero, List.set_cons_succ])
  iterate 7 (refine pl_p1 hO rfl rfl rfl rfl ?_ (fun w' => ?_) ?_; rotate_left 1; (focus (go_simp; ((try with_reducible rfl); done))); simp only [Act.put, List.setIfInBounds_toArray, List.set_cons_zero, List.set_cons_succ])
  iterate 2 (refine pl_q1 hO rfl rfl rfl rfl ?_ (fun w' hS => ?_) ?_; rotate_left 1; (focus (obtain ⟨hU, hF⟩ := hS; have g1 := hU.get hk1; have g0 := hU.get hk0; go_simp; ((try with_reducible rfl); done))); simp only [Act.put, List.setIfInBounds_toArray, List.set_cons_zero, List.set_cons_succ])
  refine pl_e1 hO rfl rfl rfl rfl rfl (fun K hK => ?_)
  go_simp
  refine (lessIP (at0 c j) (at0 c k) _).mono ?_
  rintro e w2 ⟨rfl, rfl⟩
  refine hK _ _ (hR1) (fun hR_13 => ?_)
  clear hK K
  refine pl_p0 hO rfl rfl ?_ (fun w' => ?_) ?_; rotate_left 1; (focus (go_simp; ((try with_reducible rfl); done))); simp only [Act.put, List.setIfInBounds_toArray, List.set_cons_zero, List.set_cons_succ]
  refine pl_nil (hQ' _ _ ?_)
  exact HK.out _ _  ⟨rfl, rfl⟩ (Kc h0.symm (Kc h1.symm (Kc rfl (Kc rfl (Kc h7.symm (Kn _ _)))))) (rfl) hR_13.1 hR_13.2
theorem isR6 (g n cap : Nat) (c : List Nat) (j k : Nat) (a : Act) (w : World) (K : Exit → Act → World → Prop) (hs : Sz 49 a)
    (h0 : sl a 0 = .slice (some ⟨g, 0, none⟩) n cap) (h7 : sl a 7 = .int .i64 (j : Int)) (h : UA w g c) (hn : c.length = n) (hk1 : j < c.length) (hk0 : k < c.length) (q : IntKind.i64.wrap ((j : Int) - 1) = (k : Int)) (qn : (j : Int) < (n : Int)) (qn0 : (k : Int) < (n : Int)) (qz : (0 : Int) < (j : Int)) (qz2 : 0 < j) (qc : n ≤ cap)
    (hK : ∀ a' w', Sz 49 a' → Kp [0, 1, 2, 6, 7] a a' → UA w' g ((c.set j (at0 c k)).set k (at0 c j)) → Fr (oneB g) w w' → K .normal a' w') :
    (regionOf Tryz.f238 6).wp Tryz.prog K a w := by
  unfold Kp at hK; rw [isF_of hs]; clear hs; generalize sl a = u at *; clear a; have HK := Lib.hid hK; clear hK; conv => arg 2; whnf
  simp only [isF, h0, h7]
  refine wp_region_pls (by kernel_rfl) (fun w' => UA w' g c ∧ Fr noB w w') [15, 17] (.p 0 (.p 1 (.p 2 (.p 3 (.p 4 (.p 5 (.p 6 (.p 7 (.p 8 (.p 10 (.p 11 (.p 12 (.q 9 (.q 13 (.p 14 (.e 15 (.p 16 (.e 17 (.nil))))))))))))))))))) (by kernel_rfl) (⟨h.keep ((Fr.refl noB w).drew) (fun x => x), (Fr.refl _ _).drew⟩) ?_
  intro ops Q' hO hQ' wr1 hR1
  iterate 12 (refine pl_p0 hO rfl rfl ?_ (fun w' => ?_) ?_; rotate_left 1; (focus (go_simp; ((try with_reducible rfl); done))); simp only [Act.put, List.setIfInBounds_toArray, List.set_cons_zero, List.set_cons_succ])
  iterate 2 (refine pl_q0 hO rfl rfl ?_ (fun w' hS => ?_) ?_; rotate_left 1; (focus (obtain ⟨hU, hF⟩ := hS; have g1 := hU.get hk1; have g0 := hU.get hk0; go_simp; ((try with_reducible rfl); done))); simp only [Act.put, List.setIfInBounds_toArray, List.set_cons_zero, List.set_cons_succ])
  refine pl_p0 hO rfl rfl ?_ (fun w' => ?_) ?_; rotate_left 1; (focus (go_simp; ((try with_reducible rfl); done))); simp only [Act.put, List.setIfInBounds_toArray, List.set_cons_zero, List.set_cons_succ]
  refine pl_b0 hO rfl rfl rfl (fun K hK => ?_)
  have hf1 := hR1.1.fr
  have g1 := hR1.1.get hk1
  have g0 := hR1.1.get hk0
  go_simp
  refine hK _ _ ?_
  clear hK K
  refine pl_p0 hO rfl rfl ?_ (fun w' => ?_) ?_; rotate_left 1; (focus (go_simp; ((try with_reducible rfl); done))); simp only [Act.put, List.setIfInBounds_toArray, List.set_cons_zero, List.set_cons_succ]
  refine pl_b0 hO rfl rfl rfl (fun K hK => ?_)
  have hU2 := hR1.1.set (at0 c k) hk1
  have hf2 := hU2.fr
  have g2 := hU2.get (j := k) (by rw [List.length_set]; exact hk0)
  go_simp
  refine hK _ _ ?_
  clear hK K
  refine pl_nil (hQ' _ _ ?_)
  exact HK.out _ _  ⟨rfl, rfl⟩ (Kc h0.symm (Kc rfl (Kc rfl (Kc rfl (Kc h7.symm (Kn _ _))))))  ((hR1.1.set (at0 c k) hk1).set (at0 c j) (by rw [List.length_set]; exact hk0)) (((hR1.2.of_no (oneB g)).setCell (p := ⟨g, j, none⟩) (fun _ => rfl) _).setCell (p := ⟨g, k, none⟩) (fun _ => rfl) _)
theorem isInner (g n cap i : Nat) (c0 : List Nat) (hn : c0.length = n) (hcap : n ≤ cap) (hnb : n ≤ 1000) (hi : i < n) (hs0 : Srt c0 i) (a : Act) (w : World) (K : Exit → Act → World → Prop) (hs : Sz 49 a) (h0 : sl a 0 = .slice (some ⟨g, 0, none⟩) n cap) (h1 : sl a 1 = .int .i64 0) (h7 : sl a 7 = .int .i64 (i : Int)) (hU : UA w g c0)
    (hK : ∀ a' w' c, Sz 49 a' → Kp [0, 1, 2, 6] a a' → UA w' g c → c.Perm c0 → Srt c (i + 1) → Fr (oneB g) w w' → K .normal a' w') :
    (blockOf Tryz.f238 2).wp Tryz.prog K a w := by
  have HK := Lib.hid hK
  clear hK
  conv => arg 2; whnf
  refine wp_block ?_
  refine wp_loop_sz 49 (fun a' w' => ∃ (j : Nat) (c : List Nat), j ≤ i ∧ sl a' 7 = .int .i64 (j : Int) ∧ Kp [0, 1, 2, 6] a a' ∧ UA w' g c ∧ c.Perm c0 ∧ Good c i j ∧ Fr (oneB g) w w') (fun a' _ => (intOf (sl a' 7)).toNat)
    hs ⟨i, c0, Nat.le_refl _, h7, Kp.refl _ _, hU, List.Perm.refl _, Good.start hs0, Fr.refl _ _⟩ ?_
  rintro a1 w1 hs1 ⟨j, c, hj, e7, k1, hU1, hp, hg, hf1⟩
  have hcl : c.length = n := hp.length_eq.trans hn
  refine wp_seq (wp_seq ?_)
  match j, hj, e7, hg with
  | 0, hj, e7, hg =>
    refine isR4a g n cap a1 w1 _ hs1 ((k1 0 (by decide)).trans h0) ((k1 1 (by decide)).trans h1) e7 ?_
    intro a2 w2 hs2 k2 o30 hf2
    refine wp_if o30 (fun hb => by cases hb) (fun _ => ?_)
    refine wp_exit (then_exit (then_exit (inBlock_self ?_)))
    exact HK.out a2 w2 c hs2 (fun x hx => (k2 x (by revert hx; revert x; decide)).trans (k1 x hx)) (hU1.keep hf2 (fun x => x)) hp (hg.done (Nat.zero_le _) (.inl rfl)) (hf1.none hf2)
  | k + 1, hj, e7, hg =>
    obtain ⟨j, hjk⟩ : ∃ j, k + 1 = j := ⟨_, rfl⟩
    rw [hjk] at hj e7 hg
    have q : IntKind.i64.wrap ((j : Int) - 1) = (k : Int) := (IntWalk.i64_in _ (by omega)).trans (by omega)
    have Hjk := Lib.hid hjk
    refine isR4b g n cap c j k a1 w1 _ hs1 ((k1 0 (by decide)).trans h0) ((k1 1 (by decide)).trans h1) e7 hU1 hcl (by omega) (by omega) q (by omega) (by omega) (by omega) (by omega) hcap ?_
    intro a2 w2 hs2 k2 o30 hU2 hf2
    have k12 : Kp [0, 1, 2, 6] a a2 := fun x hx => (k2 x (by revert hx; revert x; decide)).trans (k1 x hx)
    refine wp_if o30 (fun hb => ?_) (fun hb => ?_)
    · have hlt := of_decide_eq_true hb
      refine wp_skip ?_
      refine wp_seq (wp_block ?_)
      refine isR6 g n cap c j k a2 w2 _ hs2 ((k12 0 (by decide)).trans h0) ((k2 7 (by decide)).trans e7) hU2 hcl (by omega) (by omega) q (by omega) (by omega) (by omega) (by omega) hcap ?_
      intro a3 w3 hs3 k3 hU3 hf3
      refine isR5 j k a3 w3 _ hs3 ((k3 7 (by decide)).trans ((k2 7 (by decide)).trans e7)) q ?_
      intro a4 w4 hs4 k4 o7 hw; subst hw
      refine ⟨hs4, ⟨k, _, by omega, o7, fun x hx => (k4 x (by revert hx; revert x; decide)).trans ((k3 x (by revert hx; revert x; decide)).trans (k12 x hx)), hU3, ?_, ?_, (hf1.none hf2).trans hf3⟩, ?_⟩
      · exact (swap_perm c j k (by omega) (by omega)).trans hp
      · subst hjk
        exact hg.swap hj (by omega) hlt
      · rw [o7, e7]; simp only [intOf]; omega
    · have hge := of_decide_eq_false hb
      refine wp_exit (then_exit (then_exit (inBlock_self ?_)))
      refine HK.out a2 w2 c hs2 k12 hU2 hp (hg.done hj (.inr ?_)) (hf1.none hf2)
      rw [show j - 1 = k by omega]; omega
theorem insSort (g n cap : Nat) (c0 : List Nat) (w : World) (hn : c0.length = n) (hcap : n ≤ cap) (hnb : n ≤ 1000) (hU : UA w g c0) :
    Calls Tryz.prog 238 #[.slice (some ⟨g, 0, none⟩) n cap, .int .i64 0, .int .i64 (n : Int)] w fun e w' => e = .returned (.tuple #[]) ∧ UA w' g (sortN c0) ∧ Fr (oneB g) w w' := by
  go_enter Tryz.func238, Tryz.ntmps238
  refine wp_seq ?_
  refine isR0 _ w _ ⟨rfl, rfl⟩ rfl ?_
  intro a0 w0 hs0 k0 o6 hw; subst hw
  have e0 : sl a0 0 = .slice (some ⟨g, 0, none⟩) n cap := (k0 0 (by decide)).trans rfl
  have e1 : sl a0 1 = .int .i64 0 := (k0 1 (by decide)).trans rfl
  have e2 : sl a0 2 = .int .i64 (n : Int) := (k0 2 (by decide)).trans rfl
  clear k0
  refine wp_block ?_
  refine wp_loop_sz 49 (fun a' w' => ∃ (i : Nat) (c : List Nat), 1 ≤ i ∧ (i ≤ n ∨ (n = 0 ∧ i = 1)) ∧ sl a' 6 = .int .i64 (i : Int) ∧ Kp [0, 1, 2] a0 a' ∧ UA w' g c ∧ c.Perm c0 ∧ Srt c i ∧ Fr (oneB g) w0 w') (fun a' _ => n + 1 - (intOf (sl a' 6)).toNat)
    hs0 ⟨1, c0, Nat.le_refl _, by omega, o6, Kp.refl _ _, hU, List.Perm.refl _, fun p q h1 h2 => by omega, Fr.refl _ _⟩ ?_
  rintro a1 w1 hs1 ⟨i, c, hi1, hi2, e6, k1, hU1, hp, hsr, hf1⟩
  have hcl : c.length = n := hp.length_eq.trans hn
  refine wp_seq (wp_seq ?_)
  refine isR1 i n a1 w1 _ hs1 e6 ((k1 2 (by decide)).trans e2) ?_
  intro a2 w2 hs2 k2 o12 hw; subst hw
  have k12 : Kp [0, 1, 2] a0 a2 := fun x hx => (k2 x (by revert hx; revert x; decide)).trans (k1 x hx)
  refine wp_if o12 (fun hb => ?_) (fun hb => ?_)
  · have hlt := of_decide_eq_true hb
    refine wp_skip ?_
    refine wp_seq (wp_block (wp_seq ?_))
    refine isR3 i a2 w2 _ hs2 ((k2 6 (by decide)).trans e6) ?_
    intro a3 w3 hs3 k3 o7 hw; subst hw
    have k13 : Kp [0, 1, 2] a0 a3 := fun x hx => (k3 x (by revert hx; revert x; decide)).trans (k12 x hx)
    refine isInner g n cap i c hcl hcap hnb hlt hsr a3 w3 _ hs3 ((k13 0 (by decide)).trans e0) ((k13 1 (by decide)).trans e1) o7 hU1 ?_
    intro a4 w4 c4 hs4 k4 hU4 hp4 hsr4 hf4
    refine isR2 i (i + 1) a4 w4 _ hs4 ((k4 6 (by decide)).trans ((k3 6 (by decide)).trans ((k2 6 (by decide)).trans e6))) ((IntWalk.i64_in _ (by omega)).trans (by omega)) ?_
    intro a5 w5 hs5 k5 o6' hw; subst hw
    refine ⟨hs5, ⟨i + 1, c4, by omega, by omega, o6', fun x hx => (k5 x (by revert hx; revert x; decide)).trans ((k4 x (by revert hx; revert x; decide)).trans (k13 x hx)), hU4, hp4.trans hp, hsr4, hf1.trans hf4⟩, ?_⟩
    rw [o6', e6]; simp only [intOf]; omega
  · have hge := of_decide_eq_false hb
    refine wp_exit (then_exit (then_exit (inBlock_self ?_)))
    refine bodyPost_end (results_none rfl _ _ _) hs2.defers ⟨rfl, ?_, hf1⟩
    have he : sortN c0 = c := (pw_unique c (sortN c0) (srt_pw (fun p q h1 h2 => hsr p q h1 (by omega))) (sortN_pw c0) (hp.trans (sortN_perm c0).symm)).symm
    rw [he]; exact hU1
theorem insNil (w : World) : Calls Tryz.prog 238 #[.slice none 0 0, .int .i64 0, .int .i64 0] w fun e w' => e = .returned (.tuple #[]) ∧ w' = w := by
  go_enter Tryz.func238, Tryz.ntmps238
  refine wp_seq ?_
  refine isR0 _ w _ ⟨rfl, rfl⟩ rfl ?_
  intro a0 w0 hs0 k0 o6 hw; subst hw
  have e2 : sl a0 2 = .int .i64 ((0 : Nat) : Int) := (k0 2 (by decide)).trans rfl
  refine wp_block ?_
  refine wp_loop_sz 49 (fun a' w' => Kp [2, 6] a0 a' ∧ w' = w0) (fun _ _ => 0) hs0 ⟨Kp.refl _ _, rfl⟩ ?_
  rintro a1 w1 hs1 ⟨k1, hw⟩; subst hw
  refine wp_seq (wp_seq ?_)
  refine isR1 1 0 a1 w1 _ hs1 ((k1 6 (by decide)).trans o6) ((k1 2 (by decide)).trans e2) ?_
  intro a2 w2 hs2 k2 o12 hw; subst hw
  refine wp_if o12 (fun hb => by cases hb) (fun _ => ?_)
  refine wp_exit (then_exit (then_exit (inBlock_self ?_)))
  exact bodyPost_end (results_none rfl _ _ _) hs2.defers ⟨rfl, rfl⟩
def pqF (u : Nat → Value) : Act := ⟨#[u 0, u 1, u 2, u 3, u 4, u 5, u 6, u 7, u 8, u 9, u 10, u 11, u 12, u 13, u 14, u 15, u 16, u 17, u 18, u 19, u 20, u 21, u 22, u 23, u 24, u 25, u 26, u 27, u 28, u 29, u 30, u 31, u 32, u 33, u 34, u 35, u 36, u 37, u 38, u 39, u 40, u 41, u 42, u 43, u 44, u 45, u 46, u 47, u 48, u 49, u 50, u 51, u 52, u 53, u 54, u 55, u 56, u 57, u 58, u 59, u 60, u 61, u 62, u 63, u 64, u 65, u 66, u 67, u 68, u 69, u 70, u 71, u 72, u 73, u 74, u 75, u 76, u 77, u 78, u 79, u 80, u 81, u 82, u 83, u 84, u 85, u 86, u 87, u 88, u 89, u 90, u 91, u 92, u 93, u 94, u 95, u 96, u 97, u 98, u 99, u 100, u 101, u 102, u 103, u 104, u 105, u 106, u 107, u 108, u 109, u 110, u 111, u 112, u 113, u 114, u 115, u 116, u 117, u 118, u 119, u 120, u 121, u 122, u 123, u 124, u 125, u 126, u 127, u 128, u 129, u 130, u 131, u 132, u 133], []⟩
set_option maxRecDepth 100000 in
theorem pqF_eq (u : Nat → Value) : pqF u = frN 134 u := rfl
theorem pqF_of {a : Act} (h : Sz 134 a) : a = pqF (sl a) := h.eq.trans (pqF_eq _).symm
theorem pqR0  (a : Act) (w : World) (K : Exit → Act → World → Prop) (hs : Sz 134 a)
     
    (hK : ∀ a' w', Sz 134 a' → Kp [0, 1, 2, 3] a a' → w' = w → K .normal a' w') :
    (regionOf Tryz.f195 0).wp Tryz.prog K a w := by
  unfold Kp at hK; rw [pqF_of hs]; clear hs; generalize sl a = u at *; clear a; have HK := Lib.hid hK; clear hK; conv => arg 2; whnf
  simp only [pqF]
  go_wp2_with fail
  exact HK.out _ _  ⟨rfl, rfl⟩ (Kc rfl (Kc rfl (Kc rfl (Kc rfl (Kn _ _)))))  rfl
theorem pqR1  (a : Act) (w : World) (K : Exit → Act → World → Prop) (hs : Sz 134 a)
     
    (hK : ∀ a' w', Sz 134 a' → Kp [0, 1, 2, 3] a a' → w' = w → K .normal a' w') :
    (regionOf Tryz.f195 1).wp Tryz.prog K a w := by
  unfold Kp at hK; rw [pqF_of hs]; clear hs; generalize sl a = u at *; clear a; have HK := Lib.hid hK; clear hK; conv => arg 2; whnf
  simp only [pqF]
  go_wp2_with fail
  exact HK.out _ _  ⟨rfl, rfl⟩ (Kc rfl (Kc rfl (Kc rfl (Kc rfl (Kn _ _)))))  rfl
theorem pqR2 (n : Nat) (a : Act) (w : World) (K : Exit → Act → World → Prop) (hs : Sz 134 a)
    (h1 : sl a 1 = .int .i64 0) (h2 : sl a 2 = .int .i64 (n : Int)) (hn : n ≤ 12)
    (hK : ∀ a' w', Sz 134 a' → Kp [0, 1, 2, 3] a a' → sl a' 10 = .int .i64 (n : Int) → w' = w → K .normal a' w') :
    (regionOf Tryz.f195 2).wp Tryz.prog K a w := by
  unfold Kp at hK; rw [pqF_of hs]; clear hs; generalize sl a = u at *; clear a; have HK := Lib.hid hK; clear hK; conv => arg 2; whnf
  simp only [pqF, h1, h2]
  go_wp2_with fail
  exact HK.out _ _  ⟨rfl, rfl⟩ (Kc rfl (Kc h1.symm (Kc h2.symm (Kc rfl (Kn _ _))))) (rfl) rfl
theorem pqR3 (n : Nat) (a : Act) (w : World) (K : Exit → Act → World → Prop) (hs : Sz 134 a)
    (h10 : sl a 10 = .int .i64 (n : Int)) (hn : (n : Int) ≤ 12)
    (hK : ∀ a' w', Sz 134 a' → Kp [0, 1, 2, 3] a a' → sl a' 23 = .bool true → w' = w → K .normal a' w') :
    (regionOf Tryz.f195 3).wp Tryz.prog K a w := by
  unfold Kp at hK; rw [pqF_of hs]; clear hs; generalize sl a = u at *; clear a; have HK := Lib.hid hK; clear hK; conv => arg 2; whnf
  simp only [pqF, h10]
  go_wp2_with fail
  exact HK.out _ _  ⟨rfl, rfl⟩ (Kc rfl (Kc rfl (Kc rfl (Kc rfl (Kn _ _))))) (rfl) rfl
theorem pqR4 (g n cap : Nat) (c0 : List Nat) (a : Act) (w : World) (K : Exit → Act → World → Prop) (hs : Sz 134 a)
    (h0 : sl a 0 = .slice (some ⟨g, 0, none⟩) n cap) (h1 : sl a 1 = .int .i64 0) (h2 : sl a 2 = .int .i64 (n : Int)) (hn : c0.length = n) (hcap : n ≤ cap) (hnb : n ≤ 12) (hU : UA w g c0)
    (hK : ∀ a' w', Sz 134 a' → Kp [0, 1, 2, 3] a a' → UA w' g (sortN c0) → Fr (oneB g) w w' → K .normal a' w') :
    (regionOf Tryz.f195 4).wp Tryz.prog K a w := by
  unfold Kp at hK; rw [pqF_of hs]; clear hs; generalize sl a = u at *; clear a; have HK := Lib.hid hK; clear hK; conv => arg 2; whnf
  simp only [pqF, h0, h1, h2]
  go_wp2_with fail
  refine (insSort g n cap c0 _ hn hcap (by omega) hU).mono ?_
  rintro e w2 ⟨rfl, hU2, hf2⟩
  go_wp2_with fail
  exact HK.out _ _  ⟨rfl, rfl⟩ (Kc h0.symm (Kc h1.symm (Kc h2.symm (Kc rfl (Kn _ _)))))  hU2 hf2
theorem pqR4n  (a : Act) (w : World) (K : Exit → Act → World → Prop) (hs : Sz 134 a)
    (h0 : sl a 0 = .slice none 0 0) (h1 : sl a 1 = .int .i64 0) (h2 : sl a 2 = .int .i64 ((0 : Nat) : Int)) 
    (hK : ∀ a' w', Sz 134 a' → Kp [0, 1, 2, 3] a a' → w' = w → K .normal a' w') :
    (regionOf Tryz.f195 4).wp Tryz.prog K a w := by
  unfold Kp at hK; rw [pqF_of hs]; clear hs; generalize sl a = u at *; clear a; have HK := Lib.hid hK; clear hK; conv => arg 2; whnf
  simp only [pqF, h0, h1, h2]
  go_wp2_with fail
  refine (insNil _).mono ?_
  rintro e w2 ⟨rfl, rfl⟩
  go_wp2_with fail
  exact HK.out _ _  ⟨rfl, rfl⟩ (Kc h0.symm (Kc h1.symm (Kc h2.symm (Kc rfl (Kn _ _)))))  rfl
theorem pdqSort (g n cap : Nat) (lim : Int) (c0 : List Nat) (w : World) (hn : c0.length = n) (hcap : n ≤ cap) (hnb : n ≤ 12) (hU : UA w g c0) :
    Calls Tryz.prog 195 #[.slice (some ⟨g, 0, none⟩) n cap, .int .i64 0, .int .i64 (n : Int), .int .i64 lim] w fun e w' => e = .returned (.tuple #[]) ∧ UA w' g (sortN c0) ∧ Fr (oneB g) w w' := by
  go_enter Tryz.func195, Tryz.ntmps195
  refine wp_seq ?_
  refine pqR0 _ w _ ⟨rfl, rfl⟩ ?_
  intro a0 w0 hs0 k0 hw; subst hw
  have e0 : sl a0 0 = .slice (some ⟨g, 0, none⟩) n cap := (k0 0 (by decide)).trans rfl
  have e1 : sl a0 1 = .int .i64 0 := (k0 1 (by decide)).trans rfl
  have e2 : sl a0 2 = .int .i64 (n : Int) := (k0 2 (by decide)).trans rfl
  clear k0
  refine wp_seq ?_
  refine pqR1 a0 w0 _ hs0 ?_
  intro a1 w1 hs1 k1 hw; subst hw
  refine wp_block ?_
  refine wp_loop_sz 134 (fun a' w' => Kp [0, 1, 2] a1 a' ∧ w' = w1) (fun _ _ => 0) hs1 ⟨Kp.refl _ _, rfl⟩ ?_
  rintro a2 w2 hs2 ⟨k2, hw⟩; subst hw
  have z0 := (k2 0 (by decide)).trans ((k1 0 (by decide)).trans e0)
  have z1 := (k2 1 (by decide)).trans ((k1 1 (by decide)).trans e1)
  have z2 := (k2 2 (by decide)).trans ((k1 2 (by decide)).trans e2)
  refine wp_block (wp_seq ?_)
  refine pqR2 n a2 w2 _ hs2 z1 z2 hnb ?_
  intro a3 w3 hs3 k3 o10 hw; subst hw
  refine wp_seq (wp_seq ?_)
  refine pqR3 n a3 w3 _ hs3 o10 (by omega) ?_
  intro a4 w4 hs4 k4 o23 hw; subst hw
  refine wp_if o23 (fun _ => ?_) (fun hb => by cases hb)
  refine wp_seq ?_
  refine pqR4 g n cap c0 a4 w4 _ hs4 ((k4 0 (by decide)).trans ((k3 0 (by decide)).trans z0)) ((k4 1 (by decide)).trans ((k3 1 (by decide)).trans z1)) ((k4 2 (by decide)).trans ((k3 2 (by decide)).trans z2)) hn hcap hnb hU ?_
  intro a5 w5 hs5 k5 hU5 hf5
  refine wp_ret ?_
  exact bodyPost_ret (P := Tryz.prog) (fn := Tryz.f195) (R := fun e w' => e = .returned (.tuple #[]) ∧ UA w' g (sortN c0) ∧ Fr (oneB g) w4 w') (results_none rfl _ _ _) hs5.defers ⟨rfl, hU5, hf5⟩
theorem slicesSort (g n cap : Nat) (c0 : List Nat) (w : World) (hn : c0.length = n) (hcap : n ≤ cap) (hnb : n ≤ 12) (hU : UA w g c0) :
    Calls Tryz.prog 134 #[.slice (some ⟨g, 0, none⟩) n cap] w fun e w' => e = .returned (.tuple #[]) ∧ UA w' g (sortN c0) ∧ Fr (oneB g) w w' := by
  go_enter Tryz.func134, Tryz.ntmps134
  go_wp2_with fail
  refine (Tryz.bits_Len _ _ (by omega) (by omega)).mono ?_
  rintro e w2 ⟨rfl, rfl⟩
  go_wp2_with fail
  refine (pdqSort g n cap _ c0 _ hn hcap hnb hU).mono ?_
  rintro e w3 ⟨rfl, hU3, hf3⟩
  go_wp2_with fail
  refine bodyPost_end (results_none rfl _ _ _) rfl ?_
  exact ⟨rfl, hU3, hf3⟩
theorem pdqNil (lim : Int) (w : World) :
    Calls Tryz.prog 195 #[.slice none 0 0, .int .i64 0, .int .i64 0, .int .i64 lim] w fun e w' => e = .returned (.tuple #[]) ∧ w' = w := by
  go_enter Tryz.func195, Tryz.ntmps195
  refine wp_seq ?_
  refine pqR0 _ w _ ⟨rfl, rfl⟩ ?_
  intro a0 w0 hs0 k0 hw; subst hw
  have e0 : sl a0 0 = .slice none 0 0 := (k0 0 (by decide)).trans rfl
  have e1 : sl a0 1 = .int .i64 0 := (k0 1 (by decide)).trans rfl
  have e2 : sl a0 2 = .int .i64 ((0 : Nat) : Int) := (k0 2 (by decide)).trans rfl
  clear k0
  refine wp_seq ?_
  refine pqR1 a0 w0 _ hs0 ?_
  intro a1 w1 hs1 k1 hw; subst hw
  refine wp_block ?_
  refine wp_loop_sz 134 (fun a' w' => Kp [0, 1, 2] a1 a' ∧ w' = w1) (fun _ _ => 0) hs1 ⟨Kp.refl _ _, rfl⟩ ?_
  rintro a2 w2 hs2 ⟨k2, hw⟩; subst hw
  have z0 := (k2 0 (by decide)).trans ((k1 0 (by decide)).trans e0)
  have z1 := (k2 1 (by decide)).trans ((k1 1 (by decide)).trans e1)
  have z2 := (k2 2 (by decide)).trans ((k1 2 (by decide)).trans e2)
  refine wp_block (wp_seq ?_)
  refine pqR2 0 a2 w2 _ hs2 z1 z2 (by omega) ?_
  intro a3 w3 hs3 k3 o10 hw; subst hw
  refine wp_seq (wp_seq ?_)
  refine pqR3 0 a3 w3 _ hs3 o10 (by omega) ?_
  intro a4 w4 hs4 k4 o23 hw; subst hw
  refine wp_if o23 (fun _ => ?_) (fun hb => by cases hb)
  refine wp_seq ?_
  refine pqR4n a4 w4 _ hs4 ((k4 0 (by decide)).trans ((k3 0 (by decide)).trans z0)) ((k4 1 (by decide)).trans ((k3 1 (by decide)).trans z1)) ((k4 2 (by decide)).trans ((k3 2 (by decide)).trans z2)) ?_
  intro a5 w5 hs5 k5 hw; subst hw
  refine wp_ret ?_
  exact bodyPost_ret (P := Tryz.prog) (fn := Tryz.f195) (R := fun e w' => e = .returned (.tuple #[]) ∧ w' = w5) (results_none rfl _ _ _) hs5.defers ⟨rfl, rfl⟩
theorem sortNil (w : World) :
    Calls Tryz.prog 134 #[.slice none 0 0] w fun e w' => e = .returned (.tuple #[]) ∧ w' = w := by
  go_enter Tryz.func134, Tryz.ntmps134
  go_wp2_with fail
  refine (Tryz.bits_Len 0 _ (by omega) (by omega)).mono ?_
  rintro e w2 ⟨rfl, rfl⟩
  go_wp2_with fail
  refine (pdqNil _ _).mono ?_
  rintro e w3 ⟨rfl, rfl⟩
  go_wp2_with fail
  refine bodyPost_end (results_none rfl _ _ _) rfl ?_
  exact ⟨rfl, rfl⟩
theorem keysSorted (Bm b : Nat) (l : List EntD) (w : World) (hBm : w.cell? ⟨Bm, 0, none⟩ = some (.map (some b))) (hBl : Bm < w.heap.size) (hm : MapAt w b l) (hl : l.length ≤ 4) :
    Calls Tryz.prog 72 #[.func (.func 135) #[] #[.pointer (some ⟨Bm, 0, none⟩)]] w fun e w' =>
      ∃ A cap, e = .returned (.slice A l.length cap) ∧ SlR w' (fun k => k < w.heap.size) 1 A l.length ((sortN (l.map (·.ip))).map encU) ∧ Fr noB w w' := by
  obtain ⟨D, hown, hrep⟩ := hm
  have hsz : Maps.size D ≤ 4 := by rw [hrep.size]; exact hl
  have hseq : SeqGives Fence.wide 1 Tryz.prog 135 #[.pointer (some ⟨Bm, 0, none⟩)] encU (fun ss => ss.Perm (l.map (·.ip))) (Maps.size D) w :=
    kskeys_gives Fence.wide 1 trivial rfl (by omega) Bm b _ D l hrep w hBl hBm hown
  have hcol := callsIn_wide.1 (kscollect_in Fence.wide 3 trivial trivial rfl (by omega) 135 #[.pointer (some ⟨Bm, 0, none⟩)] trivial (enters_of Tryz.func135 (by kernel_rfl) rfl) _ (Maps.size D) (by unfold maxLen; omega) (by omega) w hseq)
  have Hcol := Lib.hid hcol
  clear hcol hseq
  go_enter Tryz.func72, Tryz.ntmps72
  go_wp2_with fail
  refine Hcol.out.mono ?_
  rintro e w2 ⟨v, ss, rfl, hp, hrow, hnil, hbel⟩
  have hlen : ss.length = l.length := hp.length_eq.trans (List.length_map ..)
  have hF2 : Fr noB w w2 := ⟨hbel.os, hbel.tape, hbel.output, hbel.size, fun k hk _ => hbel.block k hk⟩
  have hso : sortN ss = sortN (l.map (·.ip)) := pw_unique _ _ (sortN_pw _) (sortN_pw _) ((sortN_perm _).trans (hp.trans (sortN_perm _).symm))
  rcases hrow.2 with ⟨hv, h0⟩ | ⟨g, cap, cur, hv, hbg, hgb, hr1, hr2, hr3, hr4⟩
  · subst hv
    go_wp2_with fail
    refine (sortNil _).mono ?_
    rintro e w3 ⟨rfl, rfl⟩
    go_wp2_with fail
    go_ret
    have hl0 : l = [] := List.eq_nil_of_length_eq_zero (by omega)
    subst hl0
    exact ⟨none, 0, rfl, SlR.nil, hF2⟩
  · subst hv
    have hUA : UA w2 g ss := ⟨cur, hgb, by omega, fun j x hx => by
      have hj : j < ss.length := by rcases Nat.lt_or_ge j ss.length with h | h; exact h; rw [List.getElem?_eq_none h] at hx; cases hx
      have h1 := congrArg (fun z => z[j]?) hr4
      simp only [Nat.mul_one, List.getElem?_take, List.getElem?_map, hx, Option.map_some] at h1
      rw [if_pos hj] at h1
      rw [← h1, Array.getElem?_toList]⟩
    have hn := hlen
    rw [hn] at hr1
    have hcall := slicesSort g l.length cap ss w2 hn hr1 (by omega) hUA
    have Hcall := Lib.hid hcall
    clear hcall hr2 hr3 hr4 hgb hrow hnil hbel
    go_wp2_with fail
    refine Hcall.out.mono ?_
    rintro e w3 ⟨rfl, hU3, hf3⟩
    go_wp2_with fail
    go_ret
    have hsl : (sortN ss).length = ss.length := (sortN_perm ss).length_eq
    refine ⟨some ⟨g, 0, none⟩, cap, rfl, ⟨?_, fun _ => ⟨_, rfl, hU3.lt, fun hx => by have : g < w.heap.size := hx; omega, fun j u hu => ?_⟩⟩, hF2.trans' hf3 (fun b hb e => by have e' : b = g := e; omega)⟩
    · rw [List.length_map, ← hso, hsl, hn, Nat.mul_one]
    · rw [List.getElem?_map, ← hso] at hu
      rw [addr_add, Nat.zero_add]
      cases hz : (sortN ss)[j]? with
      | none => rw [hz] at hu; cases hu
      | some z =>
        rw [hz] at hu
        cases hu
        obtain ⟨c3, q1, q2, q3⟩ := hU3
        exact (q1.cell j).trans (q3 j z hz)
end Go.Proofs.YtcbkaiakdhiloacGreatDoor
