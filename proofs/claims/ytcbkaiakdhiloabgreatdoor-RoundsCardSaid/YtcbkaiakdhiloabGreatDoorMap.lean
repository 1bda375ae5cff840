/- boot.ReadDHCP. -/
import Derived.Test.YtcbkaiakdhiloabGreatDoorMao
import Derived.Test.YtcbkaiakdhiloabGreatDoorMaa
import Derived.Test.YtcbkaiakdhiloabGreatDoorMaf
set_option linter.unusedSimpArgs false
set_option linter.unusedVariables false
namespace Go.Proofs.YtcbkaiakdhiloabGreatDoor
open Go.RowKit Go.Proofs
attribute [local go_sem] bs_size bs_append bs_extract bs_toList

set_option maxRecDepth 20000 in
set_option maxHeartbeats 1000000 in
theorem bootReadDHCP (l : List UInt8) (w : World) (hl : l.length ≤ 1099511000000) :
    Calls Tryz.prog 34 #[.string (bs l)] w (dhcPost l w) := by
  go_enter Tryz.func34, Tryz.ntmps34
  go_wp2_with fail
  have hx0 := Bk.new w 75 zcDhc
  have hf0 : Fr noB w (w.alloc (.cells zcDhc 75)) := (Fr.refl _ _).alloc _
  have hsz : (w.alloc (.cells zcDhc 75)).heap.size = w.heap.size + 1 := by simp
  unfold zcDhc at hx0 hf0 hsz
  generalize w.alloc (.cells #[.bool false, .int .u32 0, .int .u32 0, .int .u32 0, .int .u32 0, .int .u8 0, .int .u8 0, .int .u8 0, .int .u8 0, .int .u8 0, .int .u8 0, .slice none 0 0] 75) = w1 at *
  have Hsz := Lib.hid hsz
  clear hsz
  refine (dhcpRead l w1 hl).mono ?_
  rintro e w2 ⟨⟨A, cap, rfl, hA⟩, hf1⟩
  have hx1 := hx0.keep hf1 (fun x => x)
  generalize hr : readDHCP l = r at *
  have Hr := Lib.hid hr
  clear hr
  have hin := Lib.hid (dhc_info r.1 A cap)
  have hon := Lib.hid (dhcC_one r.1 A cap)
  have hsz := Lib.hid (dhcC_size r.1 A cap)
  generalize hc : dhcC r.1 A cap = c at *
  have Hc := Lib.hid hc
  clear hc
  go_wp2_with ((refine wpList_store_bk rfl 75 (.tmp 2) (.tmp 6) rfl w.heap.size _ _ c rfl rfl hx1 hsz.out hin.out hon.out ?_); intro w9 hx9 hf9)
  refine bodyPost_ret (results_row_tmp Tryz.results34 _ w9 w.heap.size _ c _ _ rfl rfl hx9 Tryz.underlying75 rfl hin.out) rfl ?_
  refine ⟨⟨A, cap, by rw [Hr.out, Hc.out]; rfl, ?_⟩, (hf0.none hf1).trans' hf9 (fun b hb e => by unfold oneB at e; omega)⟩
  rw [Hr.out]
  exact (hA.keep (hf9.mono fun b hb e => by unfold oneB at e; have := Hsz.out; omega)).sub (fun b hb h => by have := Hsz.out; omega)
end Go.Proofs.YtcbkaiakdhiloabGreatDoor
namespace Go.Proofs.YtcbkaiakdhiloabGreatDoor
open Go.RowKit Go.Proofs

/-- the block of a number -/
def findBlock (n : Nat) : Code → Option Code
  | .block k c => if k == n then some (.block k c) else findBlock n c
  | .seq a b => match findBlock n a with
    | some c => some c
    | none => findBlock n b
  | .cond _ a b => match findBlock n a with
    | some c => some c
    | none => findBlock n b
  | .loop c => findBlock n c
  | .scope c => findBlock n c
  | _ => none
/-- a slot of a frame -/
def sl (a : Act) (k : Nat) : Value := a.tmps.getD k undef
/-- a frame of n slots, nothing deferred -/
structure Sz (n : Nat) (a : Act) : Prop where
  size : a.tmps.size = n
  defers : a.defers = []
def frN (n : Nat) (u : Nat → Value) : Act := ⟨((List.range n).map u).toArray, []⟩
theorem Sz.eq {n : Nat} {a : Act} (h : Sz n a) : a = frN n (sl a) := by
  obtain ⟨t, d⟩ := a
  obtain ⟨h1, h2⟩ := h
  simp only at h1 h2
  subst h2
  unfold frN
  congr 1
  apply Array.ext
  · simp [h1]
  · intro i h3 h4
    simp [sl, Array.getD, h3]
theorem frN_sl {n : Nat} {u : Nat → Value} {k : Nat} (h : k < n) : sl (frN n u) k = u k := by simp [sl, frN, Array.getD, h]
theorem Sz.fr (n : Nat) (u : Nat → Value) : Sz n (frN n u) := ⟨by simp [frN], rfl⟩
section
variable {P : Program} {Q : Exit → Act → World → Prop} {a : Act} {w : World}
theorem wp_if {k : Nat} {x y : Code} {b : Bool} (h : sl a k = .bool b) (h1 : b = true → x.wp P Q a w) (h2 : b = false → y.wp P Q a w) : (Code.cond (.tmp k) x y).wp P Q a w :=
  wp_cond_split (c := .tmp k) h h1 h2
/-- a loop over frames of n slots -/
theorem wp_loop_sz {c : Code} (n : Nat) (Rel : Act → World → Prop) (mu : Act → World → Nat) (h0 : Sz n a) (h1 : Rel a w)
    (round : ∀ a w, Sz n a → Rel a w → c.wp P (Exit.then (fun a' w' => Sz n a' ∧ Rel a' w' ∧ mu a' w' < mu a w) Q) a w) : (Code.loop c).wp P Q a w := by
  refine wp_loop (fun a' w' => Sz n a' ∧ Rel a' w') mu ⟨h0, h1⟩ ?_
  rintro a' w' ⟨e, hr⟩
  exact wp_mono (round a' w' e hr) fun ex a2 w2 hq => by
    cases ex with
    | normal => exact ⟨⟨hq.1, hq.2.1⟩, hq.2.2⟩
    | _ => exact hq
end
/-- the region of a number -/
def findRegion (n : Nat) : Code → Option Code
  | .region k ops d => if k == n then some (.region k ops d) else none
  | .block _ c => findRegion n c
  | .seq a b => match findRegion n a with
    | some c => some c
    | none => findRegion n b
  | .cond _ a b => match findRegion n a with
    | some c => some c
    | none => findRegion n b
  | .loop c => findRegion n c
  | .scope c => findRegion n c
  | _ => none
noncomputable def regionOf (f : Func) (n : Nat) : Code := (f.body.bind (findRegion n)).getD .skip
noncomputable def blockOf (f : Func) (n : Nat) : Code := (f.body.bind (findBlock n)).getD .skip
/-- the slots of l are as they were -/
def Kp (l : List Nat) (a a' : Act) : Prop := ∀ k ∈ l, sl a' k = sl a k
def KpU (l : List Nat) (u : Nat → Value) (a' : Act) : Prop := ∀ k ∈ l, sl a' k = u k
theorem KpU.nil (u : Nat → Value) (a : Act) : KpU [] u a := fun k h => by cases h
theorem KpU.cons {k : Nat} {l : List Nat} {u : Nat → Value} {a : Act} (h : sl a k = u k) (hl : KpU l u a) : KpU (k :: l) u a := List.forall_mem_cons.2 ⟨h, hl⟩
theorem Kp.trans {l l' : List Nat} {a b c : Act} (h : Kp l a b) (k : Kp l' b c) (hl : ∀ x ∈ l', x ∈ l) : Kp l' a c := fun x hx => (k x hx).trans (h x (hl x hx))
theorem Kp.refl (l : List Nat) (a : Act) : Kp l a a := fun _ _ => rfl
theorem inBlock_self {id : Nat} {Q : Exit → Act → World → Prop} {a : Act} {w : World} (h : Q .normal a w) : Exit.inBlock id Q (.exit id) a w := by simp only [Exit.inBlock, if_true]; exact h
theorem then_exit {id : Nat} {K : Act → World → Prop} {Q : Exit → Act → World → Prop} {a : Act} {w : World} (h : Q (.exit id) a w) : Exit.then K Q (.exit id) a w := h
end Go.Proofs.YtcbkaiakdhiloabGreatDoor
namespace Go.Proofs.YtcbkaiakdhiloabGreatDoor
open Go.RowKit Go.Proofs
section
variable {w1 w w' : World} {p B n : Nat} {A : Option Addr} {l l' : List UInt8} {L : Bool} {v : Value} {t : TypeId} {cs : Array Value}
theorem Chn.drew2 (h : Chn w1 p B A l w) : Chn w1 p B A l w.drew := ⟨h.wr.drew, h.row, h.fr.drew, h.eB, h.lt⟩
theorem AlS.drew2 (h : AlS L v n t cs B A w) : AlS L v n t cs B A w.drew := fun hL => by
  obtain ⟨g, h1, h2, h3, h4⟩ := h hL
  exact ⟨g, h1, h2.drew, h3, h4⟩
theorem cell_ltP {w : World} {a : Addr} {v : Value} (h : w.cell? a = some v) : a.block < w.heap.size := by
  rcases Nat.lt_or_ge a.block w.heap.size with h1 | h1
  · exact h1
  · unfold World.cell? at h; rw [Array.getElem?_eq_none h1] at h; cases h
/-- a block made beside the writer -/
theorem AlS.beside (h : Chn w1 p B A l w) (t : TypeId) (cs : Array Value) : AlS true (.slice (some ⟨w.heap.size, 0, none⟩) 0 0) 0 t cs B A (w.alloc (.cells cs t)) := AlS.new h 0 t cs
end
section
variable {P : Program} {ops : Array Oper} {Q : Exit → Act → World → Prop}
theorem wp_region_ssac_plain {id : Nat} {w : World} (hm : P.follows .mixedOrders = true) (hb : backB ops = true) (hgd : (List.range ops.size).all (fun i => match ops[i]? with | some o => o.guard.isNone | none => true) = true)
    (fr : (Nat → Value) → Act) (Φ : Nat → Value → World → Prop) (G : (Nat → Bool) → (Nat → Value) → World → Prop) (u0 : Nat → Value) (h0 : G (fun _ => false) u0 w)
    (hstep : ∀ L u w i o, Cl ops L → G L u w → (∀ j, L j = true → Φ j (u j) w) → ops[i]? = some o → L i = false → (∀ e ∈ o.after.toList, Region.binds .any e = true → L e.on = true) →
      ∀ K : Act → World → Prop, (∀ v w', Φ i v w' → G (mark L i) (upd u i v) w' → (∀ j x, L j = true → Φ j x w → Φ j x w') → K (fr (upd u i v)) w') → o.wp P (fr u) w K Q)
    (hend : ∀ u w, (∀ i, i < ops.size → Φ i (u i) w) → (∀ L, (∀ i, i < ops.size → L i = true) → G L u w → Q .normal (fr u) w)) : (Code.region id ops false).wp P Q (fr u0) w :=
  wp_region_ssau_plain hm hb hgd fr Φ (fun L u w => Cl ops L ∧ G L u w) u0 ⟨Cl.start ops, h0⟩
    (fun L u w i o hG hΦ ho hL hd K hK => hstep L u w i o hG.1 hG.2 hΦ ho hL hd K fun v w' h1 h2 h3 => hK v w' h1 ⟨hG.1.mark ho hd, h2⟩ h3)
    (fun u w h1 L h2 h3 => hend u w h1 L h2 h3.2)
end
theorem sl_put {a : Act} {n k j : Nat} {v : Value} (h : Sz n a) (hk : k < n) : sl (a.put (some k) v) j = if j = k then v else sl a j := by
  obtain ⟨t, d⟩ := a
  have hs := h.size
  simp only at hs
  unfold sl Act.put
  by_cases e : j = k
  · subst e; simp [hs, hk]
  · simp only [e, if_false]
    by_cases hj : j < t.size
    · simp [Array.getD, hj, Array.getElem_setIfInBounds, e]
      intro x; exact absurd x.symm e
    · simp [Array.getD, hj]
theorem Sz.put {a : Act} {n k : Nat} {v : Value} (h : Sz n a) : Sz n (a.put (some k) v) := ⟨by simpa [Act.put] using h.size, h.defers⟩
theorem foldl_put {n : Nat} {u : Nat → Value} : ∀ (D : List Nat) (a : Act), Sz n a → (∀ k ∈ D, k < n) → Sz n (D.foldl (fun b k => b.put (some k) (u k)) a) ∧ ∀ j, sl (D.foldl (fun b k => b.put (some k) (u k)) a) j = if j ∈ D then u j else sl a j
  | [], a, h, _ => ⟨h, fun j => by simp⟩
  | k :: D, a, h, hD => by
    obtain ⟨h1, h2⟩ := foldl_put (u := u) D (a.put (some k) (u k)) h.put (fun x hx => hD x (by simp [hx]))
    refine ⟨h1, fun j => ?_⟩
    rw [List.foldl_cons, h2 j, sl_put h (hD k (by simp))]
    by_cases hj : j ∈ D
    · simp [hj]
    · by_cases hk : j = k
      · subst hk; simp [hj]
      · simp [hj, hk]
/-- a frame as the frame ahead of it with some slots put -/
theorem Kp.eq_put {n : Nat} {keep : List Nat} {a a' : Act} (D : List Nat) (h : Sz n a) (h' : Sz n a') (kp : Kp keep a a') (hd : ((List.range n).all fun k => D.contains k || keep.contains k) = true) (hD : (D.all fun k => decide (k < n)) = true) :
    a' = D.foldl (fun b k => b.put (some k) (sl a' k)) a := by
  have hD' : ∀ k ∈ D, k < n := fun k hk => by simpa using List.all_eq_true.1 hD k hk
  obtain ⟨h1, h2⟩ := foldl_put (u := sl a') D a h hD'
  refine h'.eq.trans (Eq.trans ?_ h1.eq.symm)
  unfold frN
  congr 2
  apply List.map_congr_left
  intro k hk
  have hk' : k < n := by simpa using hk
  rw [h2 k]
  split
  · rfl
  · next hnd =>
    have := List.all_eq_true.1 hd k hk
    simp only [Bool.or_eq_true, List.contains_iff_mem] at this
    rcases this with h3 | h3
    · exact absurd h3 hnd
    · exact kp k h3
/-- a region's theorem at the region written out -/
theorem wp_at {P : Program} {c c' : Code} {Q : Exit → Act → World → Prop} {a : Act} {w : World} (h : c = c') (k : c.wp P Q a w) : c'.wp P Q a w := h ▸ k
end Go.Proofs.YtcbkaiakdhiloabGreatDoor
