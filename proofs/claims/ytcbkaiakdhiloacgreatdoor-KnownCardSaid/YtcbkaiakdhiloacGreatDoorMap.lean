/- Parts of the walk; written by programs, merged. -/
import Derived.Test.YtcbkaiakdhiloacGreatDoorMao
set_option linter.unusedSimpArgs false
set_option linter.unusedVariables false
set_option maxRecDepth 20000
set_option maxHeartbeats 8000000
namespace Go.Proofs.YtcbkaiakdhiloacGreatDoor
open Go.RowKit Go.Proofs
theorem eqItems_step {P : Program} (w : World) (d : Nat) {e : TypeId} {c : Nat} {xs ys : Array Value} {i : Nat} {is : List Nat} (a b : UInt8) (hu : P.underlying e = some (.int .u8))
    (h1 : partV P e xs (i * c) = some (.int .u8 (a.toNat : Int))) (h2 : partV P e ys (i * c) = some (.int .u8 (b.toNat : Int))) :
    (Op.eqItems (d + 1) e c xs ys (i :: is)).run P w = if a = b then (Op.eqItems (d + 1) e c xs ys is).run P w else .ok false w := by
  simp only [Op.eqItems, Sem.run_bind, run_partV w h1, run_partV w h2, Result.andThen_ok, run_equalIn_int w d e _ _ _ _ hu]
  by_cases h : a = b
  · subst h
    simp
  · have : ((a.toNat : Int) == (b.toNat : Int)) = false := by
      rw [beq_eq_false_iff_ne]; intro x; exact h (UInt8.toNat_inj.1 (by omega))
    simp [this, h]
def macA (a : Mac) : Array Value := #[.int .u8 (a.1.toNat : Int), .int .u8 (a.2.1.toNat : Int), .int .u8 (a.2.2.1.toNat : Int), .int .u8 (a.2.2.2.1.toNat : Int), .int .u8 (a.2.2.2.2.1.toNat : Int), .int .u8 (a.2.2.2.2.2.toNat : Int)]
theorem mac_run (a b : Mac) (w : World) : (Op.equalIn 10000 26 (.agg (macA a)) (.agg (macA b))).run Tryz.prog w = .ok (decide (a = b)) w := by
  obtain ⟨a0, a1, a2, a3, a4, a5⟩ := a
  obtain ⟨b0, b1, b2, b3, b4, b5⟩ := b
  obtain ⟨i, hi⟩ := info_of_underlying (P := Tryz.prog) Tryz.underlying5
  have hp : ∀ (xs : Array Value) (k : Nat), partV Tryz.prog 5 xs k = xs[k]? := fun xs k => by unfold partV; rw [Tryz.underlying5]
  have hc : Tryz.prog.cellsOf 5 = 1 := by kernel_rfl
  rw [show (10000 : Nat) = 9998 + 1 + 1 from rfl, run_equalIn_array w (9998 + 1) _ _ Tryz.underlying26 hi, hc]
  simp only [show (List.range 6) = [0, 1, 2, 3, 4, 5] from rfl]
  rw [eqItems_step w 9998 a0 b0 Tryz.underlying5 (by rw [hp]; rfl) (by rw [hp]; rfl), eqItems_step w 9998 a1 b1 Tryz.underlying5 (by rw [hp]; rfl) (by rw [hp]; rfl),
    eqItems_step w 9998 a2 b2 Tryz.underlying5 (by rw [hp]; rfl) (by rw [hp]; rfl), eqItems_step w 9998 a3 b3 Tryz.underlying5 (by rw [hp]; rfl) (by rw [hp]; rfl),
    eqItems_step w 9998 a4 b4 Tryz.underlying5 (by rw [hp]; rfl) (by rw [hp]; rfl), eqItems_step w 9998 a5 b5 Tryz.underlying5 (by rw [hp]; rfl) (by rw [hp]; rfl)]
  simp only [Op.eqItems, Sem.run_pure, Prod.mk.injEq]
  by_cases h0 : a0 = b0 <;> simp [h0]
  by_cases h1 : a1 = b1 <;> simp [h1]
  by_cases h2 : a2 = b2 <;> simp [h2]
  by_cases h3 : a3 = b3 <;> simp [h3]
  by_cases h4 : a4 = b4 <;> simp [h4]
  by_cases h5 : a5 = b5 <;> simp [h5]
theorem mac_eql (a b : Mac) (w : World) : (binOp .eql 26 (.agg (macA a)) (.agg (macA b))).run Tryz.prog w = .ok (.bool (decide (a = b))) w := by
  rw [run_eql_struct w _ _ _, mac_run]; rfl
theorem mac_neq (a b : Mac) (w : World) : (binOp .neq 26 (.agg (macA a)) (.agg (macA b))).run Tryz.prog w = .ok (.bool (decide (a ≠ b))) w := by
  rw [run_neq_struct w _ _ _, mac_run]
  simp [Result.andThen]
theorem mac_guard : Tryz.prog.eqGuardType Tryz.prog.depth 26 = false := by kernel_rfl
end Go.Proofs.YtcbkaiakdhiloacGreatDoor
namespace Go.Proofs.YtcbkaiakdhiloacGreatDoor
open Go.RowKit Go.Proofs
attribute [local go_sem] bs_size bs_append bs_extract
def leftR (p : Nat) (w : World) : Nat := match w.cell? ⟨p, 0, none⟩ with
  | some (.string s) => s.size
  | _ => 0
theorem leftR_of {p : Nat} {w : World} {l : List UInt8} (h : Rd w p l) : leftR p w = l.length := by
  unfold leftR
  rw [Bk.cell h 0]
  exact bs_size l
def prB (p : Nat) (F : Nat → Prop) : Nat → Prop := fun k => k = p ∨ F k
def FromP (pl : Nat) (F : Nat → Prop) (p : Nat) (os : List OptD) (l : List UInt8) (w : World) (e : Ending) (w' : World) : Prop :=
  (∃ os' r, optRd os l = some os' ∧ e = .returned (.tuple #[]) ∧ LsA w' pl F os' ∧ Rd w' p r ∧ wtO os' ≤ wtO os + l.length ∧ Fr (prB p F) w w') ∨
  (optRd os l = none ∧ e = .panicked (faultC 1) ∧ Fr (prB p F) w w')
theorem u8_num1 {a : List UInt8} (h : a.length = 1) : ∃ c : UInt8, a = [c] ∧ num a = c.toNat := by
  match a, h with
  | [c], _ => exact ⟨c, rfl, by simp [num]⟩
theorem dhcFrom (pl : Nat) (F : Nat → Prop) (p : Nat) (os : List OptD) (l : List UInt8) (w : World) (hL : LsA w pl F os) (hR : Rd w p l) (hpb : ¬ F p) (hF : ∀ k, w.heap.size ≤ k → F k) (hwt : wtO os + l.length ≤ 1099511627000) :
    Calls Tryz.prog 100 #[.pointer (some ⟨pl, 0, none⟩), .pointer (some ⟨p, 0, none⟩)] w (FromP pl F p os l w) := by
  have HF := Lib.hid hF
  clear hF
  go_enter Tryz.func100, Tryz.ntmps100
  go_wp2_with fail
  go_loopw [] (fun wr => ∃ os1 l1, optRd os l = optRd os1 l1 ∧ LsA wr pl F os1 ∧ Rd wr p l1 ∧ wtO os1 + l1.length ≤ wtO os + l.length ∧ Fr (prB p F) w wr) (fun wr => leftR p wr)
  case atStart => exact ⟨os, l, rfl, hL, hR, by omega, Fr.refl _ _⟩
  case round =>
    obtain ⟨os1, l1, e1, hL1, hR1, hw1, hf1⟩ := hrel
    have hno : ∀ k, F k → ¬ oneB p k := fun k hk e => by unfold oneB at e; exact hpb (e ▸ hk)
    have hone : ∀ {x y : World}, Fr (oneB p) x y → Fr (prB p F) x y := fun h => h.mono fun b _ e => .inl e
    go_wp2_with fail
    refine (tU8 p l1 _ hR1 (by omega)).mono ?_
    rintro e w2 (⟨a1, r1, c1, b1, rfl, hR2, hf2⟩ | ⟨hlt, rfl, hf2⟩)
    rotate_left
    · refine ⟨rfl, .inr ⟨?_, rfl, hf1.trans (hone hf2)⟩⟩
      rw [e1, List.eq_nil_of_length_eq_zero (by omega : l1.length = 0)]; rfl
    obtain ⟨c, rfl, hn1⟩ := u8_num1 c1.2
    have hl1 : l1 = c :: r1 := c1.1
    have hL2 := hL1.keep hf2 hno
    have hf3 := hf1.trans (hone hf2)
    have hlen : l1.length = r1.length + 1 := by rw [hl1]; rfl
    have hmu := leftR_of hR1
    have hmu2 := leftR_of hR2
    have hv : (fun a => Value.int .u8 (num a)) [c] = .int .u8 (c.toNat : Int) := by simp only [hn1]
    rw [hv]
    clear hv
    have E1 := Lib.hid e1
    have HL1 := Lib.hid hl1
    clear e1 hl1 c1 hn1 hR1 hL1
    by_cases h0 : c = 0
    · subst h0
      have hrel2 : Hid (optRd os l = optRd os1 r1) := Lib.hid (by rw [E1.out, HL1.out, optRd_pad])
      go_wp2_with fail
      exact ⟨⟨os1, r1, hrel2.out, hL2, hR2, by omega, hf3⟩, by omega⟩
    · have h0i : ¬ (c.toNat : Int) = 0 := fun e => h0 (UInt8.toNat.inj (by simpa using e))
      by_cases h5 : c = 255
      · subst h5
        have hrel2 : Hid (optRd os l = some os1) := Lib.hid (by rw [E1.out, HL1.out, optRd_end])
        go_wp2_with fail
        refine bodyPost_ret (v := .tuple #[]) ?_ ?_ ?_
        · exact results_none rfl _ _ _
        · rfl
        exact .inl ⟨os1, r1, hrel2.out, rfl, hL2, hR2, by omega, hf3⟩
      · have h5i : ¬ (c.toNat : Int) = 255 := fun e => h5 (UInt8.toNat.inj (show c.toNat = 255 by omega))
        have H0 := Lib.hid h0
        have H5 := Lib.hid h5
        clear h0 h5
        go_wp2_with fail
        refine (tU8 p r1 _ hR2 (by omega)).mono ?_
        rintro e w3 (⟨a2, r2, c2, b2, rfl, hR3, hf4⟩ | ⟨hlt, rfl, hf4⟩)
        rotate_left
        · refine ⟨rfl, .inr ⟨?_, rfl, hf3.trans (hone hf4)⟩⟩
          rw [E1.out, HL1.out, List.eq_nil_of_length_eq_zero (by omega : r1.length = 0)]
          exact optRd_one _ _ H5.out H0.out
        obtain ⟨k, rfl, hn2⟩ := u8_num1 c2.2
        have hl2 : r1 = k :: r2 := c2.1
        have hL3 := hL2.keep hf4 hno
        have hf5 := hf3.trans (hone hf4)
        have hlen2 : r1.length = r2.length + 1 := by rw [hl2]; rfl
        have hmu3 := leftR_of hR3
        have hv : (fun a => Value.int .u8 (num a)) [k] = .int .u8 (k.toNat : Int) := by simp only [hn2]
        rw [hv]
        clear hv
        have HL2 := Lib.hid hl2
        have hk := k.toNat_lt
        clear hl2 c2 hn2 hR2 hL2
        go_wp2_with fail
        refine (tTake k.toNat p r2 _ hR3 (by omega) (by omega)).mono ?_
        rintro e w4 (⟨a3, r3, c3, b3, rfl, hR4, hf6⟩ | ⟨hlt, rfl, hf6⟩)
        rotate_left
        · refine ⟨rfl, .inr ⟨?_, rfl, hf5.trans (hone hf6)⟩⟩
          rw [E1.out, HL1.out, HL2.out]
          exact optRd_short _ _ _ _ H5.out H0.out hlt
        have hL4 := hL3.keep hf6 hno
        have hf7 := hf5.trans (hone hf6)
        have hl3 : r2 = a3 ++ r3 := c3.1
        have hla : a3.length = k.toNat := c3.2
        have hlen3 : r2.length = a3.length + r3.length := by rw [hl3, List.length_append]
        have hmu4 := leftR_of hR4
        have HL3 := Lib.hid hl3
        clear hl3 c3 hR3 hL3
        go_wp2_with fail
        refine (dhcAdd pl F os1 c a3 _ hL4 (by omega) (fun k hk => HF.out k (Nat.le_trans hf7.size hk))).mono ?_
        rintro e w5 ⟨rfl, hL5, hf8⟩
        have hwa := wtO_add os1 c a3
        have hR5 : Rd w5 p r3 := Bk.keep hR4 hf8 hpb
        have hmu5 := leftR_of hR5
        have hf9 : Fr (prB p F) w w5 := hf7.trans (hf8.mono fun b _ e => .inr e)
        have hrel2 : Hid (optRd os l = optRd (optAdd os1 c a3) r3) := Lib.hid (by
          rw [E1.out, HL1.out, HL2.out, optRd_opt _ _ _ _ H5.out H0.out (by omega), HL3.out, ← hla, List.take_left, List.drop_left])
        go_wp2_with fail
        exact ⟨⟨_, r3, hrel2.out, hL5, hR5, by omega, hf9⟩, by omega⟩
end Go.Proofs.YtcbkaiakdhiloacGreatDoor
namespace Go.Proofs.YtcbkaiakdhiloacGreatDoor
open Go.RowKit Go.Proofs
attribute [local go_sem] bs_size bs_append bs_extract
def zcInt : Array Value := #[.int .i64 0]
theorem catchInt (gx ge : Nat) (er : Int) (w : World) (hx : Bk w gx 3 zcInt) (he : Bk w ge 31 #[.int .i64 0]) (hne : gx ≠ ge) :
    CallsD Tryz.prog 201 #[.pointer (some ⟨gx, 0, none⟩), .pointer (some ⟨ge, 0, none⟩)] (.panicking (faultC er)) w fun r u' w' =>
      r = .returned (.tuple #[]) ∧ u' = .panicking [{ v := .iface 219 (.agg #[.int .i64 er]), recovered := true }] ∧ Bk w' gx 3 zcInt ∧ Bk w' ge 31 #[.int .i64 er] ∧ Fr (twoB gx ge) w w' := by
  have hta := fault_is er
  have hbf := Bk.new w 219 #[.int .i64 er]
  have hx2 := hx.alloc (.cells #[.int .i64 er] 219)
  have he2 := he.alloc (.cells #[.int .i64 er] 219)
  have hf2 : Fr (twoB gx ge) w (w.alloc (.cells #[.int .i64 er] 219)) := (Fr.refl _ _).alloc _
  have hgx := hx.lt
  have hge := he.lt
  refine callsD_of_wpS Tryz.func201 rfl fun c₀ cs hu => ?_
  apply wpS_seq
  apply wpS_region
  simp [wpOpsS, go_sem, recoverD, hu, Tryz.ntmps201, Exit.thenS, faultC]
  refine wpS_of_wp ?_
  simp only [Array.replicate_succ, Array.replicate_zero, List.push_toArray, List.append_toArray, List.nil_append, List.cons_append, List.setIfInBounds_toArray, List.set_cons_zero, List.set_cons_succ]
  go_wp2_with fail
  unfold zcInt at hx2
  generalize w.alloc (.cells #[.int .i64 er] 219) = w2 at *
  refine wp_region_ssa (by kernel_rfl) (by kernel_rfl) (by kernel_rfl)
    (fun u => ⟨#[.pointer (some ⟨gx, 0, none⟩), .pointer (some ⟨ge, 0, none⟩), undef, .pointer (some ⟨w.heap.size, 0, none⟩), .int .i64 0, undef,
      .iface 219 (.agg #[.int .i64 er]), undef, .bool false, .tuple #[.agg #[.int .i64 er], .bool true], .bool true, .agg #[.int .i64 er], u 0, u 1, u 2], []⟩)
    (fun j v _ => match j with | 0 => v = .int .i64 0 | 1 => v = .pointer (some ⟨w.heap.size, 0, none⟩) | 2 => v = .int .i64 er | _ => True)
    (fun L w3 => Bk w3 w.heap.size 219 #[.int .i64 er] ∧ Bk w3 gx 3 zcInt ∧ Bk w3 ge 31 #[if L 4 then .int .i64 er else .int .i64 0] ∧ Fr (twoB gx ge) w w3) (fun _ => undef) ⟨hbf.drew, hx2.drew, he2.drew, hf2.drew⟩ ?_ ?_
  · rintro L u w3 i o ⟨g1, g3, g4, g5⟩ hΦ ho hL hd K hK
    match i, ho with
    | 0, ho =>
      simp at ho; subst ho
      clear hΦ hd
      go_simp
      exact hK _ _ rfl ⟨g1, g3, g4, g5⟩ (fun _ _ _ h => h)
    | 1, ho =>
      simp at ho; subst ho
      clear hΦ hd
      go_simp
      exact hK _ _ rfl ⟨g1, g3, g4, g5⟩ (fun _ _ _ h => h)
    | 2, ho =>
      simp at ho; subst ho
      have hu1 := hΦ 1 (hd ⟨1, .data⟩ (by simp) (by rfl))
      simp only at hu1
      have hc := g1.cells
      clear hΦ hd
      go_simp
      have hk := hK _ w3 rfl ⟨g1, g3, g4, g5⟩ (fun _ _ _ h => h)
      simp only [upd, hu1] at hk
      exact hk
    | 3, ho =>
      simp at ho; subst ho
      have hu0 := hΦ 0 (hd ⟨0, .data⟩ (by simp) (by rfl))
      simp only at hu0
      have hc := g3.cells
      have hz := g3.frees
      clear hΦ hd
      go_simp
      have h3 : Bk (w3.setCell ⟨gx, 0, none⟩ (.int .i64 0)) gx 3 zcInt := by simpa [zcInt] using g3.set 0 (.int .i64 0)
      have hk := hK undef (w3.setCell ⟨gx, 0, none⟩ (.int .i64 0)) trivial ⟨g1.far (by simp; omega) _, h3, g4.far (by simp; omega) _, g5.setCell (p := ⟨gx, 0, none⟩) (fun _ => .inl rfl) _⟩ (fun _ _ _ h => h)
      simp only [upd, hu0] at hk
      exact hk
    | 4, ho =>
      simp at ho; subst ho
      have hu2 := hΦ 2 (hd ⟨2, .data⟩ (by simp) (by rfl))
      simp only [hL] at g4 hu2
      have hc := g4.cells
      have hz := g4.frees
      clear hΦ hd
      go_simp
      have h4 : Bk (w3.setCell ⟨ge, 0, none⟩ (.int .i64 er)) ge 31 #[.int .i64 er] := by simpa using g4.set 0 (.int .i64 er)
      have hk := hK undef (w3.setCell ⟨ge, 0, none⟩ (.int .i64 er)) trivial ⟨g1.far (by simp; omega) _, g3.far (by simpa using hne) _, h4, g5.setCell (p := ⟨ge, 0, none⟩) (fun _ => .inr rfl) _⟩ (fun _ _ _ h => h)
      simp only [upd, hu2] at hk
      exact hk
  · rintro u w3 hΦ L hall ⟨g1, g3, g4, g5⟩
    rw [hall 4 (by simp)] at g4
    exact ⟨rfl, _, rfl, .tuple #[], by simp [results, Tryz.results201], rfl, rfl, g3, by simpa using g4, g5⟩
theorem idleInt (gx ge : Nat) (w : World) :
    CallsD Tryz.prog 201 #[.pointer (some ⟨gx, 0, none⟩), .pointer (some ⟨ge, 0, none⟩)] .returning w fun r u' w' =>
      r = .returned (.tuple #[]) ∧ u' = .returning ∧ w' = w := by
  refine callsD_of_wpS Tryz.func201 rfl fun c₀ cs hu => ?_
  apply wpS_seq
  apply wpS_region
  simp [wpOpsS, go_sem, recoverD, hu, Tryz.ntmps201, Exit.thenS]
  refine wpS_of_wp ?_
  simp only [Array.replicate_succ, Array.replicate_zero, List.push_toArray, List.append_toArray, List.nil_append, List.cons_append, List.setIfInBounds_toArray, List.set_cons_zero, List.set_cons_succ]
  go_wp2_with fail
  simp [Exit.inBlock, bodyPostS, results, Tryz.results201]
  cases c₀
  simp at hu
  simp [hu]
theorem readWInt (l : List UInt8) (w : World) (q0 : Value) (S : Nat → Prop) (ok : Value → World → Prop) (bad : Int → Prop) (hS : ∀ k, w.heap.size ≤ k → k < w.heap.size + 2 → ¬ S k)
    (hok : ∀ x w1, ok x w1 → ∃ n : Int, x = .int .i64 n) (hst : ∀ x w1 w2, ok x w1 → Fr (twoB w.heap.size (w.heap.size + 1)) w1 w2 → ok x w2)
    (hby : ∀ (p : Nat) (w1 : World), p = w.heap.size + 2 → Rd w1 p l → Fr noB w w1 → Calls Tryz.prog 155 #[.pointer (some ⟨p, 0, none⟩), q0] w1 (byPostW S ok bad p w1)) :
    Calls Tryz.prog 154 #[.string (bs l), .func (.func 155) #[] #[q0]] w (readPostW (.int .i64 0) S ok bad w) := by
  have hmf : ∀ (fn : Fn) (first cap : Array Value) (w : World), (Instr.makeFunc fn first cap).run Tryz.prog w = .ok (.func fn first cap) w := fun _ _ _ _ => rfl
  go_enter_defers Tryz.func154, Tryz.ntmps154
  have Hby := Lib.hid hby
  have Hok := Lib.hid hok
  have Hst := Lib.hid hst
  have HS := Lib.hid hS
  clear hby hok hst hS
  go_wp2_with fail
  have hx0 := ((Bk.new w 3 zcInt).alloc (.cells #[.int .i64 0] 31)).alloc (.cells #[.string (bs l)] 221)
  have he0 := (Bk.new (w.alloc (.cells zcInt 3)) 31 #[.int .i64 0]).alloc (.cells #[.string (bs l)] 221)
  have hr0 := Bk.new ((w.alloc (.cells zcInt 3)).alloc (.cells #[.int .i64 0] 31)) 221 #[.string (bs l)]
  rw [show ((w.alloc (.cells zcInt 3)).alloc (.cells #[.int .i64 0] 31)).heap.size = w.heap.size + 1 + 1 by simp] at hr0
  rw [show (w.alloc (.cells zcInt 3)).heap.size = w.heap.size + 1 by simp] at he0
  have hf0 : Fr noB w (((w.alloc (.cells zcInt 3)).alloc (.cells #[.int .i64 0] 31)).alloc (.cells #[.string (bs l)] 221)) := (((Fr.refl _ _).alloc _).alloc _).alloc _
  unfold zcInt at hx0 he0 hr0 hf0
  generalize ((w.alloc (.cells #[.int .i64 0] 3)).alloc (.cells #[.int .i64 0] 31)).alloc (.cells #[.string (bs l)] 221) = w1 at *
  refine (Hby.out _ w1 (by omega) hr0 hf0).mono ?_
  have HX : ¬ orB (w.heap.size + 1 + 1) S w.heap.size := by rintro (h | h); omega; exact HS.out _ (by omega) (by omega) h
  have HE : ¬ orB (w.heap.size + 1 + 1) S (w.heap.size + 1) := by rintro (h | h); omega; exact HS.out _ (by omega) (by omega) h
  rintro e w2 ⟨⟨x0, hx, rfl⟩ | ⟨er, hbad, rfl⟩, hf1⟩
  · have hx1 := hx0.keep hf1 HX
    have he1 := he0.keep hf1 HE
    obtain ⟨n, rfl⟩ := Hok.out x0 w2 hx
    have hc1 := hx1.cells
    have hz1 := hx1.frees
    have hc2 := he1.cells
    have hz2 := he1.frees
    go_wp2_with fail
    have hx4 : Bk ((w2.setCell ⟨w.heap.size, 0, none⟩ (.int .i64 n)).setCell ⟨w.heap.size + 1, 0, none⟩ (.int .i64 0)) w.heap.size 3 #[.int .i64 n] := by
      have h := hx1.set 0 (.int .i64 n)
      simp at h
      exact Bk.far h (p := ⟨w.heap.size + 1, 0, none⟩) (by simp) _
    have hb3 : Bk ((w2.setCell ⟨w.heap.size, 0, none⟩ (.int .i64 n)).setCell ⟨w.heap.size + 1, 0, none⟩ (.int .i64 0)) (w.heap.size + 1) 31 #[.int .i64 0] := by
      have h := (he1.far (p := ⟨w.heap.size, 0, none⟩) (by simp) (.int .i64 n)).set 0 (.int .i64 0)
      simpa using h
    have hst4 : Fr (twoB w.heap.size (w.heap.size + 1)) w2 ((w2.setCell ⟨w.heap.size, 0, none⟩ (.int .i64 n)).setCell ⟨w.heap.size + 1, 0, none⟩ (.int .i64 0)) :=
      ((Fr.refl _ _).setCell (p := ⟨w.heap.size, 0, none⟩) (fun _ => .inl rfl) _).setCell (p := ⟨w.heap.size + 1, 0, none⟩) (fun _ => .inr rfl) _
    have hfin : Fr S w ((w2.setCell ⟨w.heap.size, 0, none⟩ (.int .i64 n)).setCell ⟨w.heap.size + 1, 0, none⟩ (.int .i64 0)) := by
      refine (((hf0.of_no S).trans' hf1 ?_).setCell ?_ _).setCell ?_ _
      · rintro b hb (e | e); omega; exact e
      · intro e; exact absurd e (by simp)
      · intro e; exact absurd e (by simp)
    generalize (w2.setCell ⟨w.heap.size, 0, none⟩ (.int .i64 n)).setCell ⟨w.heap.size + 1, 0, none⟩ (.int .i64 0) = w4 at *
    refine leaves_cons (f := 201) (args := #[.pointer (some ⟨w.heap.size, 0, none⟩), .pointer (some ⟨w.heap.size + 1, 0, none⟩)]) (by simp) (by simp [go_sem]) ?_
    refine (idleInt _ _ _).mono ?_
    rintro e u' w5 ⟨rfl, rfl, rfl⟩
    refine ⟨.tuple #[.int .i64 n, .int .i64 0], ?_, ⟨.inl ⟨_, Hst.out _ _ _ hx hst4, rfl⟩, hfin⟩⟩
    exact results_int_int Tryz.results154 _ w5 w.heap.size (w.heap.size + 1) _ _ n 0 _ _ rfl rfl hx4 hb3 Tryz.underlying3 Tryz.underlying31
  · have hx1 := hx0.keep hf1 HX
    have he1 := he0.keep hf1 HE
    have hfin : Fr S w w2 := (hf0.of_no S).trans' hf1 (by rintro b hb (e | e); omega; exact e)
    refine leaves_cons (f := 201) (args := #[.pointer (some ⟨w.heap.size, 0, none⟩), .pointer (some ⟨w.heap.size + 1, 0, none⟩)]) (by simp) (by simp [go_sem]) ?_
    refine (catchInt w.heap.size (w.heap.size + 1) er w2 hx1 he1 (by omega)).mono ?_
    rintro e u' w5 ⟨rfl, rfl, hx5, he5, hf5⟩
    refine ⟨.tuple #[.int .i64 0, .int .i64 er], ?_, ⟨.inr ⟨er, hbad, rfl⟩, hfin.trans' hf5 ?_⟩⟩
    · exact results_int_int Tryz.results154 _ w5 w.heap.size (w.heap.size + 1) _ _ 0 er _ _ rfl rfl hx5 he5 Tryz.underlying3 Tryz.underlying31
    · intro b hb e; unfold twoB at e; omega
end Go.Proofs.YtcbkaiakdhiloacGreatDoor
namespace Go.Proofs.YtcbkaiakdhiloacGreatDoor
open Go.RowKit Go.Proofs
attribute [local go_sem] bs_size bs_append bs_extract
def over1Ok (pl : Nat) (F : Nat → Prop) (os : List OptD) (l : List UInt8) (x : Value) (w : World) : Prop :=
  x = .int .i64 0 ∧ ∃ os', optRd os l = some os' ∧ LsA w pl F os' ∧ wtO os' ≤ wtO os + l.length
def over1Bad (os : List OptD) (l : List UInt8) (er : Int) : Prop := er = 1 ∧ optRd os l = none
theorem dhcOver1 (pl : Nat) (F : Nat → Prop) (p : Nat) (os : List OptD) (l : List UInt8) (w : World) (hL : LsA w pl F os) (hR : Rd w p l) (hpb : ¬ F p) (hF : ∀ k, w.heap.size ≤ k → F k) (hwt : wtO os + l.length ≤ 1099511627000) :
    Calls Tryz.prog 155 #[.pointer (some ⟨p, 0, none⟩), .pointer (some ⟨pl, 0, none⟩)] w (byPostW F (over1Ok pl F os l) (over1Bad os l) p w) := by
  go_enter Tryz.func155, Tryz.ntmps155
  go_wp2_with fail
  refine (dhcFrom pl F p os l w hL hR hpb hF hwt).mono ?_
  rintro e w1 (⟨os', r, h1, rfl, h2, h3, h4, h5⟩ | ⟨h1, rfl, h2⟩)
  · have H1 := Lib.hid h1
    clear h1
    go_wp2_with fail
    go_ret
    exact ⟨.inl ⟨_, ⟨rfl, os', H1.out, h2, h4⟩, rfl⟩, h5⟩
  · exact ⟨rfl, .inr ⟨1, ⟨rfl, h1⟩, rfl⟩, h2⟩
theorem LsA.at_size {w : World} {F : Nat → Prop} {pl : Nat} {os : List OptD} (h : LsA w pl F os) (n : Nat) : LsA w pl (fun k => (F k ∧ k < w.heap.size) ∨ w.heap.size + n ≤ k) os := by
  obtain ⟨h1, A, cap, h2, h3, h4⟩ := h
  refine ⟨.inl ⟨h1, h2.lt⟩, A, cap, h2, h3, ?_⟩
  rintro a rfl
  refine .inl ⟨h4 a rfl, ?_⟩
  obtain ⟨_, ⟨h5, _⟩ | ⟨g, _, cur, h5, _, hg, _⟩⟩ := h3
  · cases h5
  · cases h5; exact Bk.lt hg
theorem LsA.lt {w : World} {F : Nat → Prop} {pl : Nat} {os : List OptD} (h : LsA w pl F os) : pl < w.heap.size := by obtain ⟨_, _, _, h, _⟩ := h; exact h.lt
theorem over1Read (pl : Nat) (F : Nat → Prop) (os : List OptD) (l : List UInt8) (w : World) (hL : LsA w pl F os) (hwt : wtO os + l.length ≤ 1099511627000) :
    Calls Tryz.prog 154 #[.string (bs l), .func (.func 155) #[] #[.pointer (some ⟨pl, 0, none⟩)]] w fun e w' =>
      ((∃ os2, optRd os l = some os2 ∧ e = .returned (.tuple #[.int .i64 0, .int .i64 0]) ∧ LsA w' pl (fun k => F k ∨ w.heap.size ≤ k) os2 ∧ wtO os2 ≤ wtO os + l.length) ∨
       (optRd os l = none ∧ e = .returned (.tuple #[.int .i64 0, .int .i64 1]))) ∧ Fr F w w' := by
  have hL1 := hL.at_size 3
  refine (readWInt l w _ (fun k => (F k ∧ k < w.heap.size) ∨ w.heap.size + 3 ≤ k) (over1Ok pl (fun k => (F k ∧ k < w.heap.size) ∨ w.heap.size + 3 ≤ k) os l) (over1Bad os l) ?_ ?_ ?_ ?_).mono ?_
  · rintro k h1 h2 (h | h) <;> omega
  · rintro x w1 ⟨rfl, _⟩; exact ⟨0, rfl⟩
  · rintro x w1 w2 ⟨rfl, os', h1, h2, h3⟩ hf
    exact ⟨rfl, os', h1, h2.keep hf (by rintro k (h | h) (e | e) <;> omega), h3⟩
  · rintro p w1 rfl hR hf
    exact dhcOver1 pl _ _ os l w1 (hL1.keep hf (fun _ _ x => x)) hR (by rintro (h | h) <;> omega) (fun k hk => .inr (by have := Bk.lt hR; omega)) hwt
  · rintro e w1 ⟨⟨x, ⟨rfl, os', h1, h2, h3⟩, rfl⟩ | ⟨er, ⟨rfl, h1⟩, rfl⟩, hf⟩
    · exact ⟨.inl ⟨os', h1, rfl, h2.mono (by rintro k (h | h); exact .inl h.1; exact .inr (by omega)), h3⟩, hf.mono (by rintro b hb (h | h); exact h.1; omega)⟩
    · exact ⟨.inr ⟨h1, rfl⟩, hf.mono (by rintro b hb (h | h); exact h.1; omega)⟩
def OverP (S : Nat → Prop) (os : List OptD) (name file : List UInt8) (w : World) (e : Ending) (w' : World) : Prop :=
  ((∃ os' A' cap', overs os name file = (os', 0) ∧ e = .returned (.slice A' os'.length cap') ∧ SlR w' S 2 A' os'.length (optC os') ∧ wtO os' ≤ wtO os + name.length + file.length) ∨
   (∃ k : Nat, (overs os name file).2 = k + 1 ∧ e = .panicked (faultC ((k + 1 : Nat) : Int)))) ∧ Fr noB w w'
def notO (o : OptD) : Bool := !(o.code == 52)
theorem wtO_filter : ∀ os : List OptD, wtO (os.filter notO) ≤ wtO os
  | [] => Nat.le_refl _
  | o :: r => by
    have := wtO_filter r
    rw [List.filter_cons]
    split <;> simp only [wtO] <;> omega
theorem filter_take {os : List OptD} {i : Nat} {o : OptD} (h : os[i]? = some o) : (os.take (i + 1)).filter notO = (os.take i).filter notO ++ (if notO o then [o] else []) := by
  have hi : i < os.length := by
    rcases Nat.lt_or_ge i os.length with h1 | h1
    · exact h1
    · rw [List.getElem?_eq_none h1] at h; cases h
  rw [List.getElem?_eq_getElem hi] at h
  cases h
  rw [List.take_succ_eq_append_getElem hi, List.filter_append, List.filter_cons, List.filter_nil]
def areaL (name file : List UInt8) : Nat → Nat
  | 0 => 0
  | 1 => file.length
  | _ => file.length + name.length
def ovStep (x : UInt8) (name file : List UInt8) (a : List OptD) : Nat → Option (List OptD)
  | 0 => if x.toNat % 2 = 1 then optRd a file else some a
  | _ => if 2 ≤ x.toNat then optRd a name else some a
def ovAt (x : UInt8) (name file : List UInt8) (a : List OptD) : Nat → Option (List OptD)
  | 0 => some a
  | i + 1 => (ovAt x name file a i).bind fun b => ovStep x name file b i
theorem overs_some (os : List OptD) (name file : List UInt8) (x : UInt8) (h : optOf os 52 = some [x]) : overs os name file =
    if x.toNat < 1 ∨ 3 < x.toNat then ([], 2) else match ovAt x name file (os.filter notO) 2 with
      | none => ([], 1)
      | some a => if (optOf a 52).isSome then ([], 2) else (a, 0) := by
  unfold overs
  rw [h]
  simp only
  split
  · rfl
  · simp only [ovAt, Option.bind_some, ovStep]
    rw [show (fun o : OptD => !(o.code == 52)) = notO from rfl]
    cases (if x.toNat % 2 = 1 then optRd (os.filter notO) file else some (os.filter notO)) with
    | none => rfl
    | some a => simp only [Option.bind_some]; cases (if 2 ≤ x.toNat then optRd a name else some a) <;> rfl
theorem overs_bad (os : List OptD) (name file : List UInt8) (d : List UInt8) (h : optOf os 52 = some d) (hd : d.length ≠ 1) : overs os name file = ([], 2) := by
  unfold overs
  rw [h]
  match d, hd with
  | [], _ => rfl
  | [_], hd => exact absurd rfl hd
  | _ :: _ :: _, _ => rfl
theorem dhcOver (S : Nat → Prop) (A : Option Addr) (cap : Nat) (os : List OptD) (name file : List UInt8) (w : World) (hAS : SlR w S 2 A os.length (optC os)) (hS : ∀ k, w.heap.size ≤ k → ¬ S k) (hwt : wtO os + name.length + file.length ≤ 1099511627000) :
    Calls Tryz.prog 101 #[.slice A os.length cap, .string (bs name), .string (bs file)] w (OverP S os name file w) := by
  have hA := hAS.sub (T := noB) (fun _ _ x => x.elim)
  have HAS := Lib.hid hAS
  have HS0 := Lib.hid hS
  clear hAS hS
  have hlw := wtO_len os
  obtain ⟨n, hn⟩ : ∃ n, os.length = n := ⟨_, rfl⟩
  rw [hn] at hA ⊢
  go_enter Tryz.func101, Tryz.ntmps101
  go_wp2_with fail
  have hOf := dhcOf noB A n cap os 52 w hA (by omega)
  rw [show (((52 : UInt8).toNat : Nat) : Int) = 52 by decide] at hOf
  refine hOf.mono ?_
  clear hOf
  rintro e w1 ⟨rfl, hf1⟩
  have hA1 := hA.keep hf1
  clear hA
  cases ho : optOf os 52 with
  | none =>
    have Ho := Lib.hid ho
    clear ho
    go_wp2_with fail
    go_ret
    refine ⟨.inl ⟨os, A, cap, ?_, by rw [hn]; rfl, HAS.out.keep (hf1.of_no S), by omega⟩, hf1⟩
    show overs os name file = (os, 0)
    unfold overs; rw [Ho.out]
  | some d =>
    simp only [Option.getD_some, Option.isSome_some]
    by_cases hd : d.length = 1
    rotate_left
    · have Hb := Lib.hid (overs_bad os name file d ho hd)
      clear ho
      have hdi : ¬ (d.length : Int) = 1 := by omega
      go_wp2_with fail
      refine (must_no 2 _).mono ?_
      rintro x w2 ⟨rfl, rfl⟩
      exact ⟨rfl, .inr ⟨1, by rw [Hb.out], rfl⟩, hf1⟩
    match d, hd with
    | [x], _ =>
    have Hs := Lib.hid (overs_some os name file x ho)
    clear ho
    have hx := x.toNat_lt
    have hg0 : ∀ h : 0 < (bs [x]).size, (bs [x])[0]'h = x := fun h => by rw [bs_get]; rfl
    by_cases hx1 : x.toNat < 1
    · have Hb : Hid (overs os name file = ([], 2)) := Lib.hid (by rw [Hs.out, if_pos (.inl hx1)])
      clear Hs
      have hxi : ¬ (1 : Int) ≤ (x.toNat : Int) := by omega
      go_wp2_with fail
      refine (must_no 2 _).mono ?_
      rintro e w2 ⟨rfl, rfl⟩
      exact ⟨rfl, .inr ⟨1, by rw [Hb.out], rfl⟩, hf1⟩
    have hxi : (1 : Int) ≤ (x.toNat : Int) := by omega
    by_cases hx3 : 3 < x.toNat
    · have Hb : Hid (overs os name file = ([], 2)) := Lib.hid (by rw [Hs.out, if_pos (.inr hx3)])
      clear Hs
      have hxj : ¬ (x.toNat : Int) ≤ (3 : Int) := by omega
      go_wp2_with fail
      refine (must_no 2 _).mono ?_
      rintro e w2 ⟨rfl, rfl⟩
      exact ⟨rfl, .inr ⟨1, by rw [Hb.out], rfl⟩, hf1⟩
    have hxj : (x.toNat : Int) ≤ (3 : Int) := by omega
    have HS : Hid (overs os name file = match ovAt x name file (os.filter notO) 2 with
      | none => ([], 1)
      | some a => if (optOf a 52).isSome then ([], 2) else (a, 0)) := Lib.hid (by rw [Hs.out, if_neg (by omega)])
    clear Hs
    go_wp2_with fail
    refine (must_yes 2 _).mono ?_
    rintro e w2 ⟨rfl, rfl⟩
    go_wp2_with fail
    have hL0 : LsA (w1.alloc (.cells #[.slice none 0 0] 184)) w1.heap.size (fromB w1.heap.size) [] :=
      ⟨Nat.le_refl _, none, 0, Bk.new _ _ _, ⟨rfl, .inl ⟨rfl, rfl⟩⟩, fun a h => by cases h⟩
    have hfa : Fr noB w1 (w1.alloc (.cells #[.slice none 0 0] 184)) := (Fr.refl _ _).alloc _
    obtain ⟨pl, hpl⟩ : ∃ pl, pl = w1.heap.size := ⟨_, rfl⟩
    rw [← hpl] at hL0 ⊢
    have Hpl := Lib.hid hpl
    clear hpl
    generalize w1.alloc (.cells #[.slice none 0 0] 184) = w3 at *
    obtain ⟨i0, hi0, hz0, hz1, hz2⟩ := info_parts opt_info
    go_loopw [42] (fun iv wr => ∃ (i : Nat), i ≤ n ∧ iv = .int .i64 (i : Int) ∧ LsA wr pl (fromB pl) ((os.take i).filter notO) ∧ Fr noB w1 wr) (fun iv _ => n - (intOf iv).toNat)
    case atStart => exact ⟨0, by omega, rfl, hL0, hfa⟩
    case round =>
      obtain ⟨i, hi, rfl, hL, hw⟩ := hrel
      by_cases hlt : i < n
      · obtain ⟨o, ho⟩ : ∃ o, os[i]? = some o := ⟨_, List.getElem?_eq_getElem (by omega)⟩
        obtain ⟨ad, rfl, c1, c2⟩ := (hA1.keep hw).optAt ho
        have hft := Lib.hid (filter_take ho)
        clear ho
        have hne := Fr.alloc hw (.cells #[.int .u8 (o.code.toNat : Int), .string (bs o.data)] 66)
        have hL2 := hL.keep ((Fr.refl noB wr).alloc (.cells #[.int .u8 (o.code.toNat : Int), .string (bs o.data)] 66)) (fun _ _ x => x)
        by_cases he : o.code = 52
        · have hei : (o.code.toNat : Int) = 52 := by rw [he]; decide
          have Hft : Hid ((os.take (i + 1)).filter notO = (os.take i).filter notO) := Lib.hid (by
            rw [hft.out, if_neg (by unfold notO; rw [he]; decide), List.append_nil])
          clear hft he
          rw [hei] at hL2 hne
          have HL2 := Lib.hid hL2
          clear hL2 hL
          go_wp2_with fail
          exact ⟨⟨i + 1, by omega, by rw [Int.natCast_add]; rfl, by rw [Hft.out]; exact HL2.out, hne⟩, by simp only [intOf]; omega⟩
        · have hei : ¬ (o.code.toNat : Int) = 52 := fun e => he (UInt8.toNat.inj (show o.code.toNat = 52 by omega))
          have Hft : Hid ((os.take (i + 1)).filter notO = (os.take i).filter notO ++ [o]) := Lib.hid (by
            rw [hft.out, if_pos (by unfold notO; simpa using he)])
          clear hft he
          obtain ⟨hbp, A1, cap1, hB, hO, hAF⟩ := hL2
          have hAp : ∀ a, A1 = some a → a.block ≠ pl := by
            rintro a rfl e
            obtain ⟨_, ⟨h2, _⟩ | ⟨g, _, cur, h2, _, hg, _⟩⟩ := hO
            · cases h2
            · cases h2
              rw [show g = pl from e, hB] at hg
              cases hg
          have hfw := wtO_filter os
          have hlen1 : ((os.take i).filter notO).length ≤ i := Nat.le_trans (List.length_filter_le _ _) (List.length_take_le i os)
          have hc0 := hB.cells
          have hb2 := hB.alloc (.cells #[.int .u8 (o.code.toNat : Int), .string (bs o.data)] 66)
          have hsr : SlR ((wr.alloc (.cells #[.int .u8 (o.code.toNat : Int), .string (bs o.data)] 66)).alloc (.cells #[.int .u8 (o.code.toNat : Int), .string (bs o.data)] 66)) noB 2 (some ⟨wr.heap.size + 1, 0, none⟩) 1 (optC [o]) := by
            have h := SlR.of_bk (n := 1) (size := 2) (S := noB) (Bk.new (wr.alloc (.cells #[.int .u8 (o.code.toNat : Int), .string (bs o.data)] 66)) 66 #[.int .u8 (o.code.toNat : Int), .string (bs o.data)]) (fun x => x) rfl
            rw [show (wr.alloc (.cells #[.int .u8 (o.code.toNat : Int), .string (bs o.data)] 66)).heap.size = wr.heap.size + 1 by simp] at h
            exact h
          have hO2 : ((wr.alloc (.cells #[.int .u8 (o.code.toNat : Int), .string (bs o.data)] 66)).alloc (.cells #[.int .u8 (o.code.toNat : Int), .string (bs o.data)] 66)).ownsRow 0 66 2 (.slice A1 ((os.take i).filter notO).length cap1) ((os.take i).filter notO).length (optC ((os.take i).filter notO)) :=
            own_keep hO (((Fr.refl noB (wr.alloc (.cells #[.int .u8 (o.code.toNat : Int), .string (bs o.data)] 66))).alloc _)) (fun _ _ x => x)
          obtain ⟨m, hm⟩ : ∃ m, ((os.take i).filter notO).length = m := ⟨_, rfl⟩
          have hop : ∃ l0, optC ((os.take i).filter notO) = l0 := ⟨_, rfl⟩
          obtain ⟨l0, hl0⟩ := hop
          rw [hm] at hO2 hO hB hc0 hb2 hlen1
          rw [hl0] at hO2 hO
          have Hm := Lib.hid hm
          have Hl0 := Lib.hid hl0
          clear hm hl0
          go_wp2_with (at_builtin
                       go_must (refine wpList_app rfl (.tmp 49) (.tmp 51) _ rfl 0 66 i0 _ 2 24 Tryz.underlying184 hi0 hz0 hz1 hz2 rfl (by omega) A1 _ _ _ rfl hO2 noB _ 1 1 _ rfl hsr optC_one (by unfold maxLen; omega) (by omega) (Nat.zero_le _) ?_)
                       intro A2 cap2 w4 hap
                       have hb3 := hb2.keep hap.fr (by rintro ⟨a, e, e2⟩; exact hAp a e e2)
                       have hc3 := hb3.cells
                       have hf3 := hb3.frees)
          have hLn : LsA (w4.setCell ⟨pl, 0, none⟩ (.slice A2 (m + 1) cap2)) pl (fromB pl) ((os.take (i + 1)).filter notO) := by
            rw [Hft.out]
            refine ⟨hbp, A2, cap2, ?_, ?_, ?_⟩
            · rw [List.length_append, Hm.out]; exact (by simpa using hb3.set 0 (.slice A2 (m + 1) cap2))
            · rw [List.length_append, optC_append, Hm.out, Hl0.out]; exact own_far hap.own hb3 (by decide) _
            · intro a e
              rcases hap.at_ a e with h | ⟨a0, e0, h⟩
              · have h1 := hB.lt; simp at h h1; unfold fromB; omega
              · rw [← h]; exact hAF a0 e0
          have hfn : Fr noB w1 (w4.setCell ⟨pl, 0, none⟩ (.slice A2 (m + 1) cap2)) := by
            have hpn : ¬ pl < w1.heap.size := by rw [Hpl.out]; omega
            refine (((hne.alloc _)).trans' hap.fr ?_).setCell (fun h => absurd h hpn) _
            rintro b hb ⟨a, e, rfl⟩
            have h := hAF a e
            unfold fromB at h; omega
          exact ⟨⟨i + 1, by omega, by rw [Int.natCast_add]; rfl, hLn, hfn⟩, by simp only [intOf]; omega⟩
      · obtain rfl : i = n := by omega
        have hL1 : LsA wr pl (fromB pl) (os.filter notO) := by rw [List.take_of_length_le (by omega)] at hL; exact hL
        clear hL
        have hL2 := (hL1.at_size 1).keep ((Fr.refl noB wr).alloc (.cells #[.string (bs file), .string (bs name)] 9)) (fun _ _ x => x)
        have hL3 : LsA (wr.alloc (.cells #[.string (bs file), .string (bs name)] 9)) pl (fun k => pl ≤ k ∧ k ≠ wr.heap.size) (os.filter notO) :=
          hL2.mono fun k h => by have := hL1.lt; unfold fromB at h; refine ⟨?_, ?_⟩ <;> rcases h with h | h <;> omega
        have hB2 := Bk.new wr 9 #[.string (bs file), .string (bs name)]
        have hf3 := hw.alloc (.cells #[.string (bs file), .string (bs name)] 9)
        have hpl2 := hL1.lt
        clear hL1 hL2
        go_wp2_with fail
        obtain ⟨g2, hg2⟩ : ∃ g2, wr.heap.size = g2 := ⟨_, rfl⟩
        rw [hg2] at hL3 hB2 hpl2
        rw [hg2]
        clear hg2
        have hw0 := wtO_filter os
        have Hw := Lib.hid (show w1.heap.size ≤ pl by rw [Hpl.out]; omega)
        generalize wr.alloc (.cells #[.string (bs file), .string (bs name)] 9) = w5 at *
        obtain ⟨a0, ha0⟩ : ∃ a0, os.filter notO = a0 := ⟨_, rfl⟩
        rw [ha0] at hL3 hw0 HS
        clear ha0
        go_loopw [58] (fun iv wr => ∃ (i : Nat), i ≤ 2 ∧ iv = .int .i64 (i : Int) ∧ ∃ os1, ovAt x name file a0 i = some os1 ∧ LsA wr pl (fun k => pl ≤ k ∧ k ≠ g2) os1 ∧ Bk wr g2 9 #[.string (bs file), .string (bs name)] ∧
          Fr noB w1 wr ∧ wtO os1 ≤ wtO os + areaL name file i) (fun iv _ => 2 - (intOf iv).toNat)
        case atStart => exact ⟨0, by omega, rfl, a0, rfl, hL3, hB2, hf3, hw0⟩
        case round =>
          obtain ⟨i, hi, rfl, os1, hov, hL, hB, hw, hwo⟩ := hrel
          by_cases hlt : i < 2
          · have hc := hB.cells
            have Hov := Lib.hid hov
            clear hov
            rcases (by omega : i = 0 ∨ i = 1) with rfl | rfl
            ·
              by_cases hbit : x.toNat % 2 = 1
              · have hb : bits BinOp.and IntKind.u8 (x.toNat : Int) 1 = 1 := by
                  rcases (by omega : x.toNat = 1 ∨ x.toNat = 3) with h | h <;> rw [h] <;> decide
                have Hn : Hid (ovAt x name file a0 1 = optRd os1 file) := Lib.hid (by rw [ovAt, Hov.out, Option.bind_some, ovStep, if_pos hbit])
                clear Hov
                go_wp2_with fail
                refine (over1Read pl _ os1 file _ hL (by simp only [areaL] at hwo; omega)).mono ?_
                rintro e w6 ⟨⟨os2, h1, rfl, h2, h3⟩ | ⟨h1, rfl⟩, hf6⟩
                · have hg := hB.lt
                  have hL6 : LsA w6 pl (fun k => pl ≤ k ∧ k ≠ g2) os2 := h2.mono (by rintro k (h | h); exact h; omega)
                  have hB6 := hB.keep hf6 (by rintro ⟨_, h⟩; exact h rfl)
                  have hw6 : Fr noB w1 w6 := hw.trans' hf6 (by rintro b hb ⟨h, _⟩; have := Hw.out; omega)
                  have H1 : Hid (ovAt x name file a0 1 = some os2) := Lib.hid (by rw [Hn.out, h1])
                  clear h1 h2 Hn
                  go_wp2_with fail
                  refine (must_yes 0 _).mono ?_
                  rintro e w7 ⟨rfl, rfl⟩
                  go_wp2_with fail
                  exact ⟨⟨1, by omega, rfl, os2, H1.out, hL6, hB6, hw6, by simp only [areaL] at hwo ⊢; omega⟩, by simp [intOf]⟩
                · have H1 : Hid ((overs os name file).2 = 1) := Lib.hid (by rw [HS.out, ovAt, Hn.out, h1, Option.bind_none])
                  have hw6 : Fr noB w w6 := hf1.none (hw.trans' hf6 (by rintro b hb ⟨h, _⟩; have := Hw.out; omega))
                  clear h1 Hn
                  go_wp2_with fail
                  refine (must_no 1 _).mono ?_
                  rintro e w7 ⟨rfl, rfl⟩
                  exact ⟨rfl, .inr ⟨0, H1.out, rfl⟩, hw6⟩
              · have hb : ¬ bits BinOp.and IntKind.u8 (x.toNat : Int) 1 = 1 := by
                  rw [show x.toNat = 2 by omega]; decide
                have Hn : Hid (ovAt x name file a0 1 = some os1) := Lib.hid (by rw [ovAt, Hov.out, Option.bind_some, ovStep, if_neg hbit])
                clear Hov
                go_wp2_with fail
                exact ⟨⟨1, by omega, rfl, os1, Hn.out, hL, hB, hw, by simp only [areaL] at hwo ⊢; omega⟩, by simp [intOf]⟩
            ·
              by_cases hbit : 2 ≤ x.toNat
              · have hb : bits BinOp.and IntKind.u8 ((x.toNat : Int) / 2) 1 = 1 := by
                  rcases (by omega : x.toNat = 2 ∨ x.toNat = 3) with h | h <;> rw [h] <;> decide
                have Hn : Hid (ovAt x name file a0 2 = optRd os1 name) := Lib.hid (by rw [ovAt, Hov.out, Option.bind_some, ovStep, if_pos hbit]; rintro h; cases h)
                clear Hov
                go_wp2_with fail
                refine (over1Read pl _ os1 name _ hL (by simp only [areaL] at hwo; omega)).mono ?_
                rintro e w6 ⟨⟨os2, h1, rfl, h2, h3⟩ | ⟨h1, rfl⟩, hf6⟩
                · have hg := hB.lt
                  have hL6 : LsA w6 pl (fun k => pl ≤ k ∧ k ≠ g2) os2 := h2.mono (by rintro k (h | h); exact h; omega)
                  have hB6 := hB.keep hf6 (by rintro ⟨_, h⟩; exact h rfl)
                  have hw6 : Fr noB w1 w6 := hw.trans' hf6 (by rintro b hb ⟨h, _⟩; have := Hw.out; omega)
                  have H1 : Hid (ovAt x name file a0 2 = some os2) := Lib.hid (by rw [Hn.out, h1])
                  clear h1 h2 Hn
                  go_wp2_with fail
                  refine (must_yes 0 _).mono ?_
                  rintro e w7 ⟨rfl, rfl⟩
                  go_wp2_with fail
                  exact ⟨⟨2, by omega, rfl, os2, H1.out, hL6, hB6, hw6, by simp only [areaL] at hwo ⊢; omega⟩, by simp [intOf]⟩
                · have H1 : Hid ((overs os name file).2 = 1) := Lib.hid (by rw [HS.out, Hn.out, h1])
                  have hw6 : Fr noB w w6 := hf1.none (hw.trans' hf6 (by rintro b hb ⟨h, _⟩; have := Hw.out; omega))
                  clear h1 Hn
                  go_wp2_with fail
                  refine (must_no 1 _).mono ?_
                  rintro e w7 ⟨rfl, rfl⟩
                  exact ⟨rfl, .inr ⟨0, H1.out, rfl⟩, hw6⟩
              · have hb : ¬ bits BinOp.and IntKind.u8 ((x.toNat : Int) / 2) 1 = 1 := by
                  rw [show x.toNat = 1 by omega]; decide
                have Hn : Hid (ovAt x name file a0 2 = some os1) := Lib.hid (by rw [ovAt, Hov.out, Option.bind_some, ovStep, if_neg hbit]; rintro h; cases h)
                clear Hov
                go_wp2_with fail
                exact ⟨⟨2, by omega, rfl, os1, Hn.out, hL, hB, hw, by simp only [areaL] at hwo ⊢; omega⟩, by simp [intOf]⟩
          · obtain rfl : i = 2 := by omega
            have Hs2 : Hid (overs os name file = if (optOf os1 52).isSome then ([], 2) else (os1, 0)) := Lib.hid (by rw [HS.out, hov])
            clear hov
            obtain ⟨hbp, A1, cap1, hB1, hO1, hAF1⟩ := hL
            have hc1 := hB1.cells
            have hA2 := own_slr hO1
            have hl1 := wtO_len os1
            have hOf := dhcOf noB A1 os1.length cap1 os1 52 wr hA2 (by simp only [areaL] at hwo; omega)
            rw [show (((52 : UInt8).toNat : Nat) : Int) = 52 by decide] at hOf
            go_wp2_with fail
            refine hOf.mono ?_
            clear hOf
            rintro e w6 ⟨rfl, hf6⟩
            have hA4 : SlR w6 S 2 A1 os1.length (optC os1) := (own_slrS hO1 (by intro a e h; have h1 := hAF1 a e; exact HS0.out _ (by have := Hw.out; have := hf1.size; omega) h)).keep (hf6.of_no S)
            have hB3 := hB1.keep hf6 (fun x => x)
            have hc3 := hB3.cells
            have hw6 : Fr noB w w6 := hf1.none (hw.none hf6)
            cases hos : (optOf os1 52).isSome with
            | true =>
              have H1 : Hid ((overs os name file).2 = 2) := Lib.hid (by rw [Hs2.out, hos]; rfl)
              clear Hs2
              go_wp2_with fail
              refine (must_no 2 _).mono ?_
              rintro e w7 ⟨rfl, rfl⟩
              exact ⟨rfl, .inr ⟨1, H1.out, rfl⟩, hw6⟩
            | false =>
              have H1 : Hid (overs os name file = (os1, 0)) := Lib.hid (by rw [Hs2.out, hos]; rfl)
              clear Hs2
              go_wp2_with fail
              refine (must_yes 2 _).mono ?_
              rintro e w7 ⟨rfl, rfl⟩
              go_wp2_with fail
              go_ret
              exact ⟨.inl ⟨os1, A1, cap1, H1.out, rfl, hA4, by simp only [areaL] at hwo; omega⟩, hw6⟩
end Go.Proofs.YtcbkaiakdhiloacGreatDoor
namespace Go.Proofs.YtcbkaiakdhiloacGreatDoor
open Go.RowKit Go.Proofs
attribute [local go_sem] bs_size bs_append bs_extract
def zcDhc : Array Value := #[.bool false, .int .u32 0, .int .u32 0, .int .u32 0, .int .u32 0, .int .u8 0, .int .u8 0, .int .u8 0, .int .u8 0, .int .u8 0, .int .u8 0, .slice none 0 0]
theorem catchDhc (gx ge : Nat) (er : Int) (w : World) (hx : Bk w gx 62 zcDhc) (he : Bk w ge 31 #[.int .i64 0]) (hne : gx ≠ ge) :
    CallsD Tryz.prog 151 #[.pointer (some ⟨gx, 0, none⟩), .pointer (some ⟨ge, 0, none⟩)] (.panicking (faultC er)) w fun r u' w' =>
      r = .returned (.tuple #[]) ∧ u' = .panicking [{ v := .iface 219 (.agg #[.int .i64 er]), recovered := true }] ∧ Bk w' gx 62 zcDhc ∧ Bk w' ge 31 #[.int .i64 er] ∧ Fr (twoB gx ge) w w' := by
  have hta := fault_is er
  have hbf := (Bk.new w 219 #[.int .i64 er]).alloc (.cells zcDhc 62)
  have hbz := Bk.new (w.alloc (.cells #[.int .i64 er] 219)) 62 zcDhc
  rw [show (w.alloc (.cells #[.int .i64 er] 219)).heap.size = w.heap.size + 1 by simp] at hbz
  have hx2 := (hx.alloc (.cells #[.int .i64 er] 219)).alloc (.cells zcDhc 62)
  have he2 := (he.alloc (.cells #[.int .i64 er] 219)).alloc (.cells zcDhc 62)
  have hf2 : Fr (twoB gx ge) w ((w.alloc (.cells #[.int .i64 er] 219)).alloc (.cells zcDhc 62)) := ((Fr.refl _ _).alloc _).alloc _
  have hgx := hx.lt
  have hge := he.lt
  refine callsD_of_wpS Tryz.func151 rfl fun c₀ cs hu => ?_
  apply wpS_seq
  apply wpS_region
  simp [wpOpsS, go_sem, recoverD, hu, Tryz.ntmps151, Exit.thenS, faultC]
  refine wpS_of_wp ?_
  simp only [Array.replicate_succ, Array.replicate_zero, List.push_toArray, List.append_toArray, List.nil_append, List.cons_append, List.setIfInBounds_toArray, List.set_cons_zero, List.set_cons_succ]
  go_wp2_with fail
  unfold zcDhc at hbf hbz hx2 he2 hf2
  generalize (w.alloc (.cells #[.int .i64 er] 219)).alloc (.cells #[.bool false, .int .u32 0, .int .u32 0, .int .u32 0, .int .u32 0, .int .u8 0, .int .u8 0, .int .u8 0, .int .u8 0, .int .u8 0, .int .u8 0, .slice none 0 0] 62) = w2 at *
  refine wp_region_ssa (by kernel_rfl) (by kernel_rfl) (by kernel_rfl)
    (fun u => ⟨#[.pointer (some ⟨gx, 0, none⟩), .pointer (some ⟨ge, 0, none⟩), undef, .pointer (some ⟨w.heap.size, 0, none⟩), .pointer (some ⟨w.heap.size + 1, 0, none⟩), undef,
      .iface 219 (.agg #[.int .i64 er]), undef, .bool false, .tuple #[.agg #[.int .i64 er], .bool true], .bool true, .agg #[.int .i64 er], u 0, u 1, u 2], []⟩)
    (fun j v _ => match j with | 0 => v = .agg zcDhc | 1 => v = .pointer (some ⟨w.heap.size, 0, none⟩) | 2 => v = .int .i64 er | _ => True)
    (fun L w3 => Bk w3 w.heap.size 219 #[.int .i64 er] ∧ Bk w3 (w.heap.size + 1) 62 zcDhc ∧ Bk w3 gx 62 zcDhc ∧ Bk w3 ge 31 #[if L 4 then .int .i64 er else .int .i64 0] ∧ Fr (twoB gx ge) w w3) (fun _ => undef) ⟨hbf.drew, hbz.drew, hx2.drew, he2.drew, hf2.drew⟩ ?_ ?_
  · rintro L u w3 i o ⟨g1, g2, g3, g4, g5⟩ hΦ ho hL hd K hK
    match i, ho with
    | 0, ho =>
      simp at ho; subst ho
      refine wp_load_row 62 (.tmp 4) rfl (w.heap.size + 1) rfl _ _ _ _ g2 Tryz.underlying62 rfl (by kernel_rfl) ?_
      exact hK _ _ rfl ⟨g1, g2, g3, g4, g5⟩ (fun _ _ _ h => h)
    | 1, ho =>
      simp at ho; subst ho
      clear hΦ hd
      go_simp
      exact hK _ _ rfl ⟨g1, g2, g3, g4, g5⟩ (fun _ _ _ h => h)
    | 2, ho =>
      simp at ho; subst ho
      have hu1 := hΦ 1 (hd ⟨1, .data⟩ (by simp) (by rfl))
      simp only at hu1
      have hc := g1.cells
      clear hΦ hd
      go_simp
      have hk := hK _ w3 rfl ⟨g1, g2, g3, g4, g5⟩ (fun _ _ _ h => h)
      simp only [upd, hu1] at hk
      exact hk
    | 3, ho =>
      simp at ho; subst ho
      have hu0 := hΦ 0 (hd ⟨0, .data⟩ (by simp) (by rfl))
      refine wp_store_bk 62 (.tmp 0) (.tmp 12) rfl gx _ _ _ rfl hu0 g3 rfl (by kernel_rfl) (by kernel_rfl) ?_
      intro w4 b4 f4
      refine hK undef _ trivial ⟨g1.keep f4 ?_, g2.keep f4 ?_, b4, g4.keep f4 ?_, g5.trans' f4 ?_⟩ (fun _ _ _ h => h)
      · unfold oneB; omega
      · unfold oneB; omega
      · unfold oneB; omega
      · intro b _ e; exact .inl e
    | 4, ho =>
      simp at ho; subst ho
      have hu2 := hΦ 2 (hd ⟨2, .data⟩ (by simp) (by rfl))
      simp only [hL] at g4 hu2
      have hc := g4.cells
      have hz := g4.frees
      clear hΦ hd
      go_simp
      have h4 : Bk (w3.setCell ⟨ge, 0, none⟩ (.int .i64 er)) ge 31 #[.int .i64 er] := by simpa using g4.set 0 (.int .i64 er)
      have hk := hK undef (w3.setCell ⟨ge, 0, none⟩ (.int .i64 er)) trivial ⟨g1.far (by simp; omega) _, g2.far (by simp; omega) _, g3.far (by simpa using hne) _, h4, g5.setCell (p := ⟨ge, 0, none⟩) (fun _ => .inr rfl) _⟩ (fun _ _ _ h => h)
      simp only [upd, hu2] at hk
      exact hk
  · rintro u w3 hΦ L hall ⟨g1, g2, g3, g4, g5⟩
    rw [hall 4 (by simp)] at g4
    exact ⟨rfl, _, rfl, .tuple #[], by simp [results, Tryz.results151], rfl, rfl, g3, by simpa using g4, g5⟩
theorem idleDhc (gx ge : Nat) (w : World) :
    CallsD Tryz.prog 151 #[.pointer (some ⟨gx, 0, none⟩), .pointer (some ⟨ge, 0, none⟩)] .returning w fun r u' w' =>
      r = .returned (.tuple #[]) ∧ u' = .returning ∧ w' = w := by
  refine callsD_of_wpS Tryz.func151 rfl fun c₀ cs hu => ?_
  apply wpS_seq
  apply wpS_region
  simp [wpOpsS, go_sem, recoverD, hu, Tryz.ntmps151, Exit.thenS]
  refine wpS_of_wp ?_
  simp only [Array.replicate_succ, Array.replicate_zero, List.push_toArray, List.append_toArray, List.nil_append, List.cons_append, List.setIfInBounds_toArray, List.set_cons_zero, List.set_cons_succ]
  go_wp2_with fail
  simp [Exit.inBlock, bodyPostS, results, Tryz.results151]
  cases c₀
  simp at hu
  simp [hu]
end Go.Proofs.YtcbkaiakdhiloacGreatDoor
namespace Go.Proofs.YtcbkaiakdhiloacGreatDoor
open Go.RowKit Go.Proofs
attribute [local go_sem] bs_size bs_append bs_extract
theorem readWDhc (l : List UInt8) (w : World) (q0 : Value) (S : Nat → Prop) (ok : Value → World → Prop) (bad : Int → Prop) (hS : ∀ k, w.heap.size ≤ k → k < w.heap.size + 2 → ¬ S k)
    (hok : ∀ x w1, ok x w1 → ∃ c : Array Value, x = .agg c ∧ c.size = zcDhc.size ∧ c.all (·.oneCell') = true) (hst : ∀ x w1 w2, ok x w1 → Fr (twoB w.heap.size (w.heap.size + 1)) w1 w2 → ok x w2)
    (hby : ∀ (p : Nat) (w1 : World), p = w.heap.size + 2 → Rd w1 p l → Fr noB w w1 → Calls Tryz.prog 98 #[.pointer (some ⟨p, 0, none⟩), q0] w1 (byPostW S ok bad p w1)) :
    Calls Tryz.prog 97 #[.string (bs l), .func (.func 98) #[] #[q0]] w (readPostW (.agg zcDhc) S ok bad w) := by
  have hmf : ∀ (fn : Fn) (first cap : Array Value) (w : World), (Instr.makeFunc fn first cap).run Tryz.prog w = .ok (.func fn first cap) w := fun _ _ _ _ => rfl
  go_enter_defers Tryz.func97, Tryz.ntmps97
  have Hby := Lib.hid hby
  have Hok := Lib.hid hok
  have Hst := Lib.hid hst
  have HS := Lib.hid hS
  clear hby hok hst hS
  go_wp2_with fail
  have hx0 := ((Bk.new w 62 zcDhc).alloc (.cells #[.int .i64 0] 31)).alloc (.cells #[.string (bs l)] 221)
  have he0 := (Bk.new (w.alloc (.cells zcDhc 62)) 31 #[.int .i64 0]).alloc (.cells #[.string (bs l)] 221)
  have hr0 := Bk.new ((w.alloc (.cells zcDhc 62)).alloc (.cells #[.int .i64 0] 31)) 221 #[.string (bs l)]
  rw [show ((w.alloc (.cells zcDhc 62)).alloc (.cells #[.int .i64 0] 31)).heap.size = w.heap.size + 1 + 1 by simp] at hr0
  rw [show (w.alloc (.cells zcDhc 62)).heap.size = w.heap.size + 1 by simp] at he0
  have hf0 : Fr noB w (((w.alloc (.cells zcDhc 62)).alloc (.cells #[.int .i64 0] 31)).alloc (.cells #[.string (bs l)] 221)) := (((Fr.refl _ _).alloc _).alloc _).alloc _
  unfold zcDhc at hx0 he0 hr0 hf0
  generalize ((w.alloc (.cells #[.bool false, .int .u32 0, .int .u32 0, .int .u32 0, .int .u32 0, .int .u8 0, .int .u8 0, .int .u8 0, .int .u8 0, .int .u8 0, .int .u8 0, .slice none 0 0] 62)).alloc (.cells #[.int .i64 0] 31)).alloc (.cells #[.string (bs l)] 221) = w1 at *
  refine (Hby.out _ w1 (by omega) hr0 hf0).mono ?_
  have HX : ¬ orB (w.heap.size + 1 + 1) S w.heap.size := by rintro (h | h); omega; exact HS.out _ (by omega) (by omega) h
  have HE : ¬ orB (w.heap.size + 1 + 1) S (w.heap.size + 1) := by rintro (h | h); omega; exact HS.out _ (by omega) (by omega) h
  rintro e w2 ⟨⟨x0, hx, rfl⟩ | ⟨er, hbad, rfl⟩, hf1⟩
  · have hx1 := hx0.keep hf1 HX
    have he1 := he0.keep hf1 HE
    obtain ⟨x, rfl, hsx, hox⟩ := Hok.out x0 w2 hx
    have Hsx := Lib.hid hsx
    have Hox := Lib.hid hox
    have hix : (Tryz.prog.info? 62).map (·.size) = some x.size := by rw [hsx]; kernel_rfl
    have Hix := Lib.hid hix
    clear hsx hox hix
    go_wp2_with ((refine wpList_store_bk rfl 62 (.tmp 4) (.tmp 11) rfl w.heap.size _ _ x rfl rfl hx1 Hsx.out Hix.out Hox.out ?_); intro w3 hx3 hf3; have he3 := he1.keep hf3 (by unfold oneB; omega); have hc3 := he3.cells; have hz3 := he3.frees)
    have hb3 : Bk (w3.setCell ⟨w.heap.size + 1, 0, none⟩ (.int .i64 0)) (w.heap.size + 1) 31 #[.int .i64 0] := by simpa using he3.set 0 (.int .i64 0)
    have hx4 := hx3.far (p := ⟨w.heap.size + 1, 0, none⟩) (by simp) (.int .i64 0)
    have hst4 : Fr (twoB w.heap.size (w.heap.size + 1)) w2 (w3.setCell ⟨w.heap.size + 1, 0, none⟩ (.int .i64 0)) := (hf3.mono fun b _ e => .inl e).setCell (p := ⟨w.heap.size + 1, 0, none⟩) (fun _ => .inr rfl) _
    have hfin : Fr S w (w3.setCell ⟨w.heap.size + 1, 0, none⟩ (.int .i64 0)) := by
      refine ((((hf0.of_no S).trans' hf1 ?_).trans' hf3 ?_).setCell ?_ _)
      · rintro b hb (e | e); omega; exact e
      · intro b hb e; unfold oneB at e; omega
      · intro e; exact absurd e (by simp)
    generalize w3.setCell ⟨w.heap.size + 1, 0, none⟩ (.int .i64 0) = w4 at *
    refine leaves_cons (f := 151) (args := #[.pointer (some ⟨w.heap.size, 0, none⟩), .pointer (some ⟨w.heap.size + 1, 0, none⟩)]) (by simp) (by simp [go_sem]) ?_
    refine (idleDhc _ _ _).mono ?_
    rintro e u' w5 ⟨rfl, rfl, rfl⟩
    refine ⟨.tuple #[.agg x, .int .i64 0], ?_, ⟨.inl ⟨_, Hst.out _ _ _ hx hst4, rfl⟩, hfin⟩⟩
    exact results_row_int Tryz.results97 _ w5 w.heap.size (w.heap.size + 1) _ _ x 0 _ _ rfl rfl hx4 hb3 Tryz.underlying62 rfl Hix.out Tryz.underlying31
  · have hx1 := hx0.keep hf1 HX
    have he1 := he0.keep hf1 HE
    have hfin : Fr S w w2 := (hf0.of_no S).trans' hf1 (by rintro b hb (e | e); omega; exact e)
    refine leaves_cons (f := 151) (args := #[.pointer (some ⟨w.heap.size, 0, none⟩), .pointer (some ⟨w.heap.size + 1, 0, none⟩)]) (by simp) (by simp [go_sem]) ?_
    refine (catchDhc w.heap.size (w.heap.size + 1) er w2 hx1 he1 (by omega)).mono ?_
    rintro e u' w5 ⟨rfl, rfl, hx5, he5, hf5⟩
    refine ⟨.tuple #[.agg zcDhc, .int .i64 er], ?_, ⟨.inr ⟨er, hbad, rfl⟩, hfin.trans' hf5 ?_⟩⟩
    · exact results_row_int Tryz.results97 _ w5 w.heap.size (w.heap.size + 1) _ _ _ er _ _ rfl rfl hx5 he5 Tryz.underlying62 rfl (by kernel_rfl) Tryz.underlying31
    · intro b hb e; unfold twoB at e; omega
end Go.Proofs.YtcbkaiakdhiloacGreatDoor
