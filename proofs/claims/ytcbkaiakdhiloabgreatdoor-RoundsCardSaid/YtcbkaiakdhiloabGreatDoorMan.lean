/- octets.Read at int: the deferred function's two contracts (behind a fault, and when nothing has gone wrong) and Read's own, over the reading function (netboot/dhcp.list).over$1. Written by mkread.py. -/
import Derived.Test.YtcbkaiakdhiloabGreatDoorMam
import Derived.Test.YtcbkaiakdhiloabGreatDoorMac
set_option linter.unusedSimpArgs false
set_option linter.unusedVariables false
namespace Go.Proofs.YtcbkaiakdhiloabGreatDoor
open Go.RowKit Go.Proofs
attribute [local go_sem] bs_size bs_append bs_extract

def zcInt : Array Value := #[.int .i64 0]
set_option maxRecDepth 20000 in
set_option maxHeartbeats 1000000 in
theorem catchInt (gx ge : Nat) (er : Int) (w : World) (hx : Bk w gx 3 zcInt) (he : Bk w ge 28 #[.int .i64 0]) (hne : gx ≠ ge) :
    CallsD Tryz.prog 189 #[.pointer (some ⟨gx, 0, none⟩), .pointer (some ⟨ge, 0, none⟩)] (.panicking (faultC er)) w fun r u' w' =>
      r = .returned (.tuple #[]) ∧ u' = .panicking [{ v := .iface 182 (.agg #[.int .i64 er]), recovered := true }] ∧ Bk w' gx 3 zcInt ∧ Bk w' ge 28 #[.int .i64 er] ∧ Fr (twoB gx ge) w w' := by
  have hta := fault_is er
  have hbf := Bk.new w 182 #[.int .i64 er]
  have hx2 := hx.alloc (.cells #[.int .i64 er] 182)
  have he2 := he.alloc (.cells #[.int .i64 er] 182)
  have hf2 : Fr (twoB gx ge) w (w.alloc (.cells #[.int .i64 er] 182)) := (Fr.refl _ _).alloc _
  have hgx := hx.lt
  have hge := he.lt
  refine callsD_of_wpS Tryz.func189 rfl fun c₀ cs hu => ?_
  apply wpS_seq
  apply wpS_region
  simp [wpOpsS, go_sem, recoverD, hu, Tryz.ntmps189, Exit.thenS, faultC]
  refine wpS_of_wp ?_
  simp only [Array.replicate_succ, Array.replicate_zero, List.push_toArray, List.append_toArray, List.nil_append, List.cons_append, List.setIfInBounds_toArray, List.set_cons_zero, List.set_cons_succ]
  go_wp2_with fail
  unfold zcInt at hx2
  generalize w.alloc (.cells #[.int .i64 er] 182) = w2 at *
  refine wp_region_ssa (by kernel_rfl) (by kernel_rfl) (by kernel_rfl)
    (fun u => ⟨#[.pointer (some ⟨gx, 0, none⟩), .pointer (some ⟨ge, 0, none⟩), undef, .pointer (some ⟨w.heap.size, 0, none⟩), .int .i64 0, undef,
      .iface 182 (.agg #[.int .i64 er]), undef, .bool false, .tuple #[.agg #[.int .i64 er], .bool true], .bool true, .agg #[.int .i64 er], u 0, u 1, u 2], []⟩)
    (fun j v _ => match j with | 0 => v = .int .i64 0 | 1 => v = .pointer (some ⟨w.heap.size, 0, none⟩) | 2 => v = .int .i64 er | _ => True)
    (fun L w3 => Bk w3 w.heap.size 182 #[.int .i64 er] ∧ Bk w3 gx 3 zcInt ∧ Bk w3 ge 28 #[if L 4 then .int .i64 er else .int .i64 0] ∧ Fr (twoB gx ge) w w3) (fun _ => undef) ⟨hbf.drew, hx2.drew, he2.drew, hf2.drew⟩ ?_ ?_
  · rintro L u w3 i o ⟨g1, g3, g4, g5⟩ hΦ ho hL hd K hK
    match i, ho with
    | 0, ho =>
      simp at ho; subst ho
      clear hΦ hd
      go_simp
      exact hK _ _ rfl ⟨g1, g3, g4, g5⟩ (fun _ _ _ h => h)
    | 1, ho =>
      simp at ho; subst ho
      clear hΦ hd
      go_simp
      exact hK _ _ rfl ⟨g1, g3, g4, g5⟩ (fun _ _ _ h => h)
    | 2, ho =>
      simp at ho; subst ho
      have hu1 := hΦ 1 (hd ⟨1, .data⟩ (by simp) (by rfl))
      simp only at hu1
      have hc := g1.cells
      clear hΦ hd
      go_simp
      have hk := hK _ w3 rfl ⟨g1, g3, g4, g5⟩ (fun _ _ _ h => h)
      simp only [upd, hu1] at hk
      exact hk
    | 3, ho =>
      simp at ho; subst ho
      have hu0 := hΦ 0 (hd ⟨0, .data⟩ (by simp) (by rfl))
      simp only at hu0
      have hc := g3.cells
      have hz := g3.frees
      clear hΦ hd
      go_simp
      have h3 : Bk (w3.setCell ⟨gx, 0, none⟩ (.int .i64 0)) gx 3 zcInt := by simpa [zcInt] using g3.set 0 (.int .i64 0)
      have hk := hK undef (w3.setCell ⟨gx, 0, none⟩ (.int .i64 0)) trivial ⟨g1.far (by simp; omega) _, h3, g4.far (by simp; omega) _, g5.setCell (p := ⟨gx, 0, none⟩) (fun _ => .inl rfl) _⟩ (fun _ _ _ h => h)
      simp only [upd, hu0] at hk
      exact hk
    | 4, ho =>
      simp at ho; subst ho
      have hu2 := hΦ 2 (hd ⟨2, .data⟩ (by simp) (by rfl))
      simp only [hL] at g4 hu2
      have hc := g4.cells
      have hz := g4.frees
      clear hΦ hd
      go_simp
      have h4 : Bk (w3.setCell ⟨ge, 0, none⟩ (.int .i64 er)) ge 28 #[.int .i64 er] := by simpa using g4.set 0 (.int .i64 er)
      have hk := hK undef (w3.setCell ⟨ge, 0, none⟩ (.int .i64 er)) trivial ⟨g1.far (by simp; omega) _, g3.far (by simpa using hne) _, h4, g5.setCell (p := ⟨ge, 0, none⟩) (fun _ => .inr rfl) _⟩ (fun _ _ _ h => h)
      simp only [upd, hu2] at hk
      exact hk
  · rintro u w3 hΦ L hall ⟨g1, g3, g4, g5⟩
    rw [hall 4 (by simp)] at g4
    exact ⟨rfl, _, rfl, .tuple #[], by simp [results, Tryz.results189], rfl, rfl, g3, by simpa using g4, g5⟩

theorem idleInt (gx ge : Nat) (w : World) :
    CallsD Tryz.prog 189 #[.pointer (some ⟨gx, 0, none⟩), .pointer (some ⟨ge, 0, none⟩)] .returning w fun r u' w' =>
      r = .returned (.tuple #[]) ∧ u' = .returning ∧ w' = w := by
  refine callsD_of_wpS Tryz.func189 rfl fun c₀ cs hu => ?_
  apply wpS_seq
  apply wpS_region
  simp [wpOpsS, go_sem, recoverD, hu, Tryz.ntmps189, Exit.thenS]
  refine wpS_of_wp ?_
  simp only [Array.replicate_succ, Array.replicate_zero, List.push_toArray, List.append_toArray, List.nil_append, List.cons_append, List.setIfInBounds_toArray, List.set_cons_zero, List.set_cons_succ]
  go_wp2_with fail
  simp [Exit.inBlock, bodyPostS, results, Tryz.results189]
  cases c₀
  simp at hu
  simp [hu]

set_option maxRecDepth 20000 in
set_option maxHeartbeats 1000000 in
/-- Read, over the reading function: what that returns, or its fault's error. -/
theorem readWInt (l : List UInt8) (w : World) (q0 : Value) (S : Nat → Prop) (ok : Value → World → Prop) (bad : Int → Prop) (hS : ∀ k, w.heap.size ≤ k → k < w.heap.size + 2 → ¬ S k)
    (hok : ∀ x w1, ok x w1 → ∃ n : Int, x = .int .i64 n) (hst : ∀ x w1 w2, ok x w1 → Fr (twoB w.heap.size (w.heap.size + 1)) w1 w2 → ok x w2)
    (hby : ∀ (p : Nat) (w1 : World), p = w.heap.size + 2 → Rd w1 p l → Fr noB w w1 → Calls Tryz.prog 160 #[.pointer (some ⟨p, 0, none⟩), q0] w1 (byPostW S ok bad p w1)) :
    Calls Tryz.prog 159 #[.string (bs l), .func (.func 160) #[] #[q0]] w (readPostW (.int .i64 0) S ok bad w) := by
  have hmf : ∀ (fn : Fn) (first cap : Array Value) (w : World), (Instr.makeFunc fn first cap).run Tryz.prog w = .ok (.func fn first cap) w := fun _ _ _ _ => rfl
  go_enter_defers Tryz.func159, Tryz.ntmps159
  have Hby := Lib.hid hby
  have Hok := Lib.hid hok
  have Hst := Lib.hid hst
  have HS := Lib.hid hS
  clear hby hok hst hS
  go_wp2_with fail
  have hx0 := ((Bk.new w 3 zcInt).alloc (.cells #[.int .i64 0] 28)).alloc (.cells #[.string (bs l)] 184)
  have he0 := (Bk.new (w.alloc (.cells zcInt 3)) 28 #[.int .i64 0]).alloc (.cells #[.string (bs l)] 184)
  have hr0 := Bk.new ((w.alloc (.cells zcInt 3)).alloc (.cells #[.int .i64 0] 28)) 184 #[.string (bs l)]
  rw [show ((w.alloc (.cells zcInt 3)).alloc (.cells #[.int .i64 0] 28)).heap.size = w.heap.size + 1 + 1 by simp] at hr0
  rw [show (w.alloc (.cells zcInt 3)).heap.size = w.heap.size + 1 by simp] at he0
  have hf0 : Fr noB w (((w.alloc (.cells zcInt 3)).alloc (.cells #[.int .i64 0] 28)).alloc (.cells #[.string (bs l)] 184)) := (((Fr.refl _ _).alloc _).alloc _).alloc _
  unfold zcInt at hx0 he0 hr0 hf0
  generalize ((w.alloc (.cells #[.int .i64 0] 3)).alloc (.cells #[.int .i64 0] 28)).alloc (.cells #[.string (bs l)] 184) = w1 at *
  refine (Hby.out _ w1 (by omega) hr0 hf0).mono ?_
  have HX : ¬ orB (w.heap.size + 1 + 1) S w.heap.size := by rintro (h | h); omega; exact HS.out _ (by omega) (by omega) h
  have HE : ¬ orB (w.heap.size + 1 + 1) S (w.heap.size + 1) := by rintro (h | h); omega; exact HS.out _ (by omega) (by omega) h
  rintro e w2 ⟨⟨x0, hx, rfl⟩ | ⟨er, hbad, rfl⟩, hf1⟩
  · have hx1 := hx0.keep hf1 HX
    have he1 := he0.keep hf1 HE
    obtain ⟨n, rfl⟩ := Hok.out x0 w2 hx
    have hc1 := hx1.cells
    have hz1 := hx1.frees
    have hc2 := he1.cells
    have hz2 := he1.frees
    go_wp2_with fail
    have hx4 : Bk ((w2.setCell ⟨w.heap.size, 0, none⟩ (.int .i64 n)).setCell ⟨w.heap.size + 1, 0, none⟩ (.int .i64 0)) w.heap.size 3 #[.int .i64 n] := by
      have h := hx1.set 0 (.int .i64 n)
      simp at h
      exact Bk.far h (p := ⟨w.heap.size + 1, 0, none⟩) (by simp) _
    have hb3 : Bk ((w2.setCell ⟨w.heap.size, 0, none⟩ (.int .i64 n)).setCell ⟨w.heap.size + 1, 0, none⟩ (.int .i64 0)) (w.heap.size + 1) 28 #[.int .i64 0] := by
      have h := (he1.far (p := ⟨w.heap.size, 0, none⟩) (by simp) (.int .i64 n)).set 0 (.int .i64 0)
      simpa using h
    have hst4 : Fr (twoB w.heap.size (w.heap.size + 1)) w2 ((w2.setCell ⟨w.heap.size, 0, none⟩ (.int .i64 n)).setCell ⟨w.heap.size + 1, 0, none⟩ (.int .i64 0)) :=
      ((Fr.refl _ _).setCell (p := ⟨w.heap.size, 0, none⟩) (fun _ => .inl rfl) _).setCell (p := ⟨w.heap.size + 1, 0, none⟩) (fun _ => .inr rfl) _
    have hfin : Fr S w ((w2.setCell ⟨w.heap.size, 0, none⟩ (.int .i64 n)).setCell ⟨w.heap.size + 1, 0, none⟩ (.int .i64 0)) := by
      refine (((hf0.of_no S).trans' hf1 ?_).setCell ?_ _).setCell ?_ _
      · rintro b hb (e | e); omega; exact e
      · intro e; exact absurd e (by simp)
      · intro e; exact absurd e (by simp)
    generalize (w2.setCell ⟨w.heap.size, 0, none⟩ (.int .i64 n)).setCell ⟨w.heap.size + 1, 0, none⟩ (.int .i64 0) = w4 at *
    refine leaves_cons (f := 189) (args := #[.pointer (some ⟨w.heap.size, 0, none⟩), .pointer (some ⟨w.heap.size + 1, 0, none⟩)]) (by simp) (by simp [go_sem]) ?_
    refine (idleInt _ _ _).mono ?_
    rintro e u' w5 ⟨rfl, rfl, rfl⟩
    refine ⟨.tuple #[.int .i64 n, .int .i64 0], ?_, ⟨.inl ⟨_, Hst.out _ _ _ hx hst4, rfl⟩, hfin⟩⟩
    exact results_int_int Tryz.results159 _ w5 w.heap.size (w.heap.size + 1) _ _ n 0 _ _ rfl rfl hx4 hb3 Tryz.underlying3 Tryz.underlying28
  · have hx1 := hx0.keep hf1 HX
    have he1 := he0.keep hf1 HE
    have hfin : Fr S w w2 := (hf0.of_no S).trans' hf1 (by rintro b hb (e | e); omega; exact e)
    refine leaves_cons (f := 189) (args := #[.pointer (some ⟨w.heap.size, 0, none⟩), .pointer (some ⟨w.heap.size + 1, 0, none⟩)]) (by simp) (by simp [go_sem]) ?_
    refine (catchInt w.heap.size (w.heap.size + 1) er w2 hx1 he1 (by omega)).mono ?_
    rintro e u' w5 ⟨rfl, rfl, hx5, he5, hf5⟩
    refine ⟨.tuple #[.int .i64 0, .int .i64 er], ?_, ⟨.inr ⟨er, hbad, rfl⟩, hfin.trans' hf5 ?_⟩⟩
    · exact results_int_int Tryz.results159 _ w5 w.heap.size (w.heap.size + 1) _ _ 0 er _ _ rfl rfl hx5 he5 Tryz.underlying3 Tryz.underlying28
    · intro b hb e; unfold twoB at e; omega
end Go.Proofs.YtcbkaiakdhiloabGreatDoor
namespace Go.Proofs.YtcbkaiakdhiloabGreatDoor
open Go.RowKit Go.Proofs
attribute [local go_sem] bs_size bs_append bs_extract

def over1Ok (pl : Nat) (F : Nat → Prop) (os : List OptD) (l : List UInt8) (x : Value) (w : World) : Prop :=
  x = .int .i64 0 ∧ ∃ os', optRd os l = some os' ∧ LsA w pl F os' ∧ wtO os' ≤ wtO os + l.length
def over1Bad (os : List OptD) (l : List UInt8) (er : Int) : Prop := er = 1 ∧ optRd os l = none
theorem dhcOver1 (pl : Nat) (F : Nat → Prop) (p : Nat) (os : List OptD) (l : List UInt8) (w : World) (hL : LsA w pl F os) (hR : Rd w p l) (hpb : ¬ F p) (hF : ∀ k, w.heap.size ≤ k → F k) (hwt : wtO os + l.length ≤ 1099511627000) :
    Calls Tryz.prog 160 #[.pointer (some ⟨p, 0, none⟩), .pointer (some ⟨pl, 0, none⟩)] w (byPostW F (over1Ok pl F os l) (over1Bad os l) p w) := by
  go_enter Tryz.func160, Tryz.ntmps160
  go_wp2_with fail
  refine (dhcFrom pl F p os l w hL hR hpb hF hwt).mono ?_
  rintro e w1 (⟨os', r, h1, rfl, h2, h3, h4, h5⟩ | ⟨h1, rfl, h2⟩)
  · have H1 := Lib.hid h1
    clear h1
    go_wp2_with fail
    go_ret
    exact ⟨.inl ⟨_, ⟨rfl, os', H1.out, h2, h4⟩, rfl⟩, h5⟩
  · exact ⟨rfl, .inr ⟨1, ⟨rfl, h1⟩, rfl⟩, h2⟩

theorem LsA.at_size {w : World} {F : Nat → Prop} {pl : Nat} {os : List OptD} (h : LsA w pl F os) (n : Nat) : LsA w pl (fun k => (F k ∧ k < w.heap.size) ∨ w.heap.size + n ≤ k) os := by
  obtain ⟨h1, A, cap, h2, h3, h4⟩ := h
  refine ⟨.inl ⟨h1, h2.lt⟩, A, cap, h2, h3, ?_⟩
  rintro a rfl
  refine .inl ⟨h4 a rfl, ?_⟩
  obtain ⟨_, ⟨h5, _⟩ | ⟨g, _, cur, h5, _, hg, _⟩⟩ := h3
  · cases h5
  · cases h5; exact Bk.lt hg
theorem LsA.lt {w : World} {F : Nat → Prop} {pl : Nat} {os : List OptD} (h : LsA w pl F os) : pl < w.heap.size := by obtain ⟨_, _, _, h, _⟩ := h; exact h.lt
theorem over1Read (pl : Nat) (F : Nat → Prop) (os : List OptD) (l : List UInt8) (w : World) (hL : LsA w pl F os) (hwt : wtO os + l.length ≤ 1099511627000) :
    Calls Tryz.prog 159 #[.string (bs l), .func (.func 160) #[] #[.pointer (some ⟨pl, 0, none⟩)]] w fun e w' =>
      ((∃ os2, optRd os l = some os2 ∧ e = .returned (.tuple #[.int .i64 0, .int .i64 0]) ∧ LsA w' pl (fun k => F k ∨ w.heap.size ≤ k) os2 ∧ wtO os2 ≤ wtO os + l.length) ∨
       (optRd os l = none ∧ e = .returned (.tuple #[.int .i64 0, .int .i64 1]))) ∧ Fr F w w' := by
  have hL1 := hL.at_size 3
  refine (readWInt l w _ (fun k => (F k ∧ k < w.heap.size) ∨ w.heap.size + 3 ≤ k) (over1Ok pl (fun k => (F k ∧ k < w.heap.size) ∨ w.heap.size + 3 ≤ k) os l) (over1Bad os l) ?_ ?_ ?_ ?_).mono ?_
  · rintro k h1 h2 (h | h) <;> omega
  · rintro x w1 ⟨rfl, _⟩; exact ⟨0, rfl⟩
  · rintro x w1 w2 ⟨rfl, os', h1, h2, h3⟩ hf
    exact ⟨rfl, os', h1, h2.keep hf (by rintro k (h | h) (e | e) <;> omega), h3⟩
  · rintro p w1 rfl hR hf
    exact dhcOver1 pl _ _ os l w1 (hL1.keep hf (fun _ _ x => x)) hR (by rintro (h | h) <;> omega) (fun k hk => .inr (by have := Bk.lt hR; omega)) hwt
  · rintro e w1 ⟨⟨x, ⟨rfl, os', h1, h2, h3⟩, rfl⟩ | ⟨er, ⟨rfl, h1⟩, rfl⟩, hf⟩
    · exact ⟨.inl ⟨os', h1, rfl, h2.mono (by rintro k (h | h); exact .inl h.1; exact .inr (by omega)), h3⟩, hf.mono (by rintro b hb (h | h); exact h.1; omega)⟩
    · exact ⟨.inr ⟨h1, rfl⟩, hf.mono (by rintro b hb (h | h); exact h.1; omega)⟩
/-- what over leaves -/
def OverP (S : Nat → Prop) (os : List OptD) (name file : List UInt8) (w : World) (e : Ending) (w' : World) : Prop :=
  ((∃ os' A' cap', overs os name file = (os', 0) ∧ e = .returned (.slice A' os'.length cap') ∧ SlR w' S 2 A' os'.length (optC os') ∧ wtO os' ≤ wtO os + name.length + file.length) ∨
   (∃ k : Nat, (overs os name file).2 = k + 1 ∧ e = .panicked (faultC ((k + 1 : Nat) : Int)))) ∧ Fr noB w w'
def notO (o : OptD) : Bool := !(o.code == 52)
theorem wtO_filter : ∀ os : List OptD, wtO (os.filter notO) ≤ wtO os
  | [] => Nat.le_refl _
  | o :: r => by
    have := wtO_filter r
    rw [List.filter_cons]
    split <;> simp only [wtO] <;> omega
theorem filter_take {os : List OptD} {i : Nat} {o : OptD} (h : os[i]? = some o) : (os.take (i + 1)).filter notO = (os.take i).filter notO ++ (if notO o then [o] else []) := by
  have hi : i < os.length := by
    rcases Nat.lt_or_ge i os.length with h1 | h1
    · exact h1
    · rw [List.getElem?_eq_none h1] at h; cases h
  rw [List.getElem?_eq_getElem hi] at h
  cases h
  rw [List.take_succ_eq_append_getElem hi, List.filter_append, List.filter_cons, List.filter_nil]
/-- how long the areas are that were read ahead of the i-th -/
def areaL (name file : List UInt8) : Nat → Nat
  | 0 => 0
  | 1 => file.length
  | _ => file.length + name.length
/-- the areas, one behind the other -/
def ovStep (x : UInt8) (name file : List UInt8) (a : List OptD) : Nat → Option (List OptD)
  | 0 => if x.toNat % 2 = 1 then optRd a file else some a
  | _ => if 2 ≤ x.toNat then optRd a name else some a
def ovAt (x : UInt8) (name file : List UInt8) (a : List OptD) : Nat → Option (List OptD)
  | 0 => some a
  | i + 1 => (ovAt x name file a i).bind fun b => ovStep x name file b i
theorem ovAt_none {x : UInt8} {name file : List UInt8} {a : List OptD} (h : ovAt x name file a 1 = none) : ovAt x name file a 2 = none := by rw [ovAt, h]; rfl
theorem overs_some (os : List OptD) (name file : List UInt8) (x : UInt8) (h : optOf os 52 = some [x]) : overs os name file =
    if x.toNat < 1 ∨ 3 < x.toNat then ([], 2) else match ovAt x name file (os.filter notO) 2 with
      | none => ([], 1)
      | some a => if (optOf a 52).isSome then ([], 2) else (a, 0) := by
  unfold overs
  rw [h]
  simp only
  split
  · rfl
  · simp only [ovAt, Option.bind_some, ovStep]
    rw [show (fun o : OptD => !(o.code == 52)) = notO from rfl]
    cases (if x.toNat % 2 = 1 then optRd (os.filter notO) file else some (os.filter notO)) with
    | none => rfl
    | some a => simp only [Option.bind_some]; cases (if 2 ≤ x.toNat then optRd a name else some a) <;> rfl
theorem overs_bad (os : List OptD) (name file : List UInt8) (d : List UInt8) (h : optOf os 52 = some d) (hd : d.length ≠ 1) : overs os name file = ([], 2) := by
  unfold overs
  rw [h]
  match d, hd with
  | [], _ => rfl
  | [_], hd => exact absurd rfl hd
  | _ :: _ :: _, _ => rfl

set_option maxRecDepth 20000 in
set_option maxHeartbeats 1000000 in
theorem dhcOver (S : Nat → Prop) (A : Option Addr) (cap : Nat) (os : List OptD) (name file : List UInt8) (w : World) (hAS : SlR w S 2 A os.length (optC os)) (hS : ∀ k, w.heap.size ≤ k → ¬ S k) (hwt : wtO os + name.length + file.length ≤ 1099511627000) :
    Calls Tryz.prog 120 #[.slice A os.length cap, .string (bs name), .string (bs file)] w (OverP S os name file w) := by
  have hA := hAS.sub (T := noB) (fun _ _ x => x.elim)
  have HAS := Lib.hid hAS
  have HS0 := Lib.hid hS
  clear hAS hS
  have hlw := wtO_len os
  obtain ⟨n, hn⟩ : ∃ n, os.length = n := ⟨_, rfl⟩
  rw [hn] at hA ⊢
  go_enter Tryz.func120, Tryz.ntmps120
  go_wp2_with fail
  have hOf := dhcOf noB A n cap os 52 w hA (by omega)
  rw [show (((52 : UInt8).toNat : Nat) : Int) = 52 by decide] at hOf
  refine hOf.mono ?_
  clear hOf
  rintro e w1 ⟨rfl, hf1⟩
  have hA1 := hA.keep hf1
  clear hA
  cases ho : optOf os 52 with
  | none =>
    have Ho := Lib.hid ho
    clear ho
    go_wp2_with fail
    go_ret
    refine ⟨.inl ⟨os, A, cap, ?_, by rw [hn]; rfl, HAS.out.keep (hf1.of_no S), by omega⟩, hf1⟩
    show overs os name file = (os, 0)
    unfold overs; rw [Ho.out]
  | some d =>
    simp only [Option.getD_some, Option.isSome_some]
    by_cases hd : d.length = 1
    rotate_left
    · have Hb := Lib.hid (overs_bad os name file d ho hd)
      clear ho
      have hdi : ¬ (d.length : Int) = 1 := by omega
      go_wp2_with fail
      refine (must_no 2 _).mono ?_
      rintro x w2 ⟨rfl, rfl⟩
      exact ⟨rfl, .inr ⟨1, by rw [Hb.out], rfl⟩, hf1⟩
    match d, hd with
    | [x], _ =>
    have Hs := Lib.hid (overs_some os name file x ho)
    clear ho
    have hx := x.toNat_lt
    have hg0 : ∀ h : 0 < (bs [x]).size, (bs [x])[0]'h = x := fun h => by rw [bs_get]; rfl
    by_cases hx1 : x.toNat < 1
    · have Hb : Hid (overs os name file = ([], 2)) := Lib.hid (by rw [Hs.out, if_pos (.inl hx1)])
      clear Hs
      have hxi : ¬ (1 : Int) ≤ (x.toNat : Int) := by omega
      go_wp2_with fail
      refine (must_no 2 _).mono ?_
      rintro e w2 ⟨rfl, rfl⟩
      exact ⟨rfl, .inr ⟨1, by rw [Hb.out], rfl⟩, hf1⟩
    have hxi : (1 : Int) ≤ (x.toNat : Int) := by omega
    by_cases hx3 : 3 < x.toNat
    · have Hb : Hid (overs os name file = ([], 2)) := Lib.hid (by rw [Hs.out, if_pos (.inr hx3)])
      clear Hs
      have hxj : ¬ (x.toNat : Int) ≤ (3 : Int) := by omega
      go_wp2_with fail
      refine (must_no 2 _).mono ?_
      rintro e w2 ⟨rfl, rfl⟩
      exact ⟨rfl, .inr ⟨1, by rw [Hb.out], rfl⟩, hf1⟩
    have hxj : (x.toNat : Int) ≤ (3 : Int) := by omega
    have HS : Hid (overs os name file = match ovAt x name file (os.filter notO) 2 with
      | none => ([], 1)
      | some a => if (optOf a 52).isSome then ([], 2) else (a, 0)) := Lib.hid (by rw [Hs.out, if_neg (by omega)])
    clear Hs
    go_wp2_with fail
    refine (must_yes 2 _).mono ?_
    rintro e w2 ⟨rfl, rfl⟩
    go_wp2_with fail
    have hL0 : LsA (w1.alloc (.cells #[.slice none 0 0] 191)) w1.heap.size (fromB w1.heap.size) [] :=
      ⟨Nat.le_refl _, none, 0, Bk.new _ _ _, ⟨rfl, .inl ⟨rfl, rfl⟩⟩, fun a h => by cases h⟩
    have hfa : Fr noB w1 (w1.alloc (.cells #[.slice none 0 0] 191)) := (Fr.refl _ _).alloc _
    obtain ⟨pl, hpl⟩ : ∃ pl, pl = w1.heap.size := ⟨_, rfl⟩
    rw [← hpl] at hL0 ⊢
    have Hpl := Lib.hid hpl
    clear hpl
    generalize w1.alloc (.cells #[.slice none 0 0] 191) = w3 at *
    obtain ⟨i0, hi0, hz0, hz1, hz2⟩ := info_parts opt_info
    go_loopw [42] (fun iv wr => ∃ (i : Nat), i ≤ n ∧ iv = .int .i64 (i : Int) ∧ LsA wr pl (fromB pl) ((os.take i).filter notO) ∧ Fr noB w1 wr) (fun iv _ => n - (intOf iv).toNat)
    case atStart => exact ⟨0, by omega, rfl, hL0, hfa⟩
    case round =>
      obtain ⟨i, hi, rfl, hL, hw⟩ := hrel
      by_cases hlt : i < n
      · obtain ⟨o, ho⟩ : ∃ o, os[i]? = some o := ⟨_, List.getElem?_eq_getElem (by omega)⟩
        obtain ⟨ad, rfl, c1, c2⟩ := (hA1.keep hw).optAt ho
        have hft := Lib.hid (filter_take ho)
        clear ho
        have hne := Fr.alloc hw (.cells #[.int .u8 (o.code.toNat : Int), .string (bs o.data)] 72)
        have hL2 := hL.keep ((Fr.refl noB wr).alloc (.cells #[.int .u8 (o.code.toNat : Int), .string (bs o.data)] 72)) (fun _ _ x => x)
        by_cases he : o.code = 52
        · have hei : (o.code.toNat : Int) = 52 := by rw [he]; decide
          have Hft : Hid ((os.take (i + 1)).filter notO = (os.take i).filter notO) := Lib.hid (by
            rw [hft.out, if_neg (by unfold notO; rw [he]; decide), List.append_nil])
          clear hft he
          rw [hei] at hL2 hne
          have HL2 := Lib.hid hL2
          clear hL2 hL
          go_wp2_with fail
          exact ⟨⟨i + 1, by omega, by rw [Int.natCast_add]; rfl, by rw [Hft.out]; exact HL2.out, hne⟩, by simp only [intOf]; omega⟩
        · have hei : ¬ (o.code.toNat : Int) = 52 := fun e => he (UInt8.toNat.inj (show o.code.toNat = 52 by omega))
          have Hft : Hid ((os.take (i + 1)).filter notO = (os.take i).filter notO ++ [o]) := Lib.hid (by
            rw [hft.out, if_pos (by unfold notO; simpa using he)])
          clear hft he
          obtain ⟨hbp, A1, cap1, hB, hO, hAF⟩ := hL2
          have hAp : ∀ a, A1 = some a → a.block ≠ pl := by
            rintro a rfl e
            obtain ⟨_, ⟨h2, _⟩ | ⟨g, _, cur, h2, _, hg, _⟩⟩ := hO
            · cases h2
            · cases h2
              rw [show g = pl from e, hB] at hg
              cases hg
          have hfw := wtO_filter os
          have hlen1 : ((os.take i).filter notO).length ≤ i := Nat.le_trans (List.length_filter_le _ _) (List.length_take_le i os)
          have hc0 := hB.cells
          have hb2 := hB.alloc (.cells #[.int .u8 (o.code.toNat : Int), .string (bs o.data)] 72)
          have hsr : SlR ((wr.alloc (.cells #[.int .u8 (o.code.toNat : Int), .string (bs o.data)] 72)).alloc (.cells #[.int .u8 (o.code.toNat : Int), .string (bs o.data)] 72)) noB 2 (some ⟨wr.heap.size + 1, 0, none⟩) 1 (optC [o]) := by
            have h := SlR.of_bk (n := 1) (size := 2) (S := noB) (Bk.new (wr.alloc (.cells #[.int .u8 (o.code.toNat : Int), .string (bs o.data)] 72)) 72 #[.int .u8 (o.code.toNat : Int), .string (bs o.data)]) (fun x => x) rfl
            rw [show (wr.alloc (.cells #[.int .u8 (o.code.toNat : Int), .string (bs o.data)] 72)).heap.size = wr.heap.size + 1 by simp] at h
            exact h
          have hO2 : ((wr.alloc (.cells #[.int .u8 (o.code.toNat : Int), .string (bs o.data)] 72)).alloc (.cells #[.int .u8 (o.code.toNat : Int), .string (bs o.data)] 72)).ownsRow 0 72 2 (.slice A1 ((os.take i).filter notO).length cap1) ((os.take i).filter notO).length (optC ((os.take i).filter notO)) :=
            own_keep hO (((Fr.refl noB (wr.alloc (.cells #[.int .u8 (o.code.toNat : Int), .string (bs o.data)] 72))).alloc _)) (fun _ _ x => x)
          obtain ⟨m, hm⟩ : ∃ m, ((os.take i).filter notO).length = m := ⟨_, rfl⟩
          have hop : ∃ l0, optC ((os.take i).filter notO) = l0 := ⟨_, rfl⟩
          obtain ⟨l0, hl0⟩ := hop
          rw [hm] at hO2 hO hB hc0 hb2 hlen1
          rw [hl0] at hO2 hO
          have Hm := Lib.hid hm
          have Hl0 := Lib.hid hl0
          clear hm hl0
          go_wp2_with (at_builtin
                       go_must (refine wpList_app rfl (.tmp 49) (.tmp 51) _ rfl 0 72 i0 _ 2 24 Tryz.underlying191 hi0 hz0 hz1 hz2 rfl (by omega) A1 _ _ _ rfl hO2 noB _ 1 1 _ rfl hsr optC_one (by unfold maxLen; omega) (by omega) (Nat.zero_le _) ?_)
                       intro A2 cap2 w4 hap
                       have hb3 := hb2.keep hap.fr (by rintro ⟨a, e, e2⟩; exact hAp a e e2)
                       have hc3 := hb3.cells
                       have hf3 := hb3.frees)
          have hLn : LsA (w4.setCell ⟨pl, 0, none⟩ (.slice A2 (m + 1) cap2)) pl (fromB pl) ((os.take (i + 1)).filter notO) := by
            rw [Hft.out]
            refine ⟨hbp, A2, cap2, ?_, ?_, ?_⟩
            · rw [List.length_append, Hm.out]; exact (by simpa using hb3.set 0 (.slice A2 (m + 1) cap2))
            · rw [List.length_append, optC_append, Hm.out, Hl0.out]; exact own_far hap.own hb3 (by decide) _
            · intro a e
              rcases hap.at_ a e with h | ⟨a0, e0, h⟩
              · have h1 := hB.lt; simp at h h1; unfold fromB; omega
              · rw [← h]; exact hAF a0 e0
          have hfn : Fr noB w1 (w4.setCell ⟨pl, 0, none⟩ (.slice A2 (m + 1) cap2)) := by
            have hpn : ¬ pl < w1.heap.size := by rw [Hpl.out]; omega
            refine (((hne.alloc _)).trans' hap.fr ?_).setCell (fun h => absurd h hpn) _
            rintro b hb ⟨a, e, rfl⟩
            have h := hAF a e
            unfold fromB at h; omega
          exact ⟨⟨i + 1, by omega, by rw [Int.natCast_add]; rfl, hLn, hfn⟩, by simp only [intOf]; omega⟩
      · obtain rfl : i = n := by omega
        have hL1 : LsA wr pl (fromB pl) (os.filter notO) := by rw [List.take_of_length_le (by omega)] at hL; exact hL
        clear hL
        have hL2 := (hL1.at_size 1).keep ((Fr.refl noB wr).alloc (.cells #[.string (bs file), .string (bs name)] 9)) (fun _ _ x => x)
        have hL3 : LsA (wr.alloc (.cells #[.string (bs file), .string (bs name)] 9)) pl (fun k => pl ≤ k ∧ k ≠ wr.heap.size) (os.filter notO) :=
          hL2.mono fun k h => by have := hL1.lt; unfold fromB at h; refine ⟨?_, ?_⟩ <;> rcases h with h | h <;> omega
        have hB2 := Bk.new wr 9 #[.string (bs file), .string (bs name)]
        have hf3 := hw.alloc (.cells #[.string (bs file), .string (bs name)] 9)
        have hpl2 := hL1.lt
        clear hL1 hL2
        go_wp2_with fail
        obtain ⟨g2, hg2⟩ : ∃ g2, wr.heap.size = g2 := ⟨_, rfl⟩
        rw [hg2] at hL3 hB2 hpl2
        rw [hg2]
        clear hg2
        have hw0 := wtO_filter os
        have Hw := Lib.hid (show w1.heap.size ≤ pl by rw [Hpl.out]; omega)
        generalize wr.alloc (.cells #[.string (bs file), .string (bs name)] 9) = w5 at *
        obtain ⟨a0, ha0⟩ : ∃ a0, os.filter notO = a0 := ⟨_, rfl⟩
        rw [ha0] at hL3 hw0 HS
        clear ha0
        go_loopw [58] (fun iv wr => ∃ (i : Nat), i ≤ 2 ∧ iv = .int .i64 (i : Int) ∧ ∃ os1, ovAt x name file a0 i = some os1 ∧ LsA wr pl (fun k => pl ≤ k ∧ k ≠ g2) os1 ∧ Bk wr g2 9 #[.string (bs file), .string (bs name)] ∧
          Fr noB w1 wr ∧ wtO os1 ≤ wtO os + areaL name file i) (fun iv _ => 2 - (intOf iv).toNat)
        case atStart => exact ⟨0, by omega, rfl, a0, rfl, hL3, hB2, hf3, hw0⟩
        case round =>
          obtain ⟨i, hi, rfl, os1, hov, hL, hB, hw, hwo⟩ := hrel
          by_cases hlt : i < 2
          · have hc := hB.cells
            have Hov := Lib.hid hov
            clear hov
            rcases (by omega : i = 0 ∨ i = 1) with rfl | rfl
            ·
              by_cases hbit : x.toNat % 2 = 1
              · have hb : bits BinOp.and IntKind.u8 (x.toNat : Int) 1 = 1 := by
                  rcases (by omega : x.toNat = 1 ∨ x.toNat = 3) with h | h <;> rw [h] <;> decide
                have Hn : Hid (ovAt x name file a0 1 = optRd os1 file) := Lib.hid (by rw [ovAt, Hov.out, Option.bind_some, ovStep, if_pos hbit])
                clear Hov
                go_wp2_with fail
                refine (over1Read pl _ os1 file _ hL (by simp only [areaL] at hwo; omega)).mono ?_
                rintro e w6 ⟨⟨os2, h1, rfl, h2, h3⟩ | ⟨h1, rfl⟩, hf6⟩
                · have hg := hB.lt
                  have hL6 : LsA w6 pl (fun k => pl ≤ k ∧ k ≠ g2) os2 := h2.mono (by rintro k (h | h); exact h; omega)
                  have hB6 := hB.keep hf6 (by rintro ⟨_, h⟩; exact h rfl)
                  have hw6 : Fr noB w1 w6 := hw.trans' hf6 (by rintro b hb ⟨h, _⟩; have := Hw.out; omega)
                  have H1 : Hid (ovAt x name file a0 1 = some os2) := Lib.hid (by rw [Hn.out, h1])
                  clear h1 h2 Hn
                  go_wp2_with fail
                  refine (must_yes 0 _).mono ?_
                  rintro e w7 ⟨rfl, rfl⟩
                  go_wp2_with fail
                  exact ⟨⟨1, by omega, rfl, os2, H1.out, hL6, hB6, hw6, by simp only [areaL] at hwo ⊢; omega⟩, by simp [intOf]⟩
                · have H1 : Hid ((overs os name file).2 = 1) := Lib.hid (by rw [HS.out, ovAt, Hn.out, h1, Option.bind_none])
                  have hw6 : Fr noB w w6 := hf1.none (hw.trans' hf6 (by rintro b hb ⟨h, _⟩; have := Hw.out; omega))
                  clear h1 Hn
                  go_wp2_with fail
                  refine (must_no 1 _).mono ?_
                  rintro e w7 ⟨rfl, rfl⟩
                  exact ⟨rfl, .inr ⟨0, H1.out, rfl⟩, hw6⟩
              · have hb : ¬ bits BinOp.and IntKind.u8 (x.toNat : Int) 1 = 1 := by
                  rw [show x.toNat = 2 by omega]; decide
                have Hn : Hid (ovAt x name file a0 1 = some os1) := Lib.hid (by rw [ovAt, Hov.out, Option.bind_some, ovStep, if_neg hbit])
                clear Hov
                go_wp2_with fail
                exact ⟨⟨1, by omega, rfl, os1, Hn.out, hL, hB, hw, by simp only [areaL] at hwo ⊢; omega⟩, by simp [intOf]⟩
            ·
              by_cases hbit : 2 ≤ x.toNat
              · have hb : bits BinOp.and IntKind.u8 ((x.toNat : Int) / 2) 1 = 1 := by
                  rcases (by omega : x.toNat = 2 ∨ x.toNat = 3) with h | h <;> rw [h] <;> decide
                have Hn : Hid (ovAt x name file a0 2 = optRd os1 name) := Lib.hid (by rw [ovAt, Hov.out, Option.bind_some, ovStep, if_pos hbit]; rintro h; cases h)
                clear Hov
                go_wp2_with fail
                refine (over1Read pl _ os1 name _ hL (by simp only [areaL] at hwo; omega)).mono ?_
                rintro e w6 ⟨⟨os2, h1, rfl, h2, h3⟩ | ⟨h1, rfl⟩, hf6⟩
                · have hg := hB.lt
                  have hL6 : LsA w6 pl (fun k => pl ≤ k ∧ k ≠ g2) os2 := h2.mono (by rintro k (h | h); exact h; omega)
                  have hB6 := hB.keep hf6 (by rintro ⟨_, h⟩; exact h rfl)
                  have hw6 : Fr noB w1 w6 := hw.trans' hf6 (by rintro b hb ⟨h, _⟩; have := Hw.out; omega)
                  have H1 : Hid (ovAt x name file a0 2 = some os2) := Lib.hid (by rw [Hn.out, h1])
                  clear h1 h2 Hn
                  go_wp2_with fail
                  refine (must_yes 0 _).mono ?_
                  rintro e w7 ⟨rfl, rfl⟩
                  go_wp2_with fail
                  exact ⟨⟨2, by omega, rfl, os2, H1.out, hL6, hB6, hw6, by simp only [areaL] at hwo ⊢; omega⟩, by simp [intOf]⟩
                · have H1 : Hid ((overs os name file).2 = 1) := Lib.hid (by rw [HS.out, Hn.out, h1])
                  have hw6 : Fr noB w w6 := hf1.none (hw.trans' hf6 (by rintro b hb ⟨h, _⟩; have := Hw.out; omega))
                  clear h1 Hn
                  go_wp2_with fail
                  refine (must_no 1 _).mono ?_
                  rintro e w7 ⟨rfl, rfl⟩
                  exact ⟨rfl, .inr ⟨0, H1.out, rfl⟩, hw6⟩
              · have hb : ¬ bits BinOp.and IntKind.u8 ((x.toNat : Int) / 2) 1 = 1 := by
                  rw [show x.toNat = 1 by omega]; decide
                have Hn : Hid (ovAt x name file a0 2 = some os1) := Lib.hid (by rw [ovAt, Hov.out, Option.bind_some, ovStep, if_neg hbit]; rintro h; cases h)
                clear Hov
                go_wp2_with fail
                exact ⟨⟨2, by omega, rfl, os1, Hn.out, hL, hB, hw, by simp only [areaL] at hwo ⊢; omega⟩, by simp [intOf]⟩
          · obtain rfl : i = 2 := by omega
            have Hs2 : Hid (overs os name file = if (optOf os1 52).isSome then ([], 2) else (os1, 0)) := Lib.hid (by rw [HS.out, hov])
            clear hov
            obtain ⟨hbp, A1, cap1, hB1, hO1, hAF1⟩ := hL
            have hc1 := hB1.cells
            have hA2 := own_slr hO1
            have hl1 := wtO_len os1
            have hOf := dhcOf noB A1 os1.length cap1 os1 52 wr hA2 (by simp only [areaL] at hwo; omega)
            rw [show (((52 : UInt8).toNat : Nat) : Int) = 52 by decide] at hOf
            go_wp2_with fail
            refine hOf.mono ?_
            clear hOf
            rintro e w6 ⟨rfl, hf6⟩
            have hA4 : SlR w6 S 2 A1 os1.length (optC os1) := (own_slrS hO1 (by intro a e h; have h1 := hAF1 a e; exact HS0.out _ (by have := Hw.out; have := hf1.size; omega) h)).keep (hf6.of_no S)
            have hB3 := hB1.keep hf6 (fun x => x)
            have hc3 := hB3.cells
            have hw6 : Fr noB w w6 := hf1.none (hw.none hf6)
            cases hos : (optOf os1 52).isSome with
            | true =>
              have H1 : Hid ((overs os name file).2 = 2) := Lib.hid (by rw [Hs2.out, hos]; rfl)
              clear Hs2
              go_wp2_with fail
              refine (must_no 2 _).mono ?_
              rintro e w7 ⟨rfl, rfl⟩
              exact ⟨rfl, .inr ⟨1, H1.out, rfl⟩, hw6⟩
            | false =>
              have H1 : Hid (overs os name file = (os1, 0)) := Lib.hid (by rw [Hs2.out, hos]; rfl)
              clear Hs2
              go_wp2_with fail
              refine (must_yes 2 _).mono ?_
              rintro e w7 ⟨rfl, rfl⟩
              go_wp2_with fail
              go_ret
              exact ⟨.inl ⟨os1, A1, cap1, H1.out, rfl, hA4, by simp only [areaL] at hwo; omega⟩, hw6⟩
end Go.Proofs.YtcbkaiakdhiloabGreatDoor
namespace Go.Proofs.YtcbkaiakdhiloabGreatDoor
open Go.RowKit Go.Proofs
attribute [local go_sem] bs_size bs_append bs_extract

theorem take_drop_sub (l : List UInt8) (i n : Nat) : (l.drop i).take n = sub l i (i + n) := by unfold sub; rw [List.drop_take, Nat.add_sub_cancel_left]
theorem drop_drop_at (l : List UInt8) (i n : Nat) : (l.drop i).drop n = l.drop (i + n) := by rw [List.drop_drop]
section
variable (i p : Nat) (l : List UInt8) (w : World) (hR : Rd w p (l.drop i)) (hl : l.length ≤ 9223372036854775807)
include hR hl
theorem aTake (n : Nat) (h : i + n ≤ l.length) :
    Calls Tryz.prog 74 #[.pointer (some ⟨p, 0, none⟩), .int .i64 n] w fun e w' => e = .returned (.string (bs (sub l i (i + n)))) ∧ Rd w' p (l.drop (i + n)) ∧ Fr (oneB p) w w' :=
  (rTake n p (l.drop i) w hR (by omega) (by rw [List.length_drop]; omega)).mono fun e w' h' => by
    rw [Took, List.length_drop, take_drop_sub, drop_drop_at] at h'
    rcases h' with ⟨_, h'⟩ | ⟨h', _⟩
    · exact h'
    · omega
theorem aU8 (h : i + 1 ≤ l.length) :
    Calls Tryz.prog 72 #[.pointer (some ⟨p, 0, none⟩)] w fun e w' => e = .returned (.int .u8 (num (sub l i (i + 1)) : Int)) ∧ Rd w' p (l.drop (i + 1)) ∧ Fr (oneB p) w w' :=
  (rU8 p (l.drop i) w hR (by rw [List.length_drop]; omega)).mono fun e w' h' => by
    rw [Took, List.length_drop, take_drop_sub, drop_drop_at] at h'
    rcases h' with ⟨_, h'⟩ | ⟨h', _⟩
    · exact h'
    · omega
theorem aU16 (h : i + 2 ≤ l.length) :
    Calls Tryz.prog 63 #[.pointer (some ⟨p, 0, none⟩)] w fun e w' => e = .returned (.int .u16 (num (sub l i (i + 2)) : Int)) ∧ Rd w' p (l.drop (i + 2)) ∧ Fr (oneB p) w w' :=
  (rU16 p (l.drop i) w hR (by rw [List.length_drop]; omega)).mono fun e w' h' => by
    rw [Took, List.length_drop, take_drop_sub, drop_drop_at] at h'
    rcases h' with ⟨_, h'⟩ | ⟨h', _⟩
    · exact h'
    · omega
theorem aIP (h : i + 4 ≤ l.length) :
    Calls Tryz.prog 73 #[.pointer (some ⟨p, 0, none⟩)] w fun e w' => e = .returned (.int .u32 (num (sub l i (i + 4)) : Int)) ∧ Rd w' p (l.drop (i + 4)) ∧ Fr (oneB p) w w' :=
  (rIP p (l.drop i) w hR (by rw [List.length_drop]; omega)).mono fun e w' h' => by
    rw [Took, List.length_drop, take_drop_sub, drop_drop_at] at h'
    rcases h' with ⟨_, h'⟩ | ⟨h', _⟩
    · exact h'
    · omega
theorem aMAC (h : i + 6 ≤ l.length) :
    Calls Tryz.prog 62 #[.pointer (some ⟨p, 0, none⟩)] w fun e w' => e = .returned (macV (macOf (l.drop i))) ∧ Rd w' p (l.drop (i + 6)) ∧ Fr (oneB p) w w' :=
  (rMAC p (l.drop i) w hR (by rw [List.length_drop]; omega)).mono fun e w' h' => by
    rw [Took, List.length_drop, drop_drop_at] at h'
    rcases h' with ⟨_, h'⟩ | ⟨h', _⟩
    · exact h'
    · omega
end
theorem rU32 (p : Nat) (l : List UInt8) (w : World) (hR : Rd w p l) (hl : l.length ≤ 9223372036854775807) :
    Calls Tryz.prog 118 #[.pointer (some ⟨p, 0, none⟩)] w (Took p l 4 w (.int .u32 (num (l.take 4)))) := by
  go_enter Tryz.func118, Tryz.ntmps118
  go_wp2_with fail
  refine (rNum 4 p l _ hR (by omega) hl).mono ?_
  rintro e w1 (⟨hle, rfl, hR1, hf1⟩ | ⟨hlt, rfl, hf1⟩)
  · generalize num (l.take 4) = x at *
    go_wp2_with fail
    go_ret
    exact .inl ⟨hle, rfl, hR1, hf1⟩
  · exact ⟨rfl, .inr ⟨hlt, rfl, hf1⟩⟩
theorem aU32 (i p : Nat) (l : List UInt8) (w : World) (hR : Rd w p (l.drop i)) (hl : l.length ≤ 9223372036854775807) (h : i + 4 ≤ l.length) :
    Calls Tryz.prog 118 #[.pointer (some ⟨p, 0, none⟩)] w fun e w' => e = .returned (.int .u32 (num (sub l i (i + 4)) : Int)) ∧ Rd w' p (l.drop (i + 4)) ∧ Fr (oneB p) w w' :=
  (rU32 p (l.drop i) w hR (by rw [List.length_drop]; omega)).mono fun e w' h' => by
    rw [Took, List.length_drop, take_drop_sub, drop_drop_at] at h'
    rcases h' with ⟨_, h'⟩ | ⟨h', _⟩
    · exact h'
    · omega
end Go.Proofs.YtcbkaiakdhiloabGreatDoor
