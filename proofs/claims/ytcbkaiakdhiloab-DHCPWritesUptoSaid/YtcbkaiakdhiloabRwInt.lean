/- octets.Read at int: the deferred function's two contracts (behind a fault, and when nothing has gone wrong) and Read's own, over the reading function (netboot/dhcp.list).over$1. Written by mkread.py. -/
import Derived.Test.YtcbkaiakdhiloabReadW
set_option linter.unusedSimpArgs false
set_option linter.unusedVariables false
namespace Go.Proofs.Ytcbkaiakdhiloab
open Go.RowKit Go.Proofs
attribute [local go_sem] bs_size bs_append bs_extract

def zcInt : Array Value := #[.int .i64 0]
set_option maxRecDepth 20000 in
set_option maxHeartbeats 1000000 in
theorem catchInt (gx ge : Nat) (er : Int) (w : World) (hx : Bk w gx 3 zcInt) (he : Bk w ge 30 #[.int .i64 0]) (hne : gx ≠ ge) :
    CallsD Try.prog 74 #[.pointer (some ⟨gx, 0, none⟩), .pointer (some ⟨ge, 0, none⟩)] (.panicking (faultC er)) w fun r u' w' =>
      r = .returned (.tuple #[]) ∧ u' = .panicking [{ v := .iface 108 (.agg #[.int .i64 er]), recovered := true }] ∧ Bk w' gx 3 zcInt ∧ Bk w' ge 30 #[.int .i64 er] ∧ Fr (twoB gx ge) w w' := by
  have hta := fault_is er
  have hbf := Bk.new w 108 #[.int .i64 er]
  have hx2 := hx.alloc (.cells #[.int .i64 er] 108)
  have he2 := he.alloc (.cells #[.int .i64 er] 108)
  have hf2 : Fr (twoB gx ge) w (w.alloc (.cells #[.int .i64 er] 108)) := (Fr.refl _ _).alloc _
  have hgx := hx.lt
  have hge := he.lt
  refine callsD_of_wpS Try.func74 rfl fun c₀ cs hu => ?_
  apply wpS_seq
  apply wpS_region
  simp [wpOpsS, go_sem, recoverD, hu, Try.ntmps74, Exit.thenS, faultC]
  refine wpS_of_wp ?_
  simp only [Array.replicate_succ, Array.replicate_zero, List.push_toArray, List.append_toArray, List.nil_append, List.cons_append, List.setIfInBounds_toArray, List.set_cons_zero, List.set_cons_succ]
  go_wp2_with fail
  unfold zcInt at hx2
  generalize w.alloc (.cells #[.int .i64 er] 108) = w2 at *
  refine wp_region_ssa (by kernel_rfl) (by kernel_rfl) (by kernel_rfl)
    (fun u => ⟨#[.pointer (some ⟨gx, 0, none⟩), .pointer (some ⟨ge, 0, none⟩), undef, .pointer (some ⟨w.heap.size, 0, none⟩), .int .i64 0, undef,
      .iface 108 (.agg #[.int .i64 er]), undef, .bool false, .tuple #[.agg #[.int .i64 er], .bool true], .bool true, .agg #[.int .i64 er], u 0, u 1, u 2], []⟩)
    (fun j v _ => match j with | 0 => v = .int .i64 0 | 1 => v = .pointer (some ⟨w.heap.size, 0, none⟩) | 2 => v = .int .i64 er | _ => True)
    (fun L w3 => Bk w3 w.heap.size 108 #[.int .i64 er] ∧ Bk w3 gx 3 zcInt ∧ Bk w3 ge 30 #[if L 4 then .int .i64 er else .int .i64 0] ∧ Fr (twoB gx ge) w w3) (fun _ => undef) ⟨hbf.drew, hx2.drew, he2.drew, hf2.drew⟩ ?_ ?_
  · rintro L u w3 i o ⟨g1, g3, g4, g5⟩ hΦ ho hL hd K hK
    match i, ho with
    | 0, ho =>
      simp at ho; subst ho
      clear hΦ hd
      go_simp
      exact hK _ _ rfl ⟨g1, g3, g4, g5⟩ (fun _ _ _ h => h)
    | 1, ho =>
      simp at ho; subst ho
      clear hΦ hd
      go_simp
      exact hK _ _ rfl ⟨g1, g3, g4, g5⟩ (fun _ _ _ h => h)
    | 2, ho =>
      simp at ho; subst ho
      have hu1 := hΦ 1 (hd ⟨1, .data⟩ (by simp) (by rfl))
      simp only at hu1
      have hc := g1.cells
      clear hΦ hd
      go_simp
      have hk := hK _ w3 rfl ⟨g1, g3, g4, g5⟩ (fun _ _ _ h => h)
      simp only [upd, hu1] at hk
      exact hk
    | 3, ho =>
      simp at ho; subst ho
      have hu0 := hΦ 0 (hd ⟨0, .data⟩ (by simp) (by rfl))
      simp only at hu0
      have hc := g3.cells
      have hz := g3.frees
      clear hΦ hd
      go_simp
      have h3 : Bk (w3.setCell ⟨gx, 0, none⟩ (.int .i64 0)) gx 3 zcInt := by simpa [zcInt] using g3.set 0 (.int .i64 0)
      have hk := hK undef (w3.setCell ⟨gx, 0, none⟩ (.int .i64 0)) trivial ⟨g1.far (by simp; omega) _, h3, g4.far (by simp; omega) _, g5.setCell (p := ⟨gx, 0, none⟩) (fun _ => .inl rfl) _⟩ (fun _ _ _ h => h)
      simp only [upd, hu0] at hk
      exact hk
    | 4, ho =>
      simp at ho; subst ho
      have hu2 := hΦ 2 (hd ⟨2, .data⟩ (by simp) (by rfl))
      simp only [hL] at g4 hu2
      have hc := g4.cells
      have hz := g4.frees
      clear hΦ hd
      go_simp
      have h4 : Bk (w3.setCell ⟨ge, 0, none⟩ (.int .i64 er)) ge 30 #[.int .i64 er] := by simpa using g4.set 0 (.int .i64 er)
      have hk := hK undef (w3.setCell ⟨ge, 0, none⟩ (.int .i64 er)) trivial ⟨g1.far (by simp; omega) _, g3.far (by simpa using hne) _, h4, g5.setCell (p := ⟨ge, 0, none⟩) (fun _ => .inr rfl) _⟩ (fun _ _ _ h => h)
      simp only [upd, hu2] at hk
      exact hk
  · rintro u w3 hΦ L hall ⟨g1, g3, g4, g5⟩
    rw [hall 4 (by simp)] at g4
    exact ⟨rfl, _, rfl, .tuple #[], by simp [results, Try.results74], rfl, rfl, g3, by simpa using g4, g5⟩

theorem idleInt (gx ge : Nat) (w : World) :
    CallsD Try.prog 74 #[.pointer (some ⟨gx, 0, none⟩), .pointer (some ⟨ge, 0, none⟩)] .returning w fun r u' w' =>
      r = .returned (.tuple #[]) ∧ u' = .returning ∧ w' = w := by
  refine callsD_of_wpS Try.func74 rfl fun c₀ cs hu => ?_
  apply wpS_seq
  apply wpS_region
  simp [wpOpsS, go_sem, recoverD, hu, Try.ntmps74, Exit.thenS]
  refine wpS_of_wp ?_
  simp only [Array.replicate_succ, Array.replicate_zero, List.push_toArray, List.append_toArray, List.nil_append, List.cons_append, List.setIfInBounds_toArray, List.set_cons_zero, List.set_cons_succ]
  go_wp2_with fail
  simp [Exit.inBlock, bodyPostS, results, Try.results74]
  cases c₀
  simp at hu
  simp [hu]

set_option maxRecDepth 20000 in
set_option maxHeartbeats 1000000 in
/-- Read, over the reading function: what that returns, or its fault's error. -/
theorem readWInt (l : List UInt8) (w : World) (q0 : Value) (S : Nat → Prop) (ok : Value → World → Prop) (bad : Int → Prop) (hS : ∀ k, w.heap.size ≤ k → k < w.heap.size + 2 → ¬ S k)
    (hok : ∀ x w1, ok x w1 → ∃ n : Int, x = .int .i64 n) (hst : ∀ x w1 w2, ok x w1 → Fr (twoB w.heap.size (w.heap.size + 1)) w1 w2 → ok x w2)
    (hby : ∀ (p : Nat) (w1 : World), p = w.heap.size + 2 → Rd w1 p l → Fr noB w w1 → Calls Try.prog 72 #[.pointer (some ⟨p, 0, none⟩), q0] w1 (byPostW S ok bad p w1)) :
    Calls Try.prog 71 #[.string (bs l), .func (.func 72) #[] #[q0]] w (readPostW (.int .i64 0) S ok bad w) := by
  have hmf : ∀ (fn : Fn) (first cap : Array Value) (w : World), (Instr.makeFunc fn first cap).run Try.prog w = .ok (.func fn first cap) w := fun _ _ _ _ => rfl
  go_enter_defers Try.func71, Try.ntmps71
  have Hby := Lib.hid hby
  have Hok := Lib.hid hok
  have Hst := Lib.hid hst
  have HS := Lib.hid hS
  clear hby hok hst hS
  go_wp2_with fail
  have hx0 := ((Bk.new w 3 zcInt).alloc (.cells #[.int .i64 0] 30)).alloc (.cells #[.string (bs l)] 110)
  have he0 := (Bk.new (w.alloc (.cells zcInt 3)) 30 #[.int .i64 0]).alloc (.cells #[.string (bs l)] 110)
  have hr0 := Bk.new ((w.alloc (.cells zcInt 3)).alloc (.cells #[.int .i64 0] 30)) 110 #[.string (bs l)]
  rw [show ((w.alloc (.cells zcInt 3)).alloc (.cells #[.int .i64 0] 30)).heap.size = w.heap.size + 1 + 1 by simp] at hr0
  rw [show (w.alloc (.cells zcInt 3)).heap.size = w.heap.size + 1 by simp] at he0
  have hf0 : Fr noB w (((w.alloc (.cells zcInt 3)).alloc (.cells #[.int .i64 0] 30)).alloc (.cells #[.string (bs l)] 110)) := (((Fr.refl _ _).alloc _).alloc _).alloc _
  unfold zcInt at hx0 he0 hr0 hf0
  generalize ((w.alloc (.cells #[.int .i64 0] 3)).alloc (.cells #[.int .i64 0] 30)).alloc (.cells #[.string (bs l)] 110) = w1 at *
  refine (Hby.out _ w1 (by omega) hr0 hf0).mono ?_
  have HX : ¬ orB (w.heap.size + 1 + 1) S w.heap.size := by rintro (h | h); omega; exact HS.out _ (by omega) (by omega) h
  have HE : ¬ orB (w.heap.size + 1 + 1) S (w.heap.size + 1) := by rintro (h | h); omega; exact HS.out _ (by omega) (by omega) h
  rintro e w2 ⟨⟨x0, hx, rfl⟩ | ⟨er, hbad, rfl⟩, hf1⟩
  · have hx1 := hx0.keep hf1 HX
    have he1 := he0.keep hf1 HE
    obtain ⟨n, rfl⟩ := Hok.out x0 w2 hx
    have hc1 := hx1.cells
    have hz1 := hx1.frees
    have hc2 := he1.cells
    have hz2 := he1.frees
    go_wp2_with fail
    have hx4 : Bk ((w2.setCell ⟨w.heap.size, 0, none⟩ (.int .i64 n)).setCell ⟨w.heap.size + 1, 0, none⟩ (.int .i64 0)) w.heap.size 3 #[.int .i64 n] := by
      have h := hx1.set 0 (.int .i64 n)
      simp at h
      exact Bk.far h (p := ⟨w.heap.size + 1, 0, none⟩) (by simp) _
    have hb3 : Bk ((w2.setCell ⟨w.heap.size, 0, none⟩ (.int .i64 n)).setCell ⟨w.heap.size + 1, 0, none⟩ (.int .i64 0)) (w.heap.size + 1) 30 #[.int .i64 0] := by
      have h := (he1.far (p := ⟨w.heap.size, 0, none⟩) (by simp) (.int .i64 n)).set 0 (.int .i64 0)
      simpa using h
    have hst4 : Fr (twoB w.heap.size (w.heap.size + 1)) w2 ((w2.setCell ⟨w.heap.size, 0, none⟩ (.int .i64 n)).setCell ⟨w.heap.size + 1, 0, none⟩ (.int .i64 0)) :=
      ((Fr.refl _ _).setCell (p := ⟨w.heap.size, 0, none⟩) (fun _ => .inl rfl) _).setCell (p := ⟨w.heap.size + 1, 0, none⟩) (fun _ => .inr rfl) _
    have hfin : Fr S w ((w2.setCell ⟨w.heap.size, 0, none⟩ (.int .i64 n)).setCell ⟨w.heap.size + 1, 0, none⟩ (.int .i64 0)) := by
      refine (((hf0.of_no S).trans' hf1 ?_).setCell ?_ _).setCell ?_ _
      · rintro b hb (e | e); omega; exact e
      · intro e; exact absurd e (by simp)
      · intro e; exact absurd e (by simp)
    generalize (w2.setCell ⟨w.heap.size, 0, none⟩ (.int .i64 n)).setCell ⟨w.heap.size + 1, 0, none⟩ (.int .i64 0) = w4 at *
    refine leaves_cons (f := 74) (args := #[.pointer (some ⟨w.heap.size, 0, none⟩), .pointer (some ⟨w.heap.size + 1, 0, none⟩)]) (by simp) (by simp [go_sem]) ?_
    refine (idleInt _ _ _).mono ?_
    rintro e u' w5 ⟨rfl, rfl, rfl⟩
    refine ⟨.tuple #[.int .i64 n, .int .i64 0], ?_, ⟨.inl ⟨_, Hst.out _ _ _ hx hst4, rfl⟩, hfin⟩⟩
    exact results_int_int Try.results71 _ w5 w.heap.size (w.heap.size + 1) _ _ n 0 _ _ rfl rfl hx4 hb3 Try.underlying3 Try.underlying30
  · have hx1 := hx0.keep hf1 HX
    have he1 := he0.keep hf1 HE
    have hfin : Fr S w w2 := (hf0.of_no S).trans' hf1 (by rintro b hb (e | e); omega; exact e)
    refine leaves_cons (f := 74) (args := #[.pointer (some ⟨w.heap.size, 0, none⟩), .pointer (some ⟨w.heap.size + 1, 0, none⟩)]) (by simp) (by simp [go_sem]) ?_
    refine (catchInt w.heap.size (w.heap.size + 1) er w2 hx1 he1 (by omega)).mono ?_
    rintro e u' w5 ⟨rfl, rfl, hx5, he5, hf5⟩
    refine ⟨.tuple #[.int .i64 0, .int .i64 er], ?_, ⟨.inr ⟨er, hbad, rfl⟩, hfin.trans' hf5 ?_⟩⟩
    · exact results_int_int Try.results71 _ w5 w.heap.size (w.heap.size + 1) _ _ 0 er _ _ rfl rfl hx5 he5 Try.underlying3 Try.underlying30
    · intro b hb e; unfold twoB at e; omega
end Go.Proofs.Ytcbkaiakdhiloab
