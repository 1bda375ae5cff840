/- octets.Read at netboot/api.TFTP: the deferred function's two contracts (behind a fault, and when nothing has gone wrong) and Read's own, over the reading function netboot/tftp.Read$1. Written by mkread.py. -/
import Derived.Test.YtcbkaiakdhiloabDoorReadBase
set_option linter.unusedSimpArgs false
set_option linter.unusedVariables false
namespace Go.Proofs.YtcbkaiakdhiloabDoor
open Go.RowKit Go.Proofs
attribute [local go_sem] bs_size bs_append bs_extract

def zcTft : Array Value := #[.int .u16 0, .int .u16 0, .string ⟨#[]⟩, .string ⟨#[]⟩, .slice none 0 0]
set_option maxRecDepth 20000 in
set_option maxHeartbeats 1000000 in
theorem catchTft (gx ge : Nat) (er : Int) (w : World) (hx : Bk w gx 47 zcTft) (he : Bk w ge 29 #[.int .i64 0]) (hne : gx ≠ ge) :
    CallsD Tryd.prog 67 #[.pointer (some ⟨gx, 0, none⟩), .pointer (some ⟨ge, 0, none⟩)] (.panicking (faultC er)) w fun r u' w' =>
      r = .returned (.tuple #[]) ∧ u' = .panicking [{ v := .iface 106 (.agg #[.int .i64 er]), recovered := true }] ∧ Bk w' gx 47 zcTft ∧ Bk w' ge 29 #[.int .i64 er] ∧ Fr (twoB gx ge) w w' := by
  have hta := fault_is er
  have hbf := (Bk.new w 106 #[.int .i64 er]).alloc (.cells zcTft 47)
  have hbz := Bk.new (w.alloc (.cells #[.int .i64 er] 106)) 47 zcTft
  rw [show (w.alloc (.cells #[.int .i64 er] 106)).heap.size = w.heap.size + 1 by simp] at hbz
  have hx2 := (hx.alloc (.cells #[.int .i64 er] 106)).alloc (.cells zcTft 47)
  have he2 := (he.alloc (.cells #[.int .i64 er] 106)).alloc (.cells zcTft 47)
  have hf2 : Fr (twoB gx ge) w ((w.alloc (.cells #[.int .i64 er] 106)).alloc (.cells zcTft 47)) := ((Fr.refl _ _).alloc _).alloc _
  have hgx := hx.lt
  have hge := he.lt
  refine callsD_of_wpS Tryd.func67 rfl fun c₀ cs hu => ?_
  apply wpS_seq
  apply wpS_region
  simp [wpOpsS, go_sem, recoverD, hu, Tryd.ntmps67, Exit.thenS, faultC]
  refine wpS_of_wp ?_
  simp only [Array.replicate_succ, Array.replicate_zero, List.push_toArray, List.append_toArray, List.nil_append, List.cons_append, List.setIfInBounds_toArray, List.set_cons_zero, List.set_cons_succ]
  go_wp2_with fail
  unfold zcTft at hbf hbz hx2 he2 hf2
  generalize (w.alloc (.cells #[.int .i64 er] 106)).alloc (.cells #[.int .u16 0, .int .u16 0, .string ⟨#[]⟩, .string ⟨#[]⟩, .slice none 0 0] 47) = w2 at *
  refine wp_region_ssa (by kernel_rfl) (by kernel_rfl) (by kernel_rfl)
    (fun u => ⟨#[.pointer (some ⟨gx, 0, none⟩), .pointer (some ⟨ge, 0, none⟩), undef, .pointer (some ⟨w.heap.size, 0, none⟩), .pointer (some ⟨w.heap.size + 1, 0, none⟩), undef,
      .iface 106 (.agg #[.int .i64 er]), undef, .bool false, .tuple #[.agg #[.int .i64 er], .bool true], .bool true, .agg #[.int .i64 er], u 0, u 1, u 2], []⟩)
    (fun j v _ => match j with | 0 => v = .agg zcTft | 1 => v = .pointer (some ⟨w.heap.size, 0, none⟩) | 2 => v = .int .i64 er | _ => True)
    (fun L w3 => Bk w3 w.heap.size 106 #[.int .i64 er] ∧ Bk w3 (w.heap.size + 1) 47 zcTft ∧ Bk w3 gx 47 zcTft ∧ Bk w3 ge 29 #[if L 4 then .int .i64 er else .int .i64 0] ∧ Fr (twoB gx ge) w w3) (fun _ => undef) ⟨hbf.drew, hbz.drew, hx2.drew, he2.drew, hf2.drew⟩ ?_ ?_
  · rintro L u w3 i o ⟨g1, g2, g3, g4, g5⟩ hΦ ho hL hd K hK
    match i, ho with
    | 0, ho =>
      simp at ho; subst ho
      refine wp_load_row 47 (.tmp 4) rfl (w.heap.size + 1) rfl _ _ _ _ g2 Tryd.underlying47 rfl (by kernel_rfl) ?_
      exact hK _ _ rfl ⟨g1, g2, g3, g4, g5⟩ (fun _ _ _ h => h)
    | 1, ho =>
      simp at ho; subst ho
      clear hΦ hd
      go_simp
      exact hK _ _ rfl ⟨g1, g2, g3, g4, g5⟩ (fun _ _ _ h => h)
    | 2, ho =>
      simp at ho; subst ho
      have hu1 := hΦ 1 (hd ⟨1, .data⟩ (by simp) (by rfl))
      simp only at hu1
      have hc := g1.cells
      clear hΦ hd
      go_simp
      have hk := hK _ w3 rfl ⟨g1, g2, g3, g4, g5⟩ (fun _ _ _ h => h)
      simp only [upd, hu1] at hk
      exact hk
    | 3, ho =>
      simp at ho; subst ho
      have hu0 := hΦ 0 (hd ⟨0, .data⟩ (by simp) (by rfl))
      refine wp_store_bk 47 (.tmp 0) (.tmp 12) rfl gx _ _ _ rfl hu0 g3 rfl (by kernel_rfl) (by kernel_rfl) ?_
      intro w4 b4 f4
      refine hK undef _ trivial ⟨g1.keep f4 ?_, g2.keep f4 ?_, b4, g4.keep f4 ?_, g5.trans' f4 ?_⟩ (fun _ _ _ h => h)
      · unfold oneB; omega
      · unfold oneB; omega
      · unfold oneB; omega
      · intro b _ e; exact .inl e
    | 4, ho =>
      simp at ho; subst ho
      have hu2 := hΦ 2 (hd ⟨2, .data⟩ (by simp) (by rfl))
      simp only [hL] at g4 hu2
      have hc := g4.cells
      have hz := g4.frees
      clear hΦ hd
      go_simp
      have h4 : Bk (w3.setCell ⟨ge, 0, none⟩ (.int .i64 er)) ge 29 #[.int .i64 er] := by simpa using g4.set 0 (.int .i64 er)
      have hk := hK undef (w3.setCell ⟨ge, 0, none⟩ (.int .i64 er)) trivial ⟨g1.far (by simp; omega) _, g2.far (by simp; omega) _, g3.far (by simpa using hne) _, h4, g5.setCell (p := ⟨ge, 0, none⟩) (fun _ => .inr rfl) _⟩ (fun _ _ _ h => h)
      simp only [upd, hu2] at hk
      exact hk
  · rintro u w3 hΦ L hall ⟨g1, g2, g3, g4, g5⟩
    rw [hall 4 (by simp)] at g4
    exact ⟨rfl, _, rfl, .tuple #[], by simp [results, Tryd.results67], rfl, rfl, g3, by simpa using g4, g5⟩

theorem idleTft (gx ge : Nat) (w : World) :
    CallsD Tryd.prog 67 #[.pointer (some ⟨gx, 0, none⟩), .pointer (some ⟨ge, 0, none⟩)] .returning w fun r u' w' =>
      r = .returned (.tuple #[]) ∧ u' = .returning ∧ w' = w := by
  refine callsD_of_wpS Tryd.func67 rfl fun c₀ cs hu => ?_
  apply wpS_seq
  apply wpS_region
  simp [wpOpsS, go_sem, recoverD, hu, Tryd.ntmps67, Exit.thenS]
  refine wpS_of_wp ?_
  simp only [Array.replicate_succ, Array.replicate_zero, List.push_toArray, List.append_toArray, List.nil_append, List.cons_append, List.setIfInBounds_toArray, List.set_cons_zero, List.set_cons_succ]
  go_wp2_with fail
  simp [Exit.inBlock, bodyPostS, results, Tryd.results67]
  cases c₀
  simp at hu
  simp [hu]

set_option maxRecDepth 20000 in
set_option maxHeartbeats 1000000 in
/-- Read, over the reading function: what that returns, or its fault's error. -/
theorem readTft (l : List UInt8) (w : World) (ok : Array Value → Prop) (bad : Int → Prop) (hok : ∀ c, ok c → c.size = zcTft.size ∧ c.all (·.oneCell') = true)
    (hby : ∀ (p : Nat) (w1 : World), w.heap.size ≤ p → Rd w1 p l → Fr noB w w1 → Calls Tryd.prog 53 #[.pointer (some ⟨p, 0, none⟩)] w1 (byPost ok bad p w1)) :
    Calls Tryd.prog 52 #[.string (bs l), .func (.func 53) #[] #[]] w (readPost zcTft ok bad w) := by
  have hmf : ∀ (fn : Fn) (first cap : Array Value) (w : World), (Instr.makeFunc fn first cap).run Tryd.prog w = .ok (.func fn first cap) w := fun _ _ _ _ => rfl
  go_enter_defers Tryd.func52, Tryd.ntmps52
  have Hby := Lib.hid hby
  have Hok := Lib.hid hok
  clear hby hok
  go_wp2_with fail
  have hx0 := ((Bk.new w 47 zcTft).alloc (.cells #[.int .i64 0] 29)).alloc (.cells #[.string (bs l)] 108)
  have he0 := (Bk.new (w.alloc (.cells zcTft 47)) 29 #[.int .i64 0]).alloc (.cells #[.string (bs l)] 108)
  have hr0 := Bk.new ((w.alloc (.cells zcTft 47)).alloc (.cells #[.int .i64 0] 29)) 108 #[.string (bs l)]
  rw [show ((w.alloc (.cells zcTft 47)).alloc (.cells #[.int .i64 0] 29)).heap.size = w.heap.size + 1 + 1 by simp] at hr0
  rw [show (w.alloc (.cells zcTft 47)).heap.size = w.heap.size + 1 by simp] at he0
  have hf0 : Fr noB w (((w.alloc (.cells zcTft 47)).alloc (.cells #[.int .i64 0] 29)).alloc (.cells #[.string (bs l)] 108)) := (((Fr.refl _ _).alloc _).alloc _).alloc _
  unfold zcTft at hx0 he0 hr0 hf0
  generalize ((w.alloc (.cells #[.int .u16 0, .int .u16 0, .string ⟨#[]⟩, .string ⟨#[]⟩, .slice none 0 0] 47)).alloc (.cells #[.int .i64 0] 29)).alloc (.cells #[.string (bs l)] 108) = w1 at *
  refine (Hby.out _ w1 (by omega) hr0 hf0).mono ?_
  rintro e w2 ⟨⟨x, hx, rfl⟩ | ⟨er, hbad, rfl⟩, hf1⟩
  · have hx1 := hx0.keep hf1 (by unfold oneB; omega)
    have he1 := he0.keep hf1 (by unfold oneB; omega)
    obtain ⟨hsx, hox⟩ := Hok.out x hx
    have Hsx := Lib.hid hsx
    have Hox := Lib.hid hox
    have hix : (Tryd.prog.info? 47).map (·.size) = some x.size := by rw [hsx]; kernel_rfl
    have Hix := Lib.hid hix
    clear hsx hox hix
    go_wp2_with ((refine wpList_store_bk rfl 47 (.tmp 4) (.tmp 11) rfl w.heap.size _ _ x rfl rfl hx1 Hsx.out Hix.out Hox.out ?_); intro w3 hx3 hf3; have he3 := he1.keep hf3 (by unfold oneB; omega); have hc3 := he3.cells; have hz3 := he3.frees)
    have hb3 : Bk (w3.setCell ⟨w.heap.size + 1, 0, none⟩ (.int .i64 0)) (w.heap.size + 1) 29 #[.int .i64 0] := by simpa using he3.set 0 (.int .i64 0)
    have hx4 := hx3.far (p := ⟨w.heap.size + 1, 0, none⟩) (by simp) (.int .i64 0)
    have hfin : Fr noB w (w3.setCell ⟨w.heap.size + 1, 0, none⟩ (.int .i64 0)) := by
      refine (((hf0.trans' hf1 ?_).trans' hf3 ?_).setCell ?_ _)
      · intro b hb e; unfold oneB at e; omega
      · intro b hb e; unfold oneB at e; omega
      · intro e; exact absurd e (by simp)
    generalize w3.setCell ⟨w.heap.size + 1, 0, none⟩ (.int .i64 0) = w4 at *
    refine leaves_cons (f := 67) (args := #[.pointer (some ⟨w.heap.size, 0, none⟩), .pointer (some ⟨w.heap.size + 1, 0, none⟩)]) (by simp) (by simp [go_sem]) ?_
    refine (idleTft _ _ _).mono ?_
    rintro e u' w5 ⟨rfl, rfl, rfl⟩
    refine ⟨.tuple #[.agg x, .int .i64 0], ?_, ⟨.inl ⟨_, hx, rfl⟩, hfin⟩⟩
    exact results_row_int Tryd.results52 _ w5 w.heap.size (w.heap.size + 1) _ _ x 0 _ _ rfl rfl hx4 hb3 Tryd.underlying47 rfl Hix.out Tryd.underlying29
  · have hx1 := hx0.keep hf1 (by unfold oneB; omega)
    have he1 := he0.keep hf1 (by unfold oneB; omega)
    have hfin : Fr noB w w2 := hf0.trans' hf1 (fun b hb e => by unfold oneB at e; omega)
    refine leaves_cons (f := 67) (args := #[.pointer (some ⟨w.heap.size, 0, none⟩), .pointer (some ⟨w.heap.size + 1, 0, none⟩)]) (by simp) (by simp [go_sem]) ?_
    refine (catchTft w.heap.size (w.heap.size + 1) er w2 hx1 he1 (by omega)).mono ?_
    rintro e u' w5 ⟨rfl, rfl, hx5, he5, hf5⟩
    refine ⟨.tuple #[.agg zcTft, .int .i64 er], ?_, ⟨.inr ⟨er, hbad, rfl⟩, hfin.trans' hf5 ?_⟩⟩
    · exact results_row_int Tryd.results52 _ w5 w.heap.size (w.heap.size + 1) _ _ _ er _ _ rfl rfl hx5 he5 Tryd.underlying47 rfl (by kernel_rfl) Tryd.underlying29
    · intro b hb e; unfold twoB at e; omega
end Go.Proofs.YtcbkaiakdhiloabDoor
