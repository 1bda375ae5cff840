/- octets.Read at netboot/api.TFTP, where the result's meaning lies in memory. Written by mkreadw.py. -/
import Derived.Test.YtcbkaiakdhiloabDoorReadW
import Derived.Test.YtcbkaiakdhiloabDoorRdTft
set_option linter.unusedSimpArgs false
set_option linter.unusedVariables false
namespace Go.Proofs.YtcbkaiakdhiloabDoor
open Go.RowKit Go.Proofs
attribute [local go_sem] bs_size bs_append bs_extract
set_option maxRecDepth 20000 in
set_option maxHeartbeats 1000000 in
/-- Read, over the reading function: what that returns, or its fault's error. -/
theorem readWTft (l : List UInt8) (w : World) (S : Nat → Prop) (ok : Value → World → Prop) (bad : Int → Prop) (hS : ∀ k, w.heap.size ≤ k → k < w.heap.size + 2 → ¬ S k)
    (hok : ∀ x w1, ok x w1 → ∃ c : Array Value, x = .agg c ∧ c.size = zcTft.size ∧ c.all (·.oneCell') = true) (hst : ∀ x w1 w2, ok x w1 → Fr (twoB w.heap.size (w.heap.size + 1)) w1 w2 → ok x w2)
    (hby : ∀ (p : Nat) (w1 : World), p = w.heap.size + 2 → Rd w1 p l → Fr noB w w1 → Calls Tryd.prog 53 #[.pointer (some ⟨p, 0, none⟩)] w1 (byPostW S ok bad p w1)) :
    Calls Tryd.prog 52 #[.string (bs l), .func (.func 53) #[] #[]] w (readPostW (.agg zcTft) S ok bad w) := by
  have hmf : ∀ (fn : Fn) (first cap : Array Value) (w : World), (Instr.makeFunc fn first cap).run Tryd.prog w = .ok (.func fn first cap) w := fun _ _ _ _ => rfl
  go_enter_defers Tryd.func52, Tryd.ntmps52
  have Hby := Lib.hid hby
  have Hok := Lib.hid hok
  have Hst := Lib.hid hst
  have HS := Lib.hid hS
  clear hby hok hst hS
  go_wp2_with fail
  have hx0 := ((Bk.new w 47 zcTft).alloc (.cells #[.int .i64 0] 29)).alloc (.cells #[.string (bs l)] 108)
  have he0 := (Bk.new (w.alloc (.cells zcTft 47)) 29 #[.int .i64 0]).alloc (.cells #[.string (bs l)] 108)
  have hr0 := Bk.new ((w.alloc (.cells zcTft 47)).alloc (.cells #[.int .i64 0] 29)) 108 #[.string (bs l)]
  rw [show ((w.alloc (.cells zcTft 47)).alloc (.cells #[.int .i64 0] 29)).heap.size = w.heap.size + 1 + 1 by simp] at hr0
  rw [show (w.alloc (.cells zcTft 47)).heap.size = w.heap.size + 1 by simp] at he0
  have hf0 : Fr noB w (((w.alloc (.cells zcTft 47)).alloc (.cells #[.int .i64 0] 29)).alloc (.cells #[.string (bs l)] 108)) := (((Fr.refl _ _).alloc _).alloc _).alloc _
  unfold zcTft at hx0 he0 hr0 hf0
  generalize ((w.alloc (.cells #[.int .u16 0, .int .u16 0, .string ⟨#[]⟩, .string ⟨#[]⟩, .slice none 0 0] 47)).alloc (.cells #[.int .i64 0] 29)).alloc (.cells #[.string (bs l)] 108) = w1 at *
  refine (Hby.out _ w1 (by omega) hr0 hf0).mono ?_
  have HX : ¬ orB (w.heap.size + 1 + 1) S w.heap.size := by rintro (h | h); omega; exact HS.out _ (by omega) (by omega) h
  have HE : ¬ orB (w.heap.size + 1 + 1) S (w.heap.size + 1) := by rintro (h | h); omega; exact HS.out _ (by omega) (by omega) h
  rintro e w2 ⟨⟨x0, hx, rfl⟩ | ⟨er, hbad, rfl⟩, hf1⟩
  · have hx1 := hx0.keep hf1 HX
    have he1 := he0.keep hf1 HE
    obtain ⟨x, rfl, hsx, hox⟩ := Hok.out x0 w2 hx
    have Hsx := Lib.hid hsx
    have Hox := Lib.hid hox
    have hix : (Tryd.prog.info? 47).map (·.size) = some x.size := by rw [hsx]; kernel_rfl
    have Hix := Lib.hid hix
    clear hsx hox hix
    go_wp2_with ((refine wpList_store_bk rfl 47 (.tmp 4) (.tmp 11) rfl w.heap.size _ _ x rfl rfl hx1 Hsx.out Hix.out Hox.out ?_); intro w3 hx3 hf3; have he3 := he1.keep hf3 (by unfold oneB; omega); have hc3 := he3.cells; have hz3 := he3.frees)
    have hb3 : Bk (w3.setCell ⟨w.heap.size + 1, 0, none⟩ (.int .i64 0)) (w.heap.size + 1) 29 #[.int .i64 0] := by simpa using he3.set 0 (.int .i64 0)
    have hx4 := hx3.far (p := ⟨w.heap.size + 1, 0, none⟩) (by simp) (.int .i64 0)
    have hst4 : Fr (twoB w.heap.size (w.heap.size + 1)) w2 (w3.setCell ⟨w.heap.size + 1, 0, none⟩ (.int .i64 0)) := (hf3.mono fun b _ e => .inl e).setCell (p := ⟨w.heap.size + 1, 0, none⟩) (fun _ => .inr rfl) _
    have hfin : Fr S w (w3.setCell ⟨w.heap.size + 1, 0, none⟩ (.int .i64 0)) := by
      refine ((((hf0.of_no S).trans' hf1 ?_).trans' hf3 ?_).setCell ?_ _)
      · rintro b hb (e | e); omega; exact e
      · intro b hb e; unfold oneB at e; omega
      · intro e; exact absurd e (by simp)
    generalize w3.setCell ⟨w.heap.size + 1, 0, none⟩ (.int .i64 0) = w4 at *
    refine leaves_cons (f := 67) (args := #[.pointer (some ⟨w.heap.size, 0, none⟩), .pointer (some ⟨w.heap.size + 1, 0, none⟩)]) (by simp) (by simp [go_sem]) ?_
    refine (idleTft _ _ _).mono ?_
    rintro e u' w5 ⟨rfl, rfl, rfl⟩
    refine ⟨.tuple #[.agg x, .int .i64 0], ?_, ⟨.inl ⟨_, Hst.out _ _ _ hx hst4, rfl⟩, hfin⟩⟩
    exact results_row_int Tryd.results52 _ w5 w.heap.size (w.heap.size + 1) _ _ x 0 _ _ rfl rfl hx4 hb3 Tryd.underlying47 rfl Hix.out Tryd.underlying29
  · have hx1 := hx0.keep hf1 HX
    have he1 := he0.keep hf1 HE
    have hfin : Fr S w w2 := (hf0.of_no S).trans' hf1 (by rintro b hb (e | e); omega; exact e)
    refine leaves_cons (f := 67) (args := #[.pointer (some ⟨w.heap.size, 0, none⟩), .pointer (some ⟨w.heap.size + 1, 0, none⟩)]) (by simp) (by simp [go_sem]) ?_
    refine (catchTft w.heap.size (w.heap.size + 1) er w2 hx1 he1 (by omega)).mono ?_
    rintro e u' w5 ⟨rfl, rfl, hx5, he5, hf5⟩
    refine ⟨.tuple #[.agg zcTft, .int .i64 er], ?_, ⟨.inr ⟨er, hbad, rfl⟩, hfin.trans' hf5 ?_⟩⟩
    · exact results_row_int Tryd.results52 _ w5 w.heap.size (w.heap.size + 1) _ _ _ er _ _ rfl rfl hx5 he5 Tryd.underlying47 rfl (by kernel_rfl) Tryd.underlying29
    · intro b hb e; unfold twoB at e; omega
end Go.Proofs.YtcbkaiakdhiloabDoor
