/- octets.Read at netboot/api.DHCP, where the result's meaning lies in memory. Written by mkreadw.py. -/
import Derived.Test.YtcbkaiakdhiloabReadW
import Derived.Test.YtcbkaiakdhiloabRdDhc
set_option linter.unusedSimpArgs false
set_option linter.unusedVariables false
namespace Go.Proofs.Ytcbkaiakdhiloab
open Go.RowKit Go.Proofs
attribute [local go_sem] bs_size bs_append bs_extract
set_option maxRecDepth 20000 in
set_option maxHeartbeats 1000000 in
/-- Read, over the reading function: what that returns, or its fault's error. -/
theorem readWDhc (l : List UInt8) (w : World) (q0 : Value) (S : Nat → Prop) (ok : Value → World → Prop) (bad : Int → Prop) (hS : ∀ k, w.heap.size ≤ k → k < w.heap.size + 2 → ¬ S k)
    (hok : ∀ x w1, ok x w1 → ∃ c : Array Value, x = .agg c ∧ c.size = zcDhc.size ∧ c.all (·.oneCell') = true) (hst : ∀ x w1 w2, ok x w1 → Fr (twoB w.heap.size (w.heap.size + 1)) w1 w2 → ok x w2)
    (hby : ∀ (p : Nat) (w1 : World), p = w.heap.size + 2 → Rd w1 p l → Fr noB w w1 → Calls Try.prog 53 #[.pointer (some ⟨p, 0, none⟩), q0] w1 (byPostW S ok bad p w1)) :
    Calls Try.prog 52 #[.string (bs l), .func (.func 53) #[] #[q0]] w (readPostW (.agg zcDhc) S ok bad w) := by
  have hmf : ∀ (fn : Fn) (first cap : Array Value) (w : World), (Instr.makeFunc fn first cap).run Try.prog w = .ok (.func fn first cap) w := fun _ _ _ _ => rfl
  go_enter_defers Try.func52, Try.ntmps52
  have Hby := Lib.hid hby
  have Hok := Lib.hid hok
  have Hst := Lib.hid hst
  have HS := Lib.hid hS
  clear hby hok hst hS
  go_wp2_with fail
  have hx0 := ((Bk.new w 28 zcDhc).alloc (.cells #[.int .i64 0] 30)).alloc (.cells #[.string (bs l)] 110)
  have he0 := (Bk.new (w.alloc (.cells zcDhc 28)) 30 #[.int .i64 0]).alloc (.cells #[.string (bs l)] 110)
  have hr0 := Bk.new ((w.alloc (.cells zcDhc 28)).alloc (.cells #[.int .i64 0] 30)) 110 #[.string (bs l)]
  rw [show ((w.alloc (.cells zcDhc 28)).alloc (.cells #[.int .i64 0] 30)).heap.size = w.heap.size + 1 + 1 by simp] at hr0
  rw [show (w.alloc (.cells zcDhc 28)).heap.size = w.heap.size + 1 by simp] at he0
  have hf0 : Fr noB w (((w.alloc (.cells zcDhc 28)).alloc (.cells #[.int .i64 0] 30)).alloc (.cells #[.string (bs l)] 110)) := (((Fr.refl _ _).alloc _).alloc _).alloc _
  unfold zcDhc at hx0 he0 hr0 hf0
  generalize ((w.alloc (.cells #[.bool false, .int .u32 0, .int .u32 0, .int .u32 0, .int .u32 0, .int .u8 0, .int .u8 0, .int .u8 0, .int .u8 0, .int .u8 0, .int .u8 0, .slice none 0 0] 28)).alloc (.cells #[.int .i64 0] 30)).alloc (.cells #[.string (bs l)] 110) = w1 at *
  refine (Hby.out _ w1 (by omega) hr0 hf0).mono ?_
  have HX : ¬ orB (w.heap.size + 1 + 1) S w.heap.size := by rintro (h | h); omega; exact HS.out _ (by omega) (by omega) h
  have HE : ¬ orB (w.heap.size + 1 + 1) S (w.heap.size + 1) := by rintro (h | h); omega; exact HS.out _ (by omega) (by omega) h
  rintro e w2 ⟨⟨x0, hx, rfl⟩ | ⟨er, hbad, rfl⟩, hf1⟩
  · have hx1 := hx0.keep hf1 HX
    have he1 := he0.keep hf1 HE
    obtain ⟨x, rfl, hsx, hox⟩ := Hok.out x0 w2 hx
    have Hsx := Lib.hid hsx
    have Hox := Lib.hid hox
    have hix : (Try.prog.info? 28).map (·.size) = some x.size := by rw [hsx]; kernel_rfl
    have Hix := Lib.hid hix
    clear hsx hox hix
    go_wp2_with ((refine wpList_store_bk rfl 28 (.tmp 4) (.tmp 11) rfl w.heap.size _ _ x rfl rfl hx1 Hsx.out Hix.out Hox.out ?_); intro w3 hx3 hf3; have he3 := he1.keep hf3 (by unfold oneB; omega); have hc3 := he3.cells; have hz3 := he3.frees)
    have hb3 : Bk (w3.setCell ⟨w.heap.size + 1, 0, none⟩ (.int .i64 0)) (w.heap.size + 1) 30 #[.int .i64 0] := by simpa using he3.set 0 (.int .i64 0)
    have hx4 := hx3.far (p := ⟨w.heap.size + 1, 0, none⟩) (by simp) (.int .i64 0)
    have hst4 : Fr (twoB w.heap.size (w.heap.size + 1)) w2 (w3.setCell ⟨w.heap.size + 1, 0, none⟩ (.int .i64 0)) := (hf3.mono fun b _ e => .inl e).setCell (p := ⟨w.heap.size + 1, 0, none⟩) (fun _ => .inr rfl) _
    have hfin : Fr S w (w3.setCell ⟨w.heap.size + 1, 0, none⟩ (.int .i64 0)) := by
      refine ((((hf0.of_no S).trans' hf1 ?_).trans' hf3 ?_).setCell ?_ _)
      · rintro b hb (e | e); omega; exact e
      · intro b hb e; unfold oneB at e; omega
      · intro e; exact absurd e (by simp)
    generalize w3.setCell ⟨w.heap.size + 1, 0, none⟩ (.int .i64 0) = w4 at *
    refine leaves_cons (f := 68) (args := #[.pointer (some ⟨w.heap.size, 0, none⟩), .pointer (some ⟨w.heap.size + 1, 0, none⟩)]) (by simp) (by simp [go_sem]) ?_
    refine (idleDhc _ _ _).mono ?_
    rintro e u' w5 ⟨rfl, rfl, rfl⟩
    refine ⟨.tuple #[.agg x, .int .i64 0], ?_, ⟨.inl ⟨_, Hst.out _ _ _ hx hst4, rfl⟩, hfin⟩⟩
    exact results_row_int Try.results52 _ w5 w.heap.size (w.heap.size + 1) _ _ x 0 _ _ rfl rfl hx4 hb3 Try.underlying28 rfl Hix.out Try.underlying30
  · have hx1 := hx0.keep hf1 HX
    have he1 := he0.keep hf1 HE
    have hfin : Fr S w w2 := (hf0.of_no S).trans' hf1 (by rintro b hb (e | e); omega; exact e)
    refine leaves_cons (f := 68) (args := #[.pointer (some ⟨w.heap.size, 0, none⟩), .pointer (some ⟨w.heap.size + 1, 0, none⟩)]) (by simp) (by simp [go_sem]) ?_
    refine (catchDhc w.heap.size (w.heap.size + 1) er w2 hx1 he1 (by omega)).mono ?_
    rintro e u' w5 ⟨rfl, rfl, hx5, he5, hf5⟩
    refine ⟨.tuple #[.agg zcDhc, .int .i64 er], ?_, ⟨.inr ⟨er, hbad, rfl⟩, hfin.trans' hf5 ?_⟩⟩
    · exact results_row_int Try.results52 _ w5 w.heap.size (w.heap.size + 1) _ _ _ er _ _ rfl rfl hx5 he5 Try.underlying28 rfl (by kernel_rfl) Try.underlying30
    · intro b hb e; unfold twoB at e; omega
end Go.Proofs.Ytcbkaiakdhiloab
