/- ReadIP, the program's. -/
import Derived.Test.YtcbkaiakdhiloabDoorReadIP
set_option linter.unusedSimpArgs false
set_option linter.unusedVariables false
namespace Go.Proofs.YtcbkaiakdhiloabDoor
open Go.RowKit Go.Proofs
attribute [local go_sem] bs_size bs_append bs_sub bs_toList

theorem ipC_size (x : IpD) : (ipC x).size = zcIp4.size := rfl
theorem ipC_one (x : IpD) : (ipC x).all (·.oneCell') = true := by kernel_rfl
theorem ip_info (x : IpD) : (Tryd.prog.info? 28).map (·.size) = some (ipC x).size := by rw [ipC_size]; kernel_rfl


theorem packetReadIP (l : List UInt8) (w : World) (hl : l.length ≤ 9223372036854775807) :
    Calls Tryd.prog 22 #[.string (bs l)] w (ipPost l w) := by
  go_enter Tryd.func22, Tryd.ntmps22
  have hmf : ∀ (fn : Fn) (first cap : Array Value) (w : World), (Instr.makeFunc fn first cap).run Tryd.prog w = .ok (.func fn first cap) w := fun _ _ _ _ => rfl
  go_wp2_with fail
  have hs0 := (Bk.new w 9 #[.string (bs l)]).alloc (.cells zcIp4 28)
  have hx0 := Bk.new (w.alloc (.cells #[.string (bs l)] 9)) 28 zcIp4
  rw [show (w.alloc (.cells #[.string (bs l)] 9)).heap.size = w.heap.size + 1 by simp] at hx0
  have hf0 : Fr noB w ((w.alloc (.cells #[.string (bs l)] 9)).alloc (.cells zcIp4 28)) := ((Fr.refl _ _).alloc _).alloc _
  unfold zcIp4 at hs0 hx0 hf0
  generalize (w.alloc (.cells #[.string (bs l)] 9)).alloc (.cells #[.int .u16 0, .int .u8 0, .int .u8 0, .int .u32 0, .int .u32 0, .string ⟨#[]⟩] 28) = w1 at *
  refine (ipRead l w.heap.size _ hs0 hl).mono ?_
  rintro e w2 ⟨rfl, hf1⟩
  have hx1 := hx0.keep hf1 (fun x => x)
  have hsz := Lib.hid (ipC_size (readIP l).1)
  have hin := Lib.hid (ip_info (readIP l).1)
  have hon := Lib.hid (ipC_one (readIP l).1)
  generalize hr : readIP l = r at *
  have Hr := Lib.hid hr
  clear hr
  generalize hc : ipC r.1 = c at *
  have Hc := Lib.hid hc
  clear hc
  go_wp2_with ((refine wpList_store_bk rfl 28 (.tmp 2) (.tmp 7) rfl (w.heap.size + 1) _ _ c rfl rfl hx1 hsz.out hin.out hon.out ?_); intro w9 hx9 hf9)
  refine bodyPost_ret (results_row_tmp Tryd.results22 _ w9 (w.heap.size + 1) _ c _ _ rfl rfl hx9 Tryd.underlying28 rfl hin.out) rfl ?_
  exact ⟨by rw [Hr.out, Hc.out]; rfl, (hf0.none hf1).trans' hf9 (fun b hb e => by unfold oneB at e; omega)⟩

theorem bootReadIP (l : List UInt8) (w : World) (hl : l.length ≤ 9223372036854775807) :
    Calls Tryd.prog 9 #[.string (bs l)] w (ipPost l w) := by
  go_enter Tryd.func9, Tryd.ntmps9
  go_wp2_with fail
  have hx0 := Bk.new w 28 zcIp4
  have hf0 : Fr noB w (w.alloc (.cells zcIp4 28)) := (Fr.refl _ _).alloc _
  unfold zcIp4 at hx0 hf0
  generalize w.alloc (.cells #[.int .u16 0, .int .u8 0, .int .u8 0, .int .u32 0, .int .u32 0, .string ⟨#[]⟩] 28) = w1 at *
  refine (packetReadIP l _ hl).mono ?_
  rintro e w2 ⟨rfl, hf1⟩
  have hx1 := hx0.keep hf1 (fun x => x)
  have hsz := Lib.hid (ipC_size (readIP l).1)
  have hin := Lib.hid (ip_info (readIP l).1)
  have hon := Lib.hid (ipC_one (readIP l).1)
  generalize hr : readIP l = r at *
  have Hr := Lib.hid hr
  clear hr
  generalize hc : ipC r.1 = c at *
  have Hc := Lib.hid hc
  clear hc
  go_wp2_with ((refine wpList_store_bk rfl 28 (.tmp 2) (.tmp 6) rfl w.heap.size _ _ c rfl rfl hx1 hsz.out hin.out hon.out ?_); intro w9 hx9 hf9)
  refine bodyPost_ret (results_row_tmp Tryd.results9 _ w9 w.heap.size _ c _ _ rfl rfl hx9 Tryd.underlying28 rfl hin.out) rfl ?_
  exact ⟨by rw [Hr.out, Hc.out]; rfl, (hf0.none hf1).trans' hf9 (fun b hb e => by unfold oneB at e; omega)⟩

end Go.Proofs.YtcbkaiakdhiloabDoor
