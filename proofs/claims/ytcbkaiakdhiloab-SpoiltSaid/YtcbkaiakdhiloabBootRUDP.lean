/- ReadUDP, the program's. -/
import Derived.Test.YtcbkaiakdhiloabReadUDP
set_option linter.unusedSimpArgs false
set_option linter.unusedVariables false
namespace Go.Proofs.Ytcbkaiakdhiloab
open Go.RowKit Go.Proofs
attribute [local go_sem] bs_size bs_append bs_sub bs_toList

theorem udpC_size (x : UdpD) : (udpC x).size = zcUdp.size := rfl
theorem udpC_one (x : UdpD) : (udpC x).all (·.oneCell') = true := by kernel_rfl
theorem udp_info (x : UdpD) : (Try.prog.info? 37).map (·.size) = some (udpC x).size := by rw [udpC_size]; kernel_rfl

set_option maxRecDepth 20000 in
theorem packetReadUDP (l : List UInt8) (fi ti : Nat) (w : World) (hfi : fi < 4294967296) (hti : ti < 4294967296) (hl : l.length ≤ 9223372036854775807) :
    Calls Try.prog 25 #[.string (bs l), .int .u32 (fi : Int), .int .u32 (ti : Int)] w (udpPost l fi ti w) := by
  go_enter Try.func25, Try.ntmps25
  have hmf : ∀ (fn : Fn) (first cap : Array Value) (w : World), (Instr.makeFunc fn first cap).run Try.prog w = .ok (.func fn first cap) w := fun _ _ _ _ => rfl
  go_wp2_with fail
  have hs0 := (((Bk.new w 9 #[.string (bs l)]).alloc (.cells #[.int .u32 (fi : Int)] 23)).alloc (.cells #[.int .u32 (ti : Int)] 23)).alloc (.cells zcUdp 37)
  have hi0 := ((Bk.new (w.alloc (.cells #[.string (bs l)] 9)) 23 #[.int .u32 (fi : Int)]).alloc (.cells #[.int .u32 (ti : Int)] 23)).alloc (.cells zcUdp 37)
  have ht0 := (Bk.new ((w.alloc (.cells #[.string (bs l)] 9)).alloc (.cells #[.int .u32 (fi : Int)] 23)) 23 #[.int .u32 (ti : Int)]).alloc (.cells zcUdp 37)
  have hx0 := Bk.new (((w.alloc (.cells #[.string (bs l)] 9)).alloc (.cells #[.int .u32 (fi : Int)] 23)).alloc (.cells #[.int .u32 (ti : Int)] 23)) 37 zcUdp
  simp only [World.size_alloc] at hs0 hi0 ht0 hx0
  have hf0 : Fr noB w ((((w.alloc (.cells #[.string (bs l)] 9)).alloc (.cells #[.int .u32 (fi : Int)] 23)).alloc (.cells #[.int .u32 (ti : Int)] 23)).alloc (.cells zcUdp 37)) := ((((Fr.refl _ _).alloc _).alloc _).alloc _).alloc _
  unfold zcUdp at hs0 hi0 ht0 hx0 hf0
  generalize (((w.alloc (.cells #[.string (bs l)] 9)).alloc (.cells #[.int .u32 (fi : Int)] 23)).alloc (.cells #[.int .u32 (ti : Int)] 23)).alloc (.cells #[.int .u16 0, .int .u16 0, .string ⟨#[]⟩] 37) = w1 at *
  refine (udpRead l fi ti w.heap.size (w.heap.size + 1) (w.heap.size + 1 + 1) _ hfi hti hs0 hi0 ht0 hl).mono ?_
  rintro e w2 ⟨rfl, hf1⟩
  have hx1 := hx0.keep hf1 (fun x => x)
  have hsz := Lib.hid (udpC_size (readUDP l fi ti).1)
  have hin := Lib.hid (udp_info (readUDP l fi ti).1)
  have hon := Lib.hid (udpC_one (readUDP l fi ti).1)
  generalize hr : readUDP l fi ti = r at *
  have Hr := Lib.hid hr
  clear hr
  generalize hc : udpC r.1 = c at *
  have Hc := Lib.hid hc
  clear hc
  go_wp2_with ((refine wpList_store_bk rfl 37 (.tmp 6) (.tmp 11) rfl (w.heap.size + 1 + 1 + 1) _ _ c rfl rfl hx1 hsz.out hin.out hon.out ?_); intro w9 hx9 hf9)
  refine bodyPost_ret (results_row_tmp Try.results25 _ w9 (w.heap.size + 1 + 1 + 1) _ c _ _ rfl rfl hx9 Try.underlying37 rfl hin.out) rfl ?_
  exact ⟨by rw [Hr.out, Hc.out]; rfl, (hf0.none hf1).trans' hf9 (fun b hb e => by unfold oneB at e; omega)⟩

theorem bootReadUDP (l : List UInt8) (fi ti : Nat) (w : World) (hfi : fi < 4294967296) (hti : ti < 4294967296) (hl : l.length ≤ 9223372036854775807) :
    Calls Try.prog 11 #[.string (bs l), .int .u32 (fi : Int), .int .u32 (ti : Int)] w (udpPost l fi ti w) := by
  go_enter Try.func11, Try.ntmps11
  go_wp2_with fail
  have hx0 := Bk.new w 37 zcUdp
  have hf0 : Fr noB w (w.alloc (.cells zcUdp 37)) := (Fr.refl _ _).alloc _
  unfold zcUdp at hx0 hf0
  generalize w.alloc (.cells #[.int .u16 0, .int .u16 0, .string ⟨#[]⟩] 37) = w1 at *
  refine (packetReadUDP l fi ti _ hfi hti hl).mono ?_
  rintro e w2 ⟨rfl, hf1⟩
  have hx1 := hx0.keep hf1 (fun x => x)
  have hsz := Lib.hid (udpC_size (readUDP l fi ti).1)
  have hin := Lib.hid (udp_info (readUDP l fi ti).1)
  have hon := Lib.hid (udpC_one (readUDP l fi ti).1)
  generalize hr : readUDP l fi ti = r at *
  have Hr := Lib.hid hr
  clear hr
  generalize hc : udpC r.1 = c at *
  have Hc := Lib.hid hc
  clear hc
  go_wp2_with ((refine wpList_store_bk rfl 37 (.tmp 6) (.tmp 12) rfl (w.heap.size) _ _ c rfl rfl hx1 hsz.out hin.out hon.out ?_); intro w9 hx9 hf9)
  refine bodyPost_ret (results_row_tmp Try.results11 _ w9 (w.heap.size) _ c _ _ rfl rfl hx9 Try.underlying37 rfl hin.out) rfl ?_
  exact ⟨by rw [Hr.out, Hc.out]; rfl, (hf0.none hf1).trans' hf9 (fun b hb e => by unfold oneB at e; omega)⟩

end Go.Proofs.Ytcbkaiakdhiloab
