/- dhcp.Read and boot.ReadDHCP. -/
import Derived.Test.YtcbkaiakdhiloabReadD
set_option linter.unusedSimpArgs false
set_option linter.unusedVariables false
namespace Go.Proofs.Ytcbkaiakdhiloab
open Go.RowKit Go.Proofs
attribute [local go_sem] bs_size bs_append bs_extract bs_toList

def dhcPost (l : List UInt8) (w : World) (e : Ending) (w' : World) : Prop :=
  (∃ A cap, e = .returned (.tuple #[.agg (dhcC (readDHCP l).1 A cap), .int .i64 ((readDHCP l).2 : Int)]) ∧ SlR w' (fun k => k < w.heap.size) 2 A (readDHCP l).1.os.length (optC (readDHCP l).1.os)) ∧ Fr noB w w'
theorem dhcC_size (d : DhcD) (A : Option Addr) (cap : Nat) : (dhcC d A cap).size = 12 := rfl
theorem dhcC_one (d : DhcD) (A : Option Addr) (cap : Nat) : (dhcC d A cap).all (·.oneCell') = true := by simp [dhcC, Value.oneCell']
theorem dhc_info (d : DhcD) (A : Option Addr) (cap : Nat) : (Try.prog.info? 28).map (·.size) = some (dhcC d A cap).size := by rw [dhcC_size]; kernel_rfl
set_option maxRecDepth 20000 in
set_option maxHeartbeats 1000000 in
theorem dhcpRead (l : List UInt8) (w : World) (hl : l.length ≤ 1099511000000) :
    Calls Try.prog 29 #[.string (bs l)] w (dhcPost l w) := by
  go_enter Try.func29, Try.ntmps29
  have hmf : ∀ (fn : Fn) (first cap : Array Value) (w : World), (Instr.makeFunc fn first cap).run Try.prog w = .ok (.func fn first cap) w := fun _ _ _ _ => rfl
  go_wp2_with fail
  have hs0 := (Bk.new w 9 #[.string (bs l)]).alloc (.cells zcDhc 28)
  have hx0 := Bk.new (w.alloc (.cells #[.string (bs l)] 9)) 28 zcDhc
  have hf0 : Fr noB w ((w.alloc (.cells #[.string (bs l)] 9)).alloc (.cells zcDhc 28)) := ((Fr.refl _ _).alloc _).alloc _
  have hsz : ((w.alloc (.cells #[.string (bs l)] 9)).alloc (.cells zcDhc 28)).heap.size = w.heap.size + 2 := by simp
  rw [show (w.alloc (.cells #[.string (bs l)] 9)).heap.size = w.heap.size + 1 by simp] at hx0
  unfold zcDhc at hs0 hx0 hf0 hsz
  generalize (w.alloc (.cells #[.string (bs l)] 9)).alloc (.cells #[.bool false, .int .u32 0, .int .u32 0, .int .u32 0, .int .u32 0, .int .u8 0, .int .u8 0, .int .u8 0, .int .u8 0, .int .u8 0, .int .u8 0, .slice none 0 0] 28) = w1 at *
  have Hsz := Lib.hid hsz
  clear hsz
  refine (readWDhc l w1 (.pointer (some ⟨w.heap.size, 0, none⟩)) noB (DhcOk (w1.heap.size + 2) l) (DhcBad l) (fun _ _ _ x => x) ?_ ?_ ?_).mono ?_
  · rintro x w2 ⟨d, A, cap, rfl, _⟩; exact ⟨_, rfl, rfl, dhcC_one d A cap⟩
  · rintro x w2 w3 ⟨d, A, cap, rfl, h1, h2, h3⟩ hf
    exact ⟨d, A, cap, rfl, h1, h2.keep (hf.mono fun b _ e => by rcases e with e | e <;> omega), h3⟩
  · rintro p w2 rfl hR hf
    exact dhcBy _ l hl _ w.heap.size w2 hR (hs0.keep hf (fun x => x)) (by have := Hsz.out; omega) (by have := Bk.lt hR; omega)
  rintro e w2 ⟨hcase, hf1⟩
  have hx1 := hx0.keep hf1 (fun x => x)
  have key : ∃ A cap, e = .returned (.tuple #[.agg (dhcC (readDHCP l).1 A cap), .int .i64 ((readDHCP l).2 : Int)]) ∧ SlR w2 (fun k => k < w.heap.size + 2) 2 A (readDHCP l).1.os.length (optC (readDHCP l).1.os) := by
    rcases hcase with ⟨x, ⟨d, A, cap, rfl, h1, h2, h3⟩, rfl⟩ | ⟨er, ⟨k, rfl, h1⟩, rfl⟩
    · rw [h1]; exact ⟨A, cap, rfl, h2.sub (fun b hb h => by have := Hsz.out; omega)⟩
    · rw [h1]; exact ⟨none, 0, rfl, SlR.nil⟩
  obtain ⟨A, cap, rfl, hA⟩ := key
  generalize hr : readDHCP l = r at *
  have Hr := Lib.hid hr
  clear hr hcase
  have hin := Lib.hid (dhc_info r.1 A cap)
  have hon := Lib.hid (dhcC_one r.1 A cap)
  have hsz := Lib.hid (dhcC_size r.1 A cap)
  generalize hc : dhcC r.1 A cap = c at *
  have Hc := Lib.hid hc
  clear hc
  go_wp2_with ((refine wpList_store_bk rfl 28 (.tmp 2) (.tmp 7) rfl (w.heap.size + 1) _ _ c rfl rfl hx1 hsz.out hin.out hon.out ?_); intro w9 hx9 hf9)
  refine bodyPost_ret (results_row_tmp Try.results29 _ w9 (w.heap.size + 1) _ c _ _ rfl rfl hx9 Try.underlying28 rfl hin.out) rfl ?_
  refine ⟨⟨A, cap, by rw [Hr.out, Hc.out]; rfl, ?_⟩, (hf0.none hf1).trans' hf9 (fun b hb e => by unfold oneB at e; omega)⟩
  rw [Hr.out]
  exact (hA.keep (hf9.mono fun b hb e => by unfold oneB at e; omega)).sub (fun b hb h => by omega)
end Go.Proofs.Ytcbkaiakdhiloab
