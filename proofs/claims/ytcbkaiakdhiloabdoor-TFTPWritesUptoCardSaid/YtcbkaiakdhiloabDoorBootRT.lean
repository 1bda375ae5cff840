/- tftp.Read and boot.ReadTFTP. -/
import Derived.Test.YtcbkaiakdhiloabDoorTftBy
set_option linter.unusedSimpArgs false
set_option linter.unusedVariables false
namespace Go.Proofs.YtcbkaiakdhiloabDoor
open Go.RowKit Go.Proofs
attribute [local go_sem] bs_size bs_append bs_extract bs_toList

set_option maxRecDepth 20000 in
set_option maxHeartbeats 1000000 in
theorem tftpRead (l : List UInt8) (w : World) (hl : l.length ≤ 1099511627) (hT : Tabs w) :
    Calls Tryd.prog 26 #[.string (bs l)] w fun e w' => tftPost l w e w' ∧ wtF (readTFTP l).1.fs ≤ l.length := by
  have hTl := hT.lt
  go_enter Tryd.func26, Tryd.ntmps26
  have hmf : ∀ (fn : Fn) (first cap : Array Value) (w : World), (Instr.makeFunc fn first cap).run Tryd.prog w = .ok (.func fn first cap) w := fun _ _ _ _ => rfl
  go_wp2_with fail
  have hx0 := Bk.new w 47 zcTft
  have hf0 : Fr noB w (w.alloc (.cells zcTft 47)) := (Fr.refl _ _).alloc _
  have hsz : (w.alloc (.cells zcTft 47)).heap.size = w.heap.size + 1 := by simp
  have hT1 := hT.none hf0
  unfold zcTft at hx0 hf0 hsz hT1
  generalize w.alloc (.cells #[.int .u16 0, .int .u16 0, .string ⟨#[]⟩, .string ⟨#[]⟩, .slice none 0 0] 47) = w1 at *
  have Hsz := Lib.hid hsz
  clear hsz
  refine (readWTft l w1 noB (TftOk (w1.heap.size + 2) l) (TftBad l) (fun _ _ _ x => x) ?_ ?_ ?_).mono ?_
  · rintro x w2 ⟨d, A, cap, rfl, _⟩; exact ⟨_, rfl, rfl, tftC_one d A cap⟩
  · rintro x w2 w3 ⟨d, A, cap, rfl, h1, h2, h3⟩ hf
    exact ⟨d, A, cap, rfl, h1, h2.keep (hf.mono fun b _ e => by rcases e with e | e <;> omega), h3⟩
  · rintro p w2 rfl hR hf
    have := Hsz.out
    exact tftBy _ l hl _ w2 hR (hT1.none hf) (by unfold oneB; omega) (by unfold oneB; omega) (by have := Bk.lt hR; omega)
  rintro e w2 ⟨hcase, hf1⟩
  have hx1 := hx0.keep hf1 (fun x => x)
  have key : (∃ A cap, e = .returned (.tuple #[.agg (tftC (readTFTP l).1 A cap), .int .i64 ((readTFTP l).2 : Int)]) ∧ SlR w2 (fun k => k < w.heap.size + 1) 2 A (readTFTP l).1.fs.length (fldC (readTFTP l).1.fs)) ∧ wtF (readTFTP l).1.fs ≤ l.length := by
    rcases hcase with ⟨x, ⟨d, A, cap, rfl, h1, h2, h3⟩, rfl⟩ | ⟨er, ⟨k, rfl, h1⟩, rfl⟩
    · rw [h1]; exact ⟨⟨A, cap, rfl, h2.sub (fun b hb h => by have := Hsz.out; omega)⟩, h3⟩
    · rw [h1]; exact ⟨⟨none, 0, rfl, SlR.nil⟩, Nat.zero_le _⟩
  obtain ⟨⟨A, cap, rfl, hA⟩, hwt⟩ := key
  generalize hr : readTFTP l = r at *
  have Hr := Lib.hid hr
  clear hr hcase
  have hin := Lib.hid (tft_info r.1 A cap)
  have hon := Lib.hid (tftC_one r.1 A cap)
  have hsz := Lib.hid (tftC_size r.1 A cap)
  generalize hc : tftC r.1 A cap = c at *
  have Hc := Lib.hid hc
  clear hc
  go_wp2_with ((refine wpList_store_bk rfl 47 (.tmp 2) (.tmp 6) rfl w.heap.size _ _ c rfl rfl hx1 hsz.out hin.out hon.out ?_); intro w9 hx9 hf9)
  refine bodyPost_ret (results_row_tmp Tryd.results26 _ w9 w.heap.size _ c _ _ rfl rfl hx9 Tryd.underlying47 rfl hin.out) rfl ?_
  refine ⟨⟨⟨A, cap, by rw [Hr.out, Hc.out]; rfl, ?_⟩, (hf0.none hf1).trans' hf9 (fun b hb e => by unfold oneB at e; omega)⟩, by rw [Hr.out]; exact hwt⟩
  rw [Hr.out]
  exact (hA.keep (hf9.mono fun b hb e => by unfold oneB at e; omega)).sub (fun b hb h => by omega)

set_option maxRecDepth 20000 in
set_option maxHeartbeats 1000000 in
theorem bootReadTFTP (l : List UInt8) (w : World) (hl : l.length ≤ 1099511627) (hT : Tabs w) :
    Calls Tryd.prog 14 #[.string (bs l)] w fun e w' => tftPost l w e w' ∧ wtF (readTFTP l).1.fs ≤ l.length := by
  go_enter Tryd.func14, Tryd.ntmps14
  go_wp2_with fail
  have hx0 := Bk.new w 47 zcTft
  have hf0 : Fr noB w (w.alloc (.cells zcTft 47)) := (Fr.refl _ _).alloc _
  have hsz : (w.alloc (.cells zcTft 47)).heap.size = w.heap.size + 1 := by simp
  have hT1 := hT.none hf0
  unfold zcTft at hx0 hf0 hsz hT1
  generalize w.alloc (.cells #[.int .u16 0, .int .u16 0, .string ⟨#[]⟩, .string ⟨#[]⟩, .slice none 0 0] 47) = w1 at *
  have Hsz := Lib.hid hsz
  clear hsz
  refine (tftpRead l w1 hl hT1).mono ?_
  rintro e w2 ⟨⟨⟨A, cap, rfl, hA⟩, hf1⟩, hwt⟩
  have hx1 := hx0.keep hf1 (fun x => x)
  generalize hr : readTFTP l = r at *
  have Hr := Lib.hid hr
  clear hr
  have hin := Lib.hid (tft_info r.1 A cap)
  have hon := Lib.hid (tftC_one r.1 A cap)
  have hsz := Lib.hid (tftC_size r.1 A cap)
  generalize hc : tftC r.1 A cap = c at *
  have Hc := Lib.hid hc
  clear hc
  go_wp2_with ((refine wpList_store_bk rfl 47 (.tmp 2) (.tmp 6) rfl w.heap.size _ _ c rfl rfl hx1 hsz.out hin.out hon.out ?_); intro w9 hx9 hf9)
  refine bodyPost_ret (results_row_tmp Tryd.results14 _ w9 w.heap.size _ c _ _ rfl rfl hx9 Tryd.underlying47 rfl hin.out) rfl ?_
  refine ⟨⟨⟨A, cap, by rw [Hr.out, Hc.out]; rfl, ?_⟩, (hf0.none hf1).trans' hf9 (fun b hb e => by unfold oneB at e; omega)⟩, by rw [Hr.out]; exact hwt⟩
  rw [Hr.out]
  exact (hA.keep (hf9.mono fun b hb e => by unfold oneB at e; have := Hsz.out; omega)).sub (fun b hb h => by have := Hsz.out; omega)
end Go.Proofs.YtcbkaiakdhiloabDoor
