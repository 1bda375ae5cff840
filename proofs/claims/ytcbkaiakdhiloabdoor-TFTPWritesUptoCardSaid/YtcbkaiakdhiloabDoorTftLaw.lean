/- The law's comparing of two messages of TFTP; netbootlaw.TFTPReads walked. -/
import Derived.Test.YtcbkaiakdhiloabDoorBootRT
import Derived.Test.YtcbkaiakdhiloabDoorRefRT
import Derived.Test.YtcbkaiakdhiloabDoorEq
import Derived.Deep.QuietTactic
import Derived.BigQuiet
set_option linter.unusedSimpArgs false
set_option linter.unusedVariables false
namespace Go.Proofs.YtcbkaiakdhiloabDoor
open Go.RowKit Go.Proofs
attribute [local go_sem] bs_size bs_append bs_extract bs_toList

theorem neqF_self {P : Program} (w : World) {t : TypeId} {xs : Array Value} (h : selfEq P 8 t (.agg xs) = true) : (binOp .neq t (.agg xs) (.agg xs)).run P w = .ok (.bool false) w := by
  rw [run_neq_struct w t xs xs, show (10000 : Nat) = 9992 + 8 from rfl, equalIn_self w 9992 8 t (.agg xs) h]; rfl
set_option maxRecDepth 20000 in
set_option maxHeartbeats 4000000 in
attribute [-go_sem] run_eql_struct run_neq_struct run_equalIn_agg in
theorem sameTft (d : TftD) (A1 A2 : Option Addr) (c1 c2 : Nat) (w : World) (hn : d.fs.length ≤ 4611686018427387904) (h1 : SlR w noB 2 A1 d.fs.length (fldC d.fs)) (h2 : SlR w noB 2 A2 d.fs.length (fldC d.fs)) :
    Calls Tryd.prog 16 #[.agg (tftC d A1 c1), .agg (tftC d A2 c2)] w fun e w' => e = .returned (.bool true) ∧ Fr noB w w' := by
  obtain ⟨op, bk, tx, dt, fs⟩ := d
  simp only [tftC] at *
  have hfa : Fr noB w ((w.alloc (.cells #[.int .u16 (op : Int), .int .u16 (bk : Int), .string (bs tx), .string (bs dt), .slice A1 fs.length c1] 47)).alloc (.cells #[.int .u16 (op : Int), .int .u16 (bk : Int), .string (bs tx), .string (bs dt), .slice A2 fs.length c2] 47)) := ((Fr.refl _ _).alloc _).alloc _
  have hb1 := (Bk.new w 47 #[.int .u16 (op : Int), .int .u16 (bk : Int), .string (bs tx), .string (bs dt), .slice A1 fs.length c1]).alloc (.cells #[.int .u16 (op : Int), .int .u16 (bk : Int), .string (bs tx), .string (bs dt), .slice A2 fs.length c2] 47)
  have hb2 := Bk.new (w.alloc (.cells #[.int .u16 (op : Int), .int .u16 (bk : Int), .string (bs tx), .string (bs dt), .slice A1 fs.length c1] 47)) 47 #[.int .u16 (op : Int), .int .u16 (bk : Int), .string (bs tx), .string (bs dt), .slice A2 fs.length c2]
  have h1' := h1.keep hfa
  have h2' := h2.keep hfa
  go_enter Tryd.func16, Tryd.ntmps16
  go_upto_region 1 with fail
  rw [show (w.alloc (.cells #[.int .u16 (op : Int), .int .u16 (bk : Int), .string (bs tx), .string (bs dt), .slice A1 fs.length c1] 47)).heap.size = w.heap.size + 1 by simp] at hb2
  generalize (w.alloc (.cells #[.int .u16 (op : Int), .int .u16 (bk : Int), .string (bs tx), .string (bs dt), .slice A1 fs.length c1] 47)).alloc (.cells #[.int .u16 (op : Int), .int .u16 (bk : Int), .string (bs tx), .string (bs dt), .slice A2 fs.length c2] 47) = w1 at *
  obtain ⟨g1, hg1⟩ : ∃ g, w.heap.size = g := ⟨_, rfl⟩
  obtain ⟨g2, hg2⟩ : ∃ g, w.heap.size + 1 = g := ⟨_, rfl⟩
  rw [hg1] at hb1
  rw [hg2] at hb2
  rw [hg2, hg1]
  clear hg1 hg2 h1 h2
  obtain ⟨n, hn2⟩ : ∃ n, fs.length = n := ⟨_, rfl⟩
  rw [hn2] at hn hb1 hb2 h1' h2'
  have hlen := hn2
  clear hn2
  have hcb1 := hb1.cells
  have hcb2 := hb2.cells
  go_wp2_with fail
  clear hcb1 hcb2
  go_loopw [16] (fun iv wr => ∃ (i : Nat), i ≤ n ∧ iv = .int .i64 (i : Int) ∧ Fr noB w1 wr) (fun iv _ => n - (intOf iv).toNat)
  case atStart => exact ⟨0, by omega, rfl, Fr.refl _ _⟩
  case round =>
    obtain ⟨i, hi, rfl, hw⟩ := hrel
    have hbr1 := hb1.keep hw (fun x => x)
    have hbr2 := hb2.keep hw (fun x => x)
    have hcr1 := hbr1.cells
    have hcr2 := hbr2.cells
    by_cases hlt : i < n
    · obtain ⟨o, ho⟩ : ∃ o, fs[i]? = some o := ⟨_, List.getElem?_eq_getElem (by omega)⟩
      obtain ⟨ad, rfl, a1, a2⟩ := (h1'.keep hw).fldAt ho
      obtain ⟨bd, rfl, b1, b2⟩ := (h2'.keep hw).fldAt ho
      clear ho
      have hE : ∀ w, (binOp .neq 66 (.agg #[.string (bs o.name), .string (bs o.value)]) (.agg #[.string (bs o.name), .string (bs o.value)])).run Tryd.prog w = .ok (.bool false) w := fun w => neqF_self w (by kernel_rfl)
      go_wp2_with fail
      go_quiet (fail)
      go_wp2_with fail
      exact ⟨⟨i + 1, by omega, by rw [Int.natCast_add]; rfl, by first | exact hw.drewN _ | exact hw.drew | exact hw⟩, by simp only [intOf]; omega⟩
    · obtain rfl : i = n := by omega
      go_wp2_with fail
      go_ret
      exact ⟨rfl, hfa.none hw⟩

set_option maxRecDepth 20000 in
set_option maxHeartbeats 2000000 in
theorem lawTFTPReads (l : List UInt8) (w : World) (hl : l.length ≤ 9223372036854775807) (hT : Tabs w) :
    Calls Tryd.prog 4 #[.string (bs l)] w (fun e w' => e = .returned (.bool true) ∧ Fr noB w w') := by
  by_cases hb : 16384 < l.length
  · have hb' : (16384 : Int) < l.length := by omega
    go_enter Tryd.func4, Tryd.ntmps4
    go_wp2_with fail
    go_ret
    exact ⟨rfl, Fr.refl _ _⟩
  have hb' : ¬ (16384 : Int) < l.length := by omega
  go_enter Tryd.func4, Tryd.ntmps4
  go_wp2_with fail
  refine (bootReadTFTP l _ (by omega) hT).mono ?_
  rintro e w1 ⟨⟨⟨A1, c1, rfl, hA1⟩, hf1⟩, hwt⟩
  have href := fun w => refReadTFTP l w (by omega)
  have hos : (readTFTP l).1.fs.length ≤ 4611686018427387904 := by
    have h := wtF_len (readTFTP l).1.fs
    omega
  unfold tftPost at href
  generalize hr : readTFTP l = r at *
  obtain ⟨d, k⟩ := r
  have Hr := Lib.hid hr
  clear hr hb hwt
  have hsame := fun A1 A2 c1 c2 w => sameTft d A1 A2 c1 c2 w hos
  have hin := Lib.hid (tft_info d A1 c1)
  obtain ⟨op, bk, tx, dt, fs⟩ := d
  simp only [tftC] at href hsame hin ⊢
  simp only at hA1 hos
  go_wp2_with fail
  have hx1 := Bk.new w1 47 #[.int .u16 (op : Int), .int .u16 (bk : Int), .string (bs tx), .string (bs dt), .slice A1 fs.length c1]
  have hf2 := hf1.alloc (.cells #[.int .u16 (op : Int), .int .u16 (bk : Int), .string (bs tx), .string (bs dt), .slice A1 fs.length c1] 47)
  have hA2 := (hA1.sub (T := noB) (fun _ _ x => x.elim)).keep ((Fr.refl noB w1).alloc (.cells #[.int .u16 (op : Int), .int .u16 (bk : Int), .string (bs tx), .string (bs dt), .slice A1 fs.length c1] 47))
  generalize w1.alloc (.cells #[.int .u16 (op : Int), .int .u16 (bk : Int), .string (bs tx), .string (bs dt), .slice A1 fs.length c1] 47) = w2 at *
  generalize w1.heap.size = g at *
  refine (href w2).mono ?_
  clear href
  rintro e w3 ⟨⟨A2, c2, rfl, hB⟩, hf3⟩
  replace hx1 := hx1.keep hf3 (fun x => x)
  replace hA2 := hA2.keep hf3
  replace hf3 := hf2.none hf3
  have hlt := hx1.lt
  have hB2 := (hB.sub (T := noB) (fun _ _ x => x.elim)).keep ((Fr.refl noB w3).alloc (.cells #[.int .u16 (op : Int), .int .u16 (bk : Int), .string (bs tx), .string (bs dt), .slice A2 fs.length c2] 47))
  have hA3 := hA2.keep ((Fr.refl noB w3).alloc (.cells #[.int .u16 (op : Int), .int .u16 (bk : Int), .string (bs tx), .string (bs dt), .slice A2 fs.length c2] 47))
  have hx2 := hx1.alloc (.cells #[.int .u16 (op : Int), .int .u16 (bk : Int), .string (bs tx), .string (bs dt), .slice A2 fs.length c2] 47)
  have hc := hx2.cells
  have hf4 := hf3.alloc (.cells #[.int .u16 (op : Int), .int .u16 (bk : Int), .string (bs tx), .string (bs dt), .slice A2 fs.length c2] 47)
  go_wp2_with fail
  refine (hsame A1 A2 c1 c2 _ hA3 hB2).mono ?_
  rintro e w5 ⟨rfl, hf5⟩
  have hf6 := hf4.none hf5
  go_wp2_with fail
  go_ret
  exact ⟨rfl, hf6⟩
end Go.Proofs.YtcbkaiakdhiloabDoor
