/- tftp.Write: the program's writing of a message of TFTP. -/
import Derived.Test.YtcbkaiakdhiloabDoorTfLoop
import Derived.Deep.Cut
import Derived.Deep.CutRange
import Derived.Deep.CutBlock
set_option linter.unusedSimpArgs false
set_option linter.unusedVariables false
namespace Go.Proofs.YtcbkaiakdhiloabDoor
open Go.RowKit Go.Proofs
attribute [local go_sem] bs_size bs_append bs_extract bs_toList

theorem index_zero : ∀ l : List UInt8, decide (0 ≤ Lib.indexByte l 0) = l.contains 0 := by
  intro l
  induction l with
  | nil => rfl
  | cons c r ih =>
    have hge := Lib.indexByte_ge r 0
    rw [List.contains_cons, ← ih]
    have e : Lib.indexByte (c :: r) 0 = if c == 0 then 0 else if Lib.indexByte r 0 == -1 then -1 else Lib.indexByte r 0 + 1 := rfl
    rw [e]
    by_cases h : c = 0
    · subst h; simp
    · have h1 : (c == 0) = false := by simpa using h
      have h2 : ((0 : UInt8) == c) = false := by rw [beq_eq_false_iff_ne]; exact fun x => h x.symm
      rw [h1, h2]
      by_cases h3 : Lib.indexByte r 0 = -1
      · simp [h3]
      · have h4 : (Lib.indexByte r 0 == -1) = false := by simpa using h3
        rw [h4]; simp; omega
theorem bs_zero1 : (⟨#[0]⟩ : ByteArray) = bs [0] := rfl
theorem tfContains (l : List UInt8) (w : World) : Calls Tryd.prog 62 #[.string (bs l), .string ⟨#[0]⟩] w fun e w' => e = .returned (.bool (l.contains 0)) ∧ w' = w :=
  (Tryd.strings_Contains_one (bs l) 0 w).mono fun e w' h => by rw [bs_list] at h; rw [index_zero] at h; exact h
theorem big2_int (n : Nat) : bigs 2 [(n : Int)] = big 2 n := by simp [bigs]


set_option maxRecDepth 20000 in
set_option maxHeartbeats 4000000 in
theorem tftpWrite (op bk : Nat) (tx dt : List UInt8) (fs : List FldD) (Ao : Option Addr) (cap : Nat) (w : World)
    (hop : op < 65536) (hbk : bk < 65536) (hA : SlR w noB 2 Ao fs.length (fldC fs)) (hnc : fs.length ≤ cap) (hwt : wtF fs ≤ 1048576) (htx : tx.length ≤ 1048576) (hdt : dt.length ≤ 1048576) (hT : Tabs w) :
    Calls Tryd.prog 32 #[.agg #[.int .u16 (op : Int), .int .u16 (bk : Int), .string (bs tx), .string (bs dt), .slice Ao fs.length cap]] w (strPost (wrTFTP ⟨op, bk, tx, dt, fs⟩) w) := by
  have hpa := (Bk.new w 47 #[.int .u16 (op : Int), .int .u16 (bk : Int), .string (bs tx), .string (bs dt), .slice Ao fs.length cap]).alloc (.cells #[.slice none 0 0] 89)
  have hbw := Bk.new (w.alloc (.cells #[.int .u16 (op : Int), .int .u16 (bk : Int), .string (bs tx), .string (bs dt), .slice Ao fs.length cap] 47)) 89 #[.slice none 0 0]
  rw [show (w.alloc (.cells #[.int .u16 (op : Int), .int .u16 (bk : Int), .string (bs tx), .string (bs dt), .slice Ao fs.length cap] 47)).heap.size = w.heap.size + 1 by simp] at hbw
  obtain ⟨n, hn⟩ : ∃ n, fs.length = n := ⟨_, rfl⟩
  rw [hn] at hA hpa hbw hnc ⊢
  obtain ⟨r, hr⟩ : ∃ r, wrTFTP ⟨op, bk, tx, dt, fs⟩ = r := ⟨_, rfl⟩
  rw [hr]
  have Hr := Lib.hid hr
  have hlw := wtF_len fs
  clear hr
  go_enter Tryd.func32, Tryd.ntmps32
  go_upto_region 2 with fail
  have hf0 : Fr noB w ((w.alloc (.cells #[.int .u16 (op : Int), .int .u16 (bk : Int), .string (bs tx), .string (bs dt), .slice Ao n cap] 47)).alloc (.cells #[.slice none 0 0] 89)) := ((Fr.refl _ _).alloc _).alloc _
  have hsz : ((w.alloc (.cells #[.int .u16 (op : Int), .int .u16 (bk : Int), .string (bs tx), .string (bs dt), .slice Ao n cap] 47)).alloc (.cells #[.slice none 0 0] 89)).heap.size = w.heap.size + 2 := by simp
  generalize (w.alloc (.cells #[.int .u16 (op : Int), .int .u16 (bk : Int), .string (bs tx), .string (bs dt), .slice Ao n cap] 47)).alloc (.cells #[.slice none 0 0] 89) = w1 at *
  have hwr0 := Chn.start0 (Wr.zero hbw) rfl
  refine wp_at (c := regionOf Tryd.f32 2) (by kernel_rfl) (tcR2 w.heap.size op bk n cap Ao tx dt w1 (w.heap.size + 1) w1.heap.size none [] _ _ _ ⟨rfl, rfl⟩ rfl rfl hpa (by omega) hop hbk (by omega) (by omega) hwr0 (by simp) ?_)
  intro a5 w5 A5 hs5 kp5 hch5
  rw [List.nil_append, big2_int] at hch5
  have Hsz := Lib.hid hsz
  clear hsz hwr0 hbw
  rw [kp5.eq_put (n := 115) [10, 11, 12, 13, 14] ⟨rfl, rfl⟩ hs5 (by decide) (by decide)]
  simp only [List.foldl, Act.put, List.setIfInBounds_toArray, List.set_cons_succ, List.set_cons_zero]
  generalize sl a5 = z
  clear kp5 hs5
  have hc5 := (hpa.keep hch5.fr (by unfold oneB; omega)).cells
  generalize Value.agg #[.int .u16 (op : Int), .int .u16 (bk : Int), .string (bs tx), .string (bs dt), .slice Ao n cap] = v0
  go_upto_block 0 with fail
  go_cut [2, 3] from 5 (fun s2 s3 wx => ∃ A l, Chn w1 (w.heap.size + 1) w1.heap.size A l wx ∧ r = capT l ∧ l.length ≤ 40000000)
  case first =>
    have hcon := tfContains tx
    have hasc := fun w => tftpAscii tx w (by omega)
    have Hasc := Lib.hid hasc
    have Hcon := Lib.hid hcon
    clear hasc hcon
    have hfr5 : Fr noB w w5 := hf0.trans' hch5.fr (by rintro b hb rfl; omega)
    by_cases h1 : op = 1
    · have hi1 : (op : Int) = 1 := by omega
      have H1 := Lib.hid h1
      clear h1
      rcases hw : wordB tx with _ | _
      · have Hres : Hid (r = ([], 2)) := Lib.hid (by rw [← Hr.out]; simp [wrTFTP, H1.out, hw])
        have Hw := Lib.hid hw
        clear hw
        go_wp2_with (go_at_call 55; refine (Hasc.out _).mono ?_; rintro e w6 ⟨rfl, rfl⟩; rw [Hw.out])
        go_ret2
        exact ⟨by rw [Hres.out]; rfl, hfr5⟩
      · have Hw := Lib.hid hw
        clear hw
        go_upto_region 11 with (go_at_call 55; refine (Hasc.out _).mono ?_; rintro e w6 ⟨rfl, rfl⟩; rw [Hw.out])
        refine wp_at (c := regionOf Tryd.f32 11) (by kernel_rfl) (tcR11 w.heap.size op bk n cap Ao tx dt w1 (w.heap.size + 1) w1.heap.size A5 (big 2 op) _ _ _ ⟨rfl, rfl⟩ rfl rfl hpa (by omega) hop hbk (by omega) (by omega) hch5 (by rw [big_length]; omega) ?_)
        intro a11 w11 A11 hs11 kp11 hch11
        rw [kp11.eq_put (n := 115) [31, 32, 33, 34, 35] ⟨rfl, rfl⟩ hs11 (by decide) (by decide)]
        simp only [List.foldl, Act.put, List.setIfInBounds_toArray, List.set_cons_succ, List.set_cons_zero]
        generalize sl a11 = z11
        clear kp11 hs11
        have hc11 := (hpa.keep hch11.fr (by unfold oneB; omega)).cells
        go_upto_block 7 with fail
        refine wp_at (c := blockOf Tryd.f32 7) (by kernel_rfl) (tfLoop w.heap.size op bk n cap Ao tx dt fs w w1 (w.heap.size + 1) A11 (big 2 op ++ List.flatten [tx, [0, 111, 99, 116, 101, 116, 0]]) _ _ _ ⟨rfl, rfl⟩ rfl rfl rfl rfl rfl hpa (by omega) hop hbk (by omega) (by omega) hn hnc hA hf0 (by omega) hT hwt hch11 (by simp [big_length]; try omega) ?_ ?_)
        · intro a' w' s' e2 e3 hf' hno
          refine bodyPost_ret (results_tmp2 rfl _ _ _) s'.defers ?_
          have e2' : a'.tmps.getD 2 undef = _ := e2
          have e3' : a'.tmps.getD 3 undef = _ := e3
          rw [e2', e3']
          exact ⟨by rw [show r = ([], 2) from by rw [← Hr.out]; (unfold wrTFTP; rw [if_pos H1.out, if_pos Hw.out]); rw [hno]]; rfl, hf'⟩
        · intro a' w' A' s' kp' e1 e4 hch' hyes
          rw [tcF_of s']
          simp only [tcF, e1, e4, kp' 0 (by decide)]
          generalize sl a' = z'
          have Hyes := Lib.hid hyes
          clear hyes kp' s' e1 e4
          have hfl := fldB_len fs
          go_wp2_with fail
          go_meet
          case rel => exact ⟨A', _, hch', by rw [← Hr.out]; (unfold wrTFTP; rw [if_pos H1.out, if_pos Hw.out]); rw [Hyes.out]; simp, by simp [big_length]; omega⟩
    have j1 : ((op : Int) == 1) = false := by rw [beq_eq_false_iff_ne]; omega
    have H1 := Lib.hid h1
    clear h1
    by_cases h6 : op = 6
    · have hi6 : (op : Int) = 6 := by omega
      have H6 := Lib.hid h6
      clear h6 j1
      go_upto_block 7 with fail
      refine wp_at (c := blockOf Tryd.f32 7) (by kernel_rfl) (tfLoop w.heap.size op bk n cap Ao tx dt fs w w1 (w.heap.size + 1) A5 (big 2 op) _ _ _ ⟨rfl, rfl⟩ rfl rfl rfl rfl rfl hpa (by omega) hop hbk (by omega) (by omega) hn hnc hA hf0 (by omega) hT hwt hch5 (by simp [big_length]; try omega) ?_ ?_)
      · intro a' w' s' e2 e3 hf' hno
        refine bodyPost_ret (results_tmp2 rfl _ _ _) s'.defers ?_
        have e2' : a'.tmps.getD 2 undef = _ := e2
        have e3' : a'.tmps.getD 3 undef = _ := e3
        rw [e2', e3']
        exact ⟨by rw [show r = ([], 2) from by rw [← Hr.out]; (unfold wrTFTP; rw [if_neg H1.out, if_pos H6.out]); rw [hno]]; rfl, hf'⟩
      · intro a' w' A' s' kp' e1 e4 hch' hyes
        rw [tcF_of s']
        simp only [tcF, e1, e4, kp' 0 (by decide)]
        generalize sl a' = z'
        have Hyes := Lib.hid hyes
        clear hyes kp' s' e1 e4
        have hfl := fldB_len fs
        go_wp2_with fail
        go_meet
        case rel => exact ⟨A', _, hch', by rw [← Hr.out]; (unfold wrTFTP; rw [if_neg H1.out, if_pos H6.out]); rw [Hyes.out], by simp [big_length]; omega⟩
    have j6 : ((op : Int) == 6) = false := by rw [beq_eq_false_iff_ne]; omega
    have H6 := Lib.hid h6
    clear h6
    by_cases h3 : op = 3
    · have hi3 : (op : Int) = 3 := by omega
      have H3 := Lib.hid h3
      clear h3 j1 j6
      go_upto_region 19 with fail
      refine wp_at (c := regionOf Tryd.f32 19) (by kernel_rfl) (tcR19 w.heap.size op bk n cap Ao tx dt w1 (w.heap.size + 1) w1.heap.size A5 (big 2 op) _ _ _ ⟨rfl, rfl⟩ rfl rfl hpa (by omega) hop hbk (by omega) (by omega) hch5 (by rw [big_length]; omega) ?_)
      intro a19 w19 A19 hs19 kp19 hch19
      rw [kp19.eq_put (n := 115) [79, 80, 81, 82, 83, 84, 85, 86, 87] ⟨rfl, rfl⟩ hs19 (by decide) (by decide)]
      simp only [List.foldl, Act.put, List.setIfInBounds_toArray, List.set_cons_succ, List.set_cons_zero]
      generalize sl a19 = z19
      clear kp19 hs19
      have hc19 := (hpa.keep hch19.fr (by unfold oneB; omega)).cells
      have hfr19 : Fr noB w w19 := hf0.trans' hch19.fr (by rintro b hb rfl; omega)
      by_cases hlen : 1024 < dt.length
      · have hli : (1024 : Int) < (dt.length : Int) := by omega
        have Hres : Hid (r = ([], 7)) := Lib.hid (by rw [← Hr.out]; unfold wrTFTP; rw [if_neg H1.out, if_neg H6.out, if_pos H3.out, if_pos hlen])
        clear hlen
        go_wp2_with fail
        go_ret2
        exact ⟨by rw [Hres.out]; rfl, hfr19⟩
      · have hli : ¬ (1024 : Int) < (dt.length : Int) := by omega
        have Hres : Hid (r = capT (big 2 op ++ big 2 bk ++ dt)) := Lib.hid (by rw [← Hr.out]; unfold wrTFTP; rw [if_neg H1.out, if_neg H6.out, if_pos H3.out, if_neg hlen])
        go_wp2_with fail
        go_meet
        case rel => exact ⟨A19, _, hch19, by rw [Hres.out, big2_int]; simp, by simp [big2_int, big_length]; omega⟩
    have j3 : ((op : Int) == 3) = false := by rw [beq_eq_false_iff_ne]; omega
    have H3 := Lib.hid h3
    clear h3
    by_cases h4 : op = 4
    · have hi4 : (op : Int) = 4 := by omega
      have H4 := Lib.hid h4
      clear h4 j1 j6 j3
      go_upto_region 22 with fail
      refine wp_at (c := regionOf Tryd.f32 22) (by kernel_rfl) (tcR22 w.heap.size op bk n cap Ao tx dt w1 (w.heap.size + 1) w1.heap.size A5 (big 2 op) _ _ _ ⟨rfl, rfl⟩ rfl rfl hpa (by omega) hop hbk (by omega) (by omega) hch5 (by rw [big_length]; omega) ?_)
      intro a22 w22 A22 hs22 kp22 hch22
      rw [kp22.eq_put (n := 115) [92, 93, 94, 95, 96] ⟨rfl, rfl⟩ hs22 (by decide) (by decide)]
      simp only [List.foldl, Act.put, List.setIfInBounds_toArray, List.set_cons_succ, List.set_cons_zero]
      generalize sl a22 = z22
      clear kp22 hs22
      go_wp2_with fail
      go_meet
      case rel => exact ⟨A22, _, hch22, by rw [← Hr.out]; unfold wrTFTP; rw [if_neg H1.out, if_neg H6.out, if_neg H3.out, if_pos H4.out, big2_int], by simp [big2_int, big_length]⟩
    have j4 : ((op : Int) == 4) = false := by rw [beq_eq_false_iff_ne]; omega
    have H4 := Lib.hid h4
    clear h4
    by_cases h5 : op = 5
    · have hi5 : (op : Int) = 5 := by omega
      have H5 := Lib.hid h5
      clear h5 j1 j6 j3 j4
      rcases hw : tx.contains 0 with _ | _
      · have Hw := Lib.hid hw
        clear hw
        go_upto_region 25 with (go_at_call 62; refine (Hcon.out _).mono ?_; rintro e w6 ⟨rfl, rfl⟩; rw [Hw.out])
        refine wp_at (c := regionOf Tryd.f32 25) (by kernel_rfl) (tcR25 w.heap.size op bk n cap Ao tx dt w1 (w.heap.size + 1) w1.heap.size A5 (big 2 op) _ _ _ ⟨rfl, rfl⟩ rfl rfl hpa (by omega) hop hbk (by omega) (by omega) hch5 (by rw [big_length]; omega) ?_)
        intro a25 w25 A25 hs25 kp25 hch25
        rw [kp25.eq_put (n := 115) [100, 101, 102, 103, 104, 105, 106, 107, 108] ⟨rfl, rfl⟩ hs25 (by decide) (by decide)]
        simp only [List.foldl, Act.put, List.setIfInBounds_toArray, List.set_cons_succ, List.set_cons_zero]
        generalize sl a25 = z25
        clear kp25 hs25
        go_wp2_with fail
        go_meet
        case rel => exact ⟨A25, _, hch25, by rw [← Hr.out]; unfold wrTFTP; rw [if_neg H1.out, if_neg H6.out, if_neg H3.out, if_neg H4.out, if_pos H5.out, Hw.out, big2_int]; simp, by simp [big2_int, big_length]; omega⟩
      · have Hw := Lib.hid hw
        clear hw
        have Hres : Hid (r = ([], 2)) := Lib.hid (by rw [← Hr.out]; unfold wrTFTP; rw [if_neg H1.out, if_neg H6.out, if_neg H3.out, if_neg H4.out, if_pos H5.out, Hw.out]; rfl)
        go_wp2_with (go_at_call 62; refine (Hcon.out _).mono ?_; rintro e w6 ⟨rfl, rfl⟩; rw [Hw.out])
        go_ret2
        exact ⟨by rw [Hres.out]; rfl, hfr5⟩
    have j5 : ((op : Int) == 5) = false := by rw [beq_eq_false_iff_ne]; omega
    have Hres : Hid (r = ([], 2)) := Lib.hid (by rw [← Hr.out]; unfold wrTFTP; rw [if_neg H1.out, if_neg H6.out, if_neg H3.out, if_neg H4.out, if_neg h5])
    clear h5
    go_wp2_with fail
    go_ret2
    exact ⟨by rw [Hres.out]; rfl, hfr5⟩
  case rest =>
    obtain ⟨A7, l7, hch7, hr7, hl7⟩ := hcut
    have hfr7 : Fr noB w wc := hf0.trans' hch7.fr (by rintro b hb rfl; omega)
    have Hr7 := Lib.hid hr7
    clear hr7
    have hst := fun w6 (h : Wr w6 (w.heap.size + 1) A7 l7) => wString (w.heap.size + 1) A7 l7 w6 h
    have hwr7 := hch7.wr
    by_cases hlen : 1472 < l7.length
    · have hli : (1472 : Int) < (l7.length : Int) := by omega
      have Hres : Hid (r = ([], 7)) := Lib.hid (by rw [Hr7.out]; unfold capT; rw [if_pos hlen])
      clear hlen
      go_wp2_with (go_at_call 48; refine (wString (w.heap.size + 1) A7 l7 _ hwr7).mono ?_; rintro e w6 ⟨rfl, rfl⟩)
      go_ret2
      exact ⟨by rw [Hres.out]; rfl, hfr7⟩
    · have hli : ¬ (1472 : Int) < (l7.length : Int) := by omega
      have Hres : Hid (r = (l7, 0)) := Lib.hid (by rw [Hr7.out]; unfold capT; rw [if_neg hlen])
      clear hlen
      go_wp2_with (go_at_call 48; refine (wString (w.heap.size + 1) A7 l7 _ hwr7).mono ?_; rintro e w6 ⟨rfl, rfl⟩)
      go_ret2
      exact ⟨by rw [Hres.out]; rfl, hfr7⟩
end Go.Proofs.YtcbkaiakdhiloabDoor
