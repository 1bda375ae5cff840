/- tftp.Write's loop over fields. -/
import Derived.Test.YtcbkaiakdhiloabGreatDoorTfCZ
import Derived.Test.YtcbkaiakdhiloabGreatDoorTfWZ
import Derived.Test.YtcbkaiakdhiloabGreatDoorMaj
import Derived.Deep.Cut
import Derived.Deep.CutRange
import Derived.Deep.CutBlock
import Derived.Test.YtcbkaiakdhiloabGreatDoorMal
set_option linter.unusedSimpArgs false
set_option linter.unusedVariables false
namespace Go.Proofs.YtcbkaiakdhiloabGreatDoor
open Go.RowKit Go.Proofs
attribute [local go_sem] bs_size bs_append bs_extract bs_toList

theorem asc_word {l : List UInt8} (h : wordB l = true) : asc l := by
  intro b hb
  unfold wordB at h
  simp only [Bool.and_eq_true, List.all_eq_true] at h
  have h1 := h.1 b hb
  unfold chrOk at h1
  simp at h1
  omega
theorem SlR.fresh2 {w : World} {S : Nat → Prop} {size n : Nat} {A : Option Addr} {xs : List Value} (h : SlR w S size A n xs) : SlR w (fun k => w.heap.size ≤ k) size A n xs :=
  ⟨h.1, fun hn => by
    obtain ⟨ad, e, hb, hS, hc⟩ := h.2 hn
    exact ⟨ad, e, hb, fun x => by omega, hc⟩⟩
/-- the field test: one theorem -/
theorem tfR15 (g gm n k cap op bk : Nat) (A : Option Addr) (tx dt : List UInt8) (b4 : List FldD) (o : FldD) (a : Act) (w : World) (K : Exit → Act → World → Prop) (hs : Sz 115 a)
    (h1 : sl a 1 = .pointer (some ⟨gm, 0, none⟩)) (h5 : sl a 5 = .int .i64 (k : Int)) (h6 : sl a 6 = .pointer (some ⟨g, 0, none⟩)) (hT : Tabs w) (hnl : o.name.length ≤ 1099511627) (hvl : o.value.length ≤ 1099511627) (hkn : k < n) (hnc : n ≤ cap) (hnn : n ≤ 4611686018427387904) (hA : SlR w noB 2 A k (fldC b4)) (hfb : Bk w g 83 #[.string (bs o.name), .string (bs o.value)]) (hmb : Bk w gm 81 #[.int .u16 (op : Int), .int .u16 (bk : Int), .string (bs tx), .string (bs dt), .slice A n cap])
    (hK : ∀ a' w', Sz 115 a' → Kp [0, 1, 2, 3, 4, 5, 6, 7, 8, 9, 10, 11, 12, 13, 14, 15, 16, 17, 18, 19, 20, 21, 22, 23, 24, 25, 26, 27, 28, 29, 30, 31, 32, 33, 34, 35, 36, 37, 38, 39, 40, 41, 42, 43, 71, 72, 73, 74, 75, 76, 77, 78, 79, 80, 81, 82, 83, 84, 85, 86, 87, 88, 89, 90, 91, 92, 93, 94, 95, 96, 97, 98, 99, 100, 101, 102, 103, 104, 105, 106, 107, 108, 109, 110, 111, 112, 113, 114] a a' → sl a' 70 = .bool (!fldOk b4 o) → Fr noB w w' → K .normal a' w') :
    (regionOf Tryz.f83 15).wp Tryz.prog K a w := by
  rcases ha : wordB o.name with _ | _
  · exact tfR15a g gm n k cap op bk A tx dt b4 o.name o.value a w K hs h1 h5 h6 hT hnl hvl hkn hnc hnn ha hA hfb hmb fun a' w' s kp e f => hK a' w' s kp (by rw [e]; simp [fldOk, ha]) f
  rcases hv : wordB o.value with _ | _
  · exact tfR15b g gm n k cap op bk A tx dt b4 o.name o.value a w K hs h1 h5 h6 hT hnl hvl hkn hnc hnn ha hv hA hfb hmb fun a' w' s kp e f => hK a' w' s kp (by rw [e]; simp [fldOk, hv]) f
  have hl := lowD_asc o.name (asc_word ha)
  rcases h0 : (o.name == lowD o.name) with _ | _
  · exact tfR15c g gm n k cap op bk A tx dt b4 o.name o.value a w K hs h1 h5 h6 hT hnl hvl hkn hnc hnn ha hv h0 hA hfb hmb fun a' w' s kp e f => hK a' w' s kp (by rw [e]; rw [hl] at h0; simp [fldOk, h0]) f
  rcases hn : named b4 o.name with _ | _
  · exact tfR15e g gm n k cap op bk A tx dt b4 o.name o.value a w K hs h1 h5 h6 hT hnl hvl hkn hnc hnn ha hv h0 hn hA hfb hmb fun a' w' s kp e f => hK a' w' s kp (by rw [e]; rw [hl] at h0; simp only [fldOk, ha, hv, h0, hn]; rfl) f
  · exact tfR15d g gm n k cap op bk A tx dt b4 o.name o.value a w K hs h1 h5 h6 hT hnl hvl hkn hnc hnn ha hv h0 hn hA hfb hmb fun a' w' s kp e f => hK a' w' s kp (by rw [e]; simp [fldOk, hn]) f

set_option maxRecDepth 20000 in
set_option maxHeartbeats 4000000 in
theorem tfLoop (pa op bk n cap : Nat) (Ao : Option Addr) (tx dt : List UInt8) (fs : List FldD) (w0 w1 : World) (p : Nat) (A0 : Option Addr) (l0 : List UInt8) (a : Act) (w : World) (K : Exit → Act → World → Prop) (hs : Sz 115 a)
    (h1 : sl a 1 = .pointer (some ⟨pa, 0, none⟩)) (h4 : sl a 4 = .pointer (some ⟨p, 0, none⟩)) (h37 : sl a 37 = .slice Ao n cap) (h38 : sl a 38 = .int .i64 (n : Int)) (h39 : sl a 39 = .int .i64 0)
    (hpa : Bk w1 pa 81 #[.int .u16 (op : Int), .int .u16 (bk : Int), .string (bs tx), .string (bs dt), .slice Ao n cap]) (hpn : pa ≠ p) (hop : op < 65536) (hbk : bk < 65536) (htx : tx.length ≤ 1099511) (hdt : dt.length ≤ 1099511)
    (hn : fs.length = n) (hnc : n ≤ cap) (hA : SlR w0 noB 2 Ao n (fldC fs)) (hf01 : Fr noB w0 w1) (hp0 : w0.heap.size ≤ p) (hT : Tabs w0) (hwt : wtF fs ≤ 1048576) (hch0 : Chn w1 p w1.heap.size A0 l0 w) (N00 : l0.length ≤ 3000000)
    (hbad : ∀ a' w', Sz 115 a' → sl a' 2 = .string ⟨#[]⟩ → sl a' 3 = .int .i64 2 → Fr noB w0 w' → fldW [] fs = none → K .ret a' w')
    (hgood : ∀ a' w' A', Sz 115 a' → Kp [0] a a' → sl a' 1 = .pointer (some ⟨pa, 0, none⟩) → sl a' 4 = .pointer (some ⟨p, 0, none⟩) → Chn w1 p w1.heap.size A' (l0 ++ fldB fs) w' → fldW [] fs = some (fldB fs) → K .normal a' w') :
    (blockOf Tryz.f83 7).wp Tryz.prog K a w := by
  have hgood2 : ∀ a' w' A', Sz 115 a' → KpU [0] (sl a) a' → sl a' 1 = .pointer (some ⟨pa, 0, none⟩) → sl a' 4 = .pointer (some ⟨p, 0, none⟩) → Chn w1 p w1.heap.size A' (l0 ++ fldB fs) w' → fldW [] fs = some (fldB fs) → K .normal a' w' := hgood
  have HG := Lib.hid hgood2
  clear hgood2
  have HB := Lib.hid hbad
  clear hgood hbad
  rw [tcF_of hs]
  simp only [tcF, h1, h4, h37, h38, h39]
  clear h1 h4 h37 h38 h39 hs
  generalize sl a = z at *
  clear a
  conv => arg 2; whnf
  have hlw := wtF_len fs
  have hcw := (hpa.keep hch0.fr (by unfold oneB; omega)).cells
  have hAf : SlR w0 (fun k => w0.heap.size ≤ k) 2 Ao n (fldC fs) := hA.fresh2
  go_wp2_with fail
  go_loopw [39] (fun iv wr => ∃ (i : Nat) (A : Option Addr), i ≤ n ∧ iv = .int .i64 (i : Int) ∧ Chn w1 p w1.heap.size A (l0 ++ fldB (fs.take i)) wr ∧ fldTo fs i) (fun iv _ => n - (intOf iv).toNat)
  case atStart => exact ⟨0, A0, by omega, rfl, by simpa [fldB] using hch0, fun j o h => absurd h (by omega)⟩
  case round =>
    obtain ⟨i, A, hi, rfl, hch, hgood⟩ := hrel
    have hbl : (l0 ++ fldB (fs.take i)).length ≤ 20000000 := by
      have h1 := fldB_len (fs.take i)
      have h2 := wtF_take fs i
      rw [List.length_append]; omega
    by_cases hlt : i < n
    · obtain ⟨o, ho⟩ : ∃ o, fs[i]? = some o := ⟨_, List.getElem?_eq_getElem (by omega)⟩
      have hfr0 : Fr noB w0 wr := hf01.trans' hch.fr (by rintro b hb rfl; omega)
      obtain ⟨ad, rfl, c1, c2⟩ := (hA.keep (hf01.trans' hch.fr (by rintro b hb rfl; omega))).fldAt ho
      have hol := wtF_at fs i o ho
      have hxo := AlS.beside hch 83 #[.string (bs o.name), .string (bs o.value)]
      have hch2 := hch.alloc (.cells #[.string (bs o.name), .string (bs o.value)] 83)
      have hfb2 := Bk.new wr 83 #[.string (bs o.name), .string (bs o.value)]
      have hfr2 := hfr0.alloc (.cells #[.string (bs o.name), .string (bs o.value)] 83)
      have Ho := Lib.hid ho
      have Hgood := Lib.hid hgood
      have Hch2 := Lib.hid hch2
      have Hxo := Lib.hid hxo
      have Hfb2 := Lib.hid hfb2
      have Hfr2 := Lib.hid hfr2
      clear ho hgood hch2 hxo hcw hfb2 hfr2 hfr0
      go_upto_region 15 with fail
      obtain ⟨go, hgo⟩ : ∃ go, wr.heap.size = go := ⟨_, rfl⟩
      rw [hgo] at Hxo Hfb2
      rw [hgo]
      obtain ⟨w4, hw4⟩ : ∃ w4, wr.alloc (.cells #[.string (bs o.name), .string (bs o.value)] 83) = w4 := ⟨_, rfl⟩
      rw [hw4] at Hch2 Hxo Hfb2 Hfr2
      rw [hw4]
      have hch4 := Hch2.out
      have hxo4 := Hxo.out
      have hmb4 := hpa.keep hch4.fr (by unfold oneB; omega)
      have hA4 := (hA.keep Hfr2.out).fldTake (k := i) (by omega)
      have hT4 := hT.none Hfr2.out
      clear hgo hw4 Hch2 Hxo c1 c2 hch
      have hbadP : fldOk (fs.take i) o = false → fldW [] fs = none := fldTo_bad Ho.out
      have HbadP := Lib.hid hbadP
      clear hbadP
      refine wp_at (c := regionOf Tryz.f83 15) (by kernel_rfl) (tfR15 go pa n i cap op bk (some ad) tx dt (fs.take i) o _ _ _ ⟨rfl, rfl⟩ rfl rfl rfl hT4 (by omega) (by omega) hlt hnc (by omega) hA4 Hfb2.out hmb4 ?_)
      intro a15 w15 hs15 kp15 e70 hf15
      have hfr15 := Hfr2.out.none hf15
      have hch15 := hch4.quiet hf15
      have hx15 := hxo4.quiet hf15
      clear hch4 hxo4 hmb4 hA4 hT4 Hfr2 hf15 Hfb2
      rw [kp15.eq_put (n := 115) [44, 45, 46, 47, 48, 49, 50, 51, 52, 53, 54, 55, 56, 57, 58, 59, 60, 61, 62, 63, 64, 65, 66, 67, 68, 69, 70] ⟨rfl, rfl⟩ hs15 (by decide) (by decide)]
      simp only [List.foldl, Act.put, List.setIfInBounds_toArray, List.set_cons_succ, List.set_cons_zero, e70]
      generalize sl a15 = z15
      clear e70 kp15 hs15
      rcases hok : fldOk (fs.take i) o with _ | _
      · have Hno := Lib.hid (HbadP.out hok)
        clear hok HbadP
        go_wp2_with fail
        exact HB.out _ _ ⟨rfl, rfl⟩ rfl rfl hfr15 Hno.out
      · have Hg1 : Hid (fldTo fs (i + 1)) := Lib.hid (fldTo_succ Hgood.out Ho.out hok)
        clear hok HbadP hfr15
        go_upto_region 17 with fail
        refine wp_at (c := regionOf Tryz.f83 17) (by kernel_rfl) (tcR17 go o.name o.value w1 p w1.heap.size A _ _ _ _ ⟨rfl, rfl⟩ rfl rfl (by omega) (by omega) hx15 hch15 (by omega) ?_)
        intro a17 w17 A17 hs17 kp17 hch17 hx17
        rw [kp17.eq_put (n := 115) [71, 72, 73, 74, 75, 76, 77] ⟨rfl, rfl⟩ hs17 (by decide) (by decide)]
        simp only [List.foldl, Act.put, List.setIfInBounds_toArray, List.set_cons_succ, List.set_cons_zero]
        generalize sl a17 = z17
        clear kp17 hs17
        go_wp2_with fail
        refine ⟨⟨i + 1, A17, by omega, by rw [Int.natCast_add]; rfl, ?_, Hg1.out⟩, by simp only [intOf]; omega⟩
        rw [fldB_succ Ho.out, ← List.append_assoc]
        simpa using hch17
    · obtain rfl : i = n := by omega
      rw [List.take_of_length_le (by omega)] at hch hbl
      have hg := fldTo_all (by rw [hn]; exact hgood)
      have Hg := Lib.hid hg
      clear hg hgood
      go_wp2_with fail
      exact HG.out _ _ A ⟨rfl, rfl⟩ (KpU.cons rfl (KpU.nil _ _)) rfl rfl hch Hg.out
end Go.Proofs.YtcbkaiakdhiloabGreatDoor
namespace Go.Proofs.YtcbkaiakdhiloabGreatDoor
open Go.RowKit Go.Proofs
attribute [local go_sem] bs_size bs_append bs_extract bs_toList

theorem index_zero : ∀ l : List UInt8, decide (0 ≤ Lib.indexByte l 0) = l.contains 0 := by
  intro l
  induction l with
  | nil => rfl
  | cons c r ih =>
    have hge := Lib.indexByte_ge r 0
    rw [List.contains_cons, ← ih]
    have e : Lib.indexByte (c :: r) 0 = if c == 0 then 0 else if Lib.indexByte r 0 == -1 then -1 else Lib.indexByte r 0 + 1 := rfl
    rw [e]
    by_cases h : c = 0
    · subst h; simp
    · have h1 : (c == 0) = false := by simpa using h
      have h2 : ((0 : UInt8) == c) = false := by rw [beq_eq_false_iff_ne]; exact fun x => h x.symm
      rw [h1, h2]
      by_cases h3 : Lib.indexByte r 0 = -1
      · simp [h3]
      · have h4 : (Lib.indexByte r 0 == -1) = false := by simpa using h3
        rw [h4]; simp; omega
theorem bs_zero1 : (⟨#[0]⟩ : ByteArray) = bs [0] := rfl
theorem tfContains (l : List UInt8) (w : World) : Calls Tryz.prog 124 #[.string (bs l), .string ⟨#[0]⟩] w fun e w' => e = .returned (.bool (l.contains 0)) ∧ w' = w :=
  (Tryz.strings_Contains_one (bs l) 0 w).mono fun e w' h => by rw [bs_list] at h; rw [index_zero] at h; exact h
theorem big2_int (n : Nat) : bigs 2 [(n : Int)] = big 2 n := by simp [bigs]


set_option maxRecDepth 20000 in
set_option maxHeartbeats 4000000 in
theorem tftpWrite (op bk : Nat) (tx dt : List UInt8) (fs : List FldD) (Ao : Option Addr) (cap : Nat) (w : World)
    (hop : op < 65536) (hbk : bk < 65536) (hA : SlR w noB 2 Ao fs.length (fldC fs)) (hnc : fs.length ≤ cap) (hwt : wtF fs ≤ 1048576) (htx : tx.length ≤ 1048576) (hdt : dt.length ≤ 1048576) (hT : Tabs w) :
    Calls Tryz.prog 83 #[.agg #[.int .u16 (op : Int), .int .u16 (bk : Int), .string (bs tx), .string (bs dt), .slice Ao fs.length cap]] w (strPost (wrTFTP ⟨op, bk, tx, dt, fs⟩) w) := by
  have hpa := (Bk.new w 81 #[.int .u16 (op : Int), .int .u16 (bk : Int), .string (bs tx), .string (bs dt), .slice Ao fs.length cap]).alloc (.cells #[.slice none 0 0] 125)
  have hbw := Bk.new (w.alloc (.cells #[.int .u16 (op : Int), .int .u16 (bk : Int), .string (bs tx), .string (bs dt), .slice Ao fs.length cap] 81)) 125 #[.slice none 0 0]
  rw [show (w.alloc (.cells #[.int .u16 (op : Int), .int .u16 (bk : Int), .string (bs tx), .string (bs dt), .slice Ao fs.length cap] 81)).heap.size = w.heap.size + 1 by simp] at hbw
  obtain ⟨n, hn⟩ : ∃ n, fs.length = n := ⟨_, rfl⟩
  rw [hn] at hA hpa hbw hnc ⊢
  obtain ⟨r, hr⟩ : ∃ r, wrTFTP ⟨op, bk, tx, dt, fs⟩ = r := ⟨_, rfl⟩
  rw [hr]
  have Hr := Lib.hid hr
  have hlw := wtF_len fs
  clear hr
  go_enter Tryz.func83, Tryz.ntmps83
  go_upto_region 2 with fail
  have hf0 : Fr noB w ((w.alloc (.cells #[.int .u16 (op : Int), .int .u16 (bk : Int), .string (bs tx), .string (bs dt), .slice Ao n cap] 81)).alloc (.cells #[.slice none 0 0] 125)) := ((Fr.refl _ _).alloc _).alloc _
  have hsz : ((w.alloc (.cells #[.int .u16 (op : Int), .int .u16 (bk : Int), .string (bs tx), .string (bs dt), .slice Ao n cap] 81)).alloc (.cells #[.slice none 0 0] 125)).heap.size = w.heap.size + 2 := by simp
  generalize (w.alloc (.cells #[.int .u16 (op : Int), .int .u16 (bk : Int), .string (bs tx), .string (bs dt), .slice Ao n cap] 81)).alloc (.cells #[.slice none 0 0] 125) = w1 at *
  have hwr0 := Chn.start0 (Wr.zero hbw) rfl
  refine wp_at (c := regionOf Tryz.f83 2) (by kernel_rfl) (tcR2 w.heap.size op bk n cap Ao tx dt w1 (w.heap.size + 1) w1.heap.size none [] _ _ _ ⟨rfl, rfl⟩ rfl rfl hpa (by omega) hop hbk (by omega) (by omega) hwr0 (by simp) ?_)
  intro a5 w5 A5 hs5 kp5 hch5
  rw [List.nil_append, big2_int] at hch5
  have Hsz := Lib.hid hsz
  clear hsz hwr0 hbw
  rw [kp5.eq_put (n := 115) [10, 11, 12, 13, 14] ⟨rfl, rfl⟩ hs5 (by decide) (by decide)]
  simp only [List.foldl, Act.put, List.setIfInBounds_toArray, List.set_cons_succ, List.set_cons_zero]
  generalize sl a5 = z
  clear kp5 hs5
  have hc5 := (hpa.keep hch5.fr (by unfold oneB; omega)).cells
  generalize Value.agg #[.int .u16 (op : Int), .int .u16 (bk : Int), .string (bs tx), .string (bs dt), .slice Ao n cap] = v0
  go_upto_block 0 with fail
  go_cut [2, 3] from 5 (fun s2 s3 wx => ∃ A l, Chn w1 (w.heap.size + 1) w1.heap.size A l wx ∧ r = capT l ∧ l.length ≤ 40000000)
  case first =>
    have hcon := tfContains tx
    have hasc := fun w => tftpAscii tx w (by omega)
    have Hasc := Lib.hid hasc
    have Hcon := Lib.hid hcon
    clear hasc hcon
    have hfr5 : Fr noB w w5 := hf0.trans' hch5.fr (by rintro b hb rfl; omega)
    by_cases h1 : op = 1
    · have hi1 : (op : Int) = 1 := by omega
      have H1 := Lib.hid h1
      clear h1
      rcases hw : wordB tx with _ | _
      · have Hres : Hid (r = ([], 2)) := Lib.hid (by rw [← Hr.out]; simp [wrTFTP, H1.out, hw])
        have Hw := Lib.hid hw
        clear hw
        go_wp2_with (go_at_call 121; refine (Hasc.out _).mono ?_; rintro e w6 ⟨rfl, rfl⟩; rw [Hw.out])
        go_ret2
        exact ⟨by rw [Hres.out]; rfl, hfr5⟩
      · have Hw := Lib.hid hw
        clear hw
        go_upto_region 11 with (go_at_call 121; refine (Hasc.out _).mono ?_; rintro e w6 ⟨rfl, rfl⟩; rw [Hw.out])
        refine wp_at (c := regionOf Tryz.f83 11) (by kernel_rfl) (tcR11 w.heap.size op bk n cap Ao tx dt w1 (w.heap.size + 1) w1.heap.size A5 (big 2 op) _ _ _ ⟨rfl, rfl⟩ rfl rfl hpa (by omega) hop hbk (by omega) (by omega) hch5 (by rw [big_length]; omega) ?_)
        intro a11 w11 A11 hs11 kp11 hch11
        rw [kp11.eq_put (n := 115) [31, 32, 33, 34, 35] ⟨rfl, rfl⟩ hs11 (by decide) (by decide)]
        simp only [List.foldl, Act.put, List.setIfInBounds_toArray, List.set_cons_succ, List.set_cons_zero]
        generalize sl a11 = z11
        clear kp11 hs11
        have hc11 := (hpa.keep hch11.fr (by unfold oneB; omega)).cells
        go_upto_block 7 with fail
        refine wp_at (c := blockOf Tryz.f83 7) (by kernel_rfl) (tfLoop w.heap.size op bk n cap Ao tx dt fs w w1 (w.heap.size + 1) A11 (big 2 op ++ List.flatten [tx, [0, 111, 99, 116, 101, 116, 0]]) _ _ _ ⟨rfl, rfl⟩ rfl rfl rfl rfl rfl hpa (by omega) hop hbk (by omega) (by omega) hn hnc hA hf0 (by omega) hT hwt hch11 (by simp [big_length]; try omega) ?_ ?_)
        · intro a' w' s' e2 e3 hf' hno
          refine bodyPost_ret (results_tmp2 rfl _ _ _) s'.defers ?_
          have e2' : a'.tmps.getD 2 undef = _ := e2
          have e3' : a'.tmps.getD 3 undef = _ := e3
          rw [e2', e3']
          exact ⟨by rw [show r = ([], 2) from by rw [← Hr.out]; (unfold wrTFTP; rw [if_pos H1.out, if_pos Hw.out]); rw [hno]]; rfl, hf'⟩
        · intro a' w' A' s' kp' e1 e4 hch' hyes
          rw [tcF_of s']
          simp only [tcF, e1, e4, kp' 0 (by decide)]
          generalize sl a' = z'
          have Hyes := Lib.hid hyes
          clear hyes kp' s' e1 e4
          have hfl := fldB_len fs
          go_wp2_with fail
          go_meet
          case rel => exact ⟨A', _, hch', by rw [← Hr.out]; (unfold wrTFTP; rw [if_pos H1.out, if_pos Hw.out]); rw [Hyes.out]; simp, by simp [big_length]; omega⟩
    have j1 : ((op : Int) == 1) = false := by rw [beq_eq_false_iff_ne]; omega
    have H1 := Lib.hid h1
    clear h1
    by_cases h6 : op = 6
    · have hi6 : (op : Int) = 6 := by omega
      have H6 := Lib.hid h6
      clear h6 j1
      go_upto_block 7 with fail
      refine wp_at (c := blockOf Tryz.f83 7) (by kernel_rfl) (tfLoop w.heap.size op bk n cap Ao tx dt fs w w1 (w.heap.size + 1) A5 (big 2 op) _ _ _ ⟨rfl, rfl⟩ rfl rfl rfl rfl rfl hpa (by omega) hop hbk (by omega) (by omega) hn hnc hA hf0 (by omega) hT hwt hch5 (by simp [big_length]; try omega) ?_ ?_)
      · intro a' w' s' e2 e3 hf' hno
        refine bodyPost_ret (results_tmp2 rfl _ _ _) s'.defers ?_
        have e2' : a'.tmps.getD 2 undef = _ := e2
        have e3' : a'.tmps.getD 3 undef = _ := e3
        rw [e2', e3']
        exact ⟨by rw [show r = ([], 2) from by rw [← Hr.out]; (unfold wrTFTP; rw [if_neg H1.out, if_pos H6.out]); rw [hno]]; rfl, hf'⟩
      · intro a' w' A' s' kp' e1 e4 hch' hyes
        rw [tcF_of s']
        simp only [tcF, e1, e4, kp' 0 (by decide)]
        generalize sl a' = z'
        have Hyes := Lib.hid hyes
        clear hyes kp' s' e1 e4
        have hfl := fldB_len fs
        go_wp2_with fail
        go_meet
        case rel => exact ⟨A', _, hch', by rw [← Hr.out]; (unfold wrTFTP; rw [if_neg H1.out, if_pos H6.out]); rw [Hyes.out], by simp [big_length]; omega⟩
    have j6 : ((op : Int) == 6) = false := by rw [beq_eq_false_iff_ne]; omega
    have H6 := Lib.hid h6
    clear h6
    by_cases h3 : op = 3
    · have hi3 : (op : Int) = 3 := by omega
      have H3 := Lib.hid h3
      clear h3 j1 j6
      go_upto_region 19 with fail
      refine wp_at (c := regionOf Tryz.f83 19) (by kernel_rfl) (tcR19 w.heap.size op bk n cap Ao tx dt w1 (w.heap.size + 1) w1.heap.size A5 (big 2 op) _ _ _ ⟨rfl, rfl⟩ rfl rfl hpa (by omega) hop hbk (by omega) (by omega) hch5 (by rw [big_length]; omega) ?_)
      intro a19 w19 A19 hs19 kp19 hch19
      rw [kp19.eq_put (n := 115) [79, 80, 81, 82, 83, 84, 85, 86, 87] ⟨rfl, rfl⟩ hs19 (by decide) (by decide)]
      simp only [List.foldl, Act.put, List.setIfInBounds_toArray, List.set_cons_succ, List.set_cons_zero]
      generalize sl a19 = z19
      clear kp19 hs19
      have hc19 := (hpa.keep hch19.fr (by unfold oneB; omega)).cells
      have hfr19 : Fr noB w w19 := hf0.trans' hch19.fr (by rintro b hb rfl; omega)
      by_cases hlen : 1024 < dt.length
      · have hli : (1024 : Int) < (dt.length : Int) := by omega
        have Hres : Hid (r = ([], 7)) := Lib.hid (by rw [← Hr.out]; unfold wrTFTP; rw [if_neg H1.out, if_neg H6.out, if_pos H3.out, if_pos hlen])
        clear hlen
        go_wp2_with fail
        go_ret2
        exact ⟨by rw [Hres.out]; rfl, hfr19⟩
      · have hli : ¬ (1024 : Int) < (dt.length : Int) := by omega
        have Hres : Hid (r = capT (big 2 op ++ big 2 bk ++ dt)) := Lib.hid (by rw [← Hr.out]; unfold wrTFTP; rw [if_neg H1.out, if_neg H6.out, if_pos H3.out, if_neg hlen])
        go_wp2_with fail
        go_meet
        case rel => exact ⟨A19, _, hch19, by rw [Hres.out, big2_int]; simp, by simp [big2_int, big_length]; omega⟩
    have j3 : ((op : Int) == 3) = false := by rw [beq_eq_false_iff_ne]; omega
    have H3 := Lib.hid h3
    clear h3
    by_cases h4 : op = 4
    · have hi4 : (op : Int) = 4 := by omega
      have H4 := Lib.hid h4
      clear h4 j1 j6 j3
      go_upto_region 22 with fail
      refine wp_at (c := regionOf Tryz.f83 22) (by kernel_rfl) (tcR22 w.heap.size op bk n cap Ao tx dt w1 (w.heap.size + 1) w1.heap.size A5 (big 2 op) _ _ _ ⟨rfl, rfl⟩ rfl rfl hpa (by omega) hop hbk (by omega) (by omega) hch5 (by rw [big_length]; omega) ?_)
      intro a22 w22 A22 hs22 kp22 hch22
      rw [kp22.eq_put (n := 115) [92, 93, 94, 95, 96] ⟨rfl, rfl⟩ hs22 (by decide) (by decide)]
      simp only [List.foldl, Act.put, List.setIfInBounds_toArray, List.set_cons_succ, List.set_cons_zero]
      generalize sl a22 = z22
      clear kp22 hs22
      go_wp2_with fail
      go_meet
      case rel => exact ⟨A22, _, hch22, by rw [← Hr.out]; unfold wrTFTP; rw [if_neg H1.out, if_neg H6.out, if_neg H3.out, if_pos H4.out, big2_int], by simp [big2_int, big_length]⟩
    have j4 : ((op : Int) == 4) = false := by rw [beq_eq_false_iff_ne]; omega
    have H4 := Lib.hid h4
    clear h4
    by_cases h5 : op = 5
    · have hi5 : (op : Int) = 5 := by omega
      have H5 := Lib.hid h5
      clear h5 j1 j6 j3 j4
      rcases hw : tx.contains 0 with _ | _
      · have Hw := Lib.hid hw
        clear hw
        go_upto_region 25 with (go_at_call 124; refine (Hcon.out _).mono ?_; rintro e w6 ⟨rfl, rfl⟩; rw [Hw.out])
        refine wp_at (c := regionOf Tryz.f83 25) (by kernel_rfl) (tcR25 w.heap.size op bk n cap Ao tx dt w1 (w.heap.size + 1) w1.heap.size A5 (big 2 op) _ _ _ ⟨rfl, rfl⟩ rfl rfl hpa (by omega) hop hbk (by omega) (by omega) hch5 (by rw [big_length]; omega) ?_)
        intro a25 w25 A25 hs25 kp25 hch25
        rw [kp25.eq_put (n := 115) [100, 101, 102, 103, 104, 105, 106, 107, 108] ⟨rfl, rfl⟩ hs25 (by decide) (by decide)]
        simp only [List.foldl, Act.put, List.setIfInBounds_toArray, List.set_cons_succ, List.set_cons_zero]
        generalize sl a25 = z25
        clear kp25 hs25
        go_wp2_with fail
        go_meet
        case rel => exact ⟨A25, _, hch25, by rw [← Hr.out]; unfold wrTFTP; rw [if_neg H1.out, if_neg H6.out, if_neg H3.out, if_neg H4.out, if_pos H5.out, Hw.out, big2_int]; simp, by simp [big2_int, big_length]; omega⟩
      · have Hw := Lib.hid hw
        clear hw
        have Hres : Hid (r = ([], 2)) := Lib.hid (by rw [← Hr.out]; unfold wrTFTP; rw [if_neg H1.out, if_neg H6.out, if_neg H3.out, if_neg H4.out, if_pos H5.out, Hw.out]; rfl)
        go_wp2_with (go_at_call 124; refine (Hcon.out _).mono ?_; rintro e w6 ⟨rfl, rfl⟩; rw [Hw.out])
        go_ret2
        exact ⟨by rw [Hres.out]; rfl, hfr5⟩
    have j5 : ((op : Int) == 5) = false := by rw [beq_eq_false_iff_ne]; omega
    have Hres : Hid (r = ([], 2)) := Lib.hid (by rw [← Hr.out]; unfold wrTFTP; rw [if_neg H1.out, if_neg H6.out, if_neg H3.out, if_neg H4.out, if_neg h5])
    clear h5
    go_wp2_with fail
    go_ret2
    exact ⟨by rw [Hres.out]; rfl, hfr5⟩
  case rest =>
    obtain ⟨A7, l7, hch7, hr7, hl7⟩ := hcut
    have hfr7 : Fr noB w wc := hf0.trans' hch7.fr (by rintro b hb rfl; omega)
    have Hr7 := Lib.hid hr7
    clear hr7
    have hst := fun w6 (h : Wr w6 (w.heap.size + 1) A7 l7) => wString (w.heap.size + 1) A7 l7 w6 h
    have hwr7 := hch7.wr
    by_cases hlen : 1472 < l7.length
    · have hli : (1472 : Int) < (l7.length : Int) := by omega
      have Hres : Hid (r = ([], 7)) := Lib.hid (by rw [Hr7.out]; unfold capT; rw [if_pos hlen])
      clear hlen
      go_wp2_with (go_at_call 59; refine (wString (w.heap.size + 1) A7 l7 _ hwr7).mono ?_; rintro e w6 ⟨rfl, rfl⟩)
      go_ret2
      exact ⟨by rw [Hres.out]; rfl, hfr7⟩
    · have hli : ¬ (1472 : Int) < (l7.length : Int) := by omega
      have Hres : Hid (r = (l7, 0)) := Lib.hid (by rw [Hr7.out]; unfold capT; rw [if_neg hlen])
      clear hlen
      go_wp2_with (go_at_call 59; refine (wString (w.heap.size + 1) A7 l7 _ hwr7).mono ?_; rintro e w6 ⟨rfl, rfl⟩)
      go_ret2
      exact ⟨by rw [Hres.out]; rfl, hfr7⟩
end Go.Proofs.YtcbkaiakdhiloabGreatDoor
namespace Go.Proofs.YtcbkaiakdhiloabGreatDoor
open Go.RowKit Go.Proofs
attribute [local go_sem] bs_size bs_append bs_extract bs_toList

theorem keepU {w0 wa wb : World} {p : Nat} {cs : Array Value} (hp : p < w0.heap.size) (h : (∀ j, wa.cell? ⟨p, j, none⟩ = cs[j]?) ∧ Fr noB w0 wa) (hf : Fr noB wa wb) :
    (∀ j, wb.cell? ⟨p, j, none⟩ = cs[j]?) ∧ Fr noB w0 wb :=
  ⟨fun j => (hf.cell (a := ⟨p, j, none⟩) (Nat.lt_of_lt_of_le hp h.2.size) (fun x => x)).trans (h.1 j), h.2.none hf⟩
theorem keepV {w0 wa wb : World} {p q : Nat} {cs ds : Array Value} (hp : p < w0.heap.size) (hq : q < w0.heap.size) (h : (∀ j, wa.cell? ⟨p, j, none⟩ = cs[j]?) ∧ (∀ j, wa.cell? ⟨q, j, none⟩ = ds[j]?) ∧ Fr noB w0 wa) (hf : Fr noB wa wb) :
    (∀ j, wb.cell? ⟨p, j, none⟩ = cs[j]?) ∧ (∀ j, wb.cell? ⟨q, j, none⟩ = ds[j]?) ∧ Fr noB w0 wb :=
  ⟨fun j => (hf.cell (a := ⟨p, j, none⟩) (Nat.lt_of_lt_of_le hp h.2.2.size) (fun x => x)).trans (h.1 j), fun j => (hf.cell (a := ⟨q, j, none⟩) (Nat.lt_of_lt_of_le hq h.2.2.size) (fun x => x)).trans (h.2.1 j), h.2.2.none hf⟩
theorem own_slrT {w : World} {base : Nat} {e : TypeId} {A : Option Addr} {n cap : Nat} {xs : List Value} (h : w.ownsRow base e 2 (.slice A n cap) n xs) : SlR w noB 2 A n xs := by
  refine ⟨h.1, fun hn => ?_⟩
  rcases h.2 with ⟨hv, hx⟩ | ⟨g, c, cur, hv, _⟩
  · have h1 := h.1; rw [hx] at h1; simp at h1; omega
  · injection hv with hA
    subst hA
    have hc := h.cells (g := g) rfl
    refine ⟨_, rfl, ?_, fun x => x, hc⟩
    obtain ⟨u, hu⟩ : ∃ u, xs[0]? = some u := ⟨_, List.getElem?_eq_getElem (by have := h.1; omega)⟩
    have := cell_ltP (hc 0 u hu)
    simpa [Addr.add] using this

set_option maxRecDepth 20000 in
set_option maxHeartbeats 1000000 in
theorem bootWriteTFTP (op bk : Nat) (tx dt : List UInt8) (fs : List FldD) (Ao : Option Addr) (cap : Nat) (w : World)
    (hop : op < 65536) (hbk : bk < 65536) (hA : SlR w noB 2 Ao fs.length (fldC fs)) (hnc : fs.length ≤ cap) (hwt : wtF fs ≤ 1048576) (htx : tx.length ≤ 1048576) (hdt : dt.length ≤ 1048576) (hT : Tabs w) :
    Calls Tryz.prog 36 #[.agg #[.int .u16 (op : Int), .int .u16 (bk : Int), .string (bs tx), .string (bs dt), .slice Ao fs.length cap]] w (strPost (wrTFTP ⟨op, bk, tx, dt, fs⟩) w) := by
  have hpa := (Bk.new w 81 #[.int .u16 (op : Int), .int .u16 (bk : Int), .string (bs tx), .string (bs dt), .slice Ao fs.length cap]).cells
  have hf0 : Fr noB w (w.alloc (.cells #[.int .u16 (op : Int), .int .u16 (bk : Int), .string (bs tx), .string (bs dt), .slice Ao fs.length cap] 81)) := (Fr.refl _ _).alloc _
  have hA1 := hA.keep hf0
  have hT1 := hT.none hf0
  go_enter Tryz.func36, Tryz.ntmps36
  go_wp2_with fail
  refine (tftpWrite op bk tx dt fs Ao cap _ hop hbk hA1 hnc hwt htx hdt hT1).mono ?_
  rintro e w2 ⟨rfl, hf2⟩
  generalize wrTFTP ⟨op, bk, tx, dt, fs⟩ = R at *
  go_wp2_with fail
  go_ret2
  exact ⟨rfl, hf0.none hf2⟩
end Go.Proofs.YtcbkaiakdhiloabGreatDoor
