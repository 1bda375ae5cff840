/- tftp.Write's loop over fields. -/
import Derived.Test.YtcbkaiakdhiloabDoorTfC
import Derived.Test.YtcbkaiakdhiloabDoorTfW
import Derived.Test.YtcbkaiakdhiloabDoorTftW
import Derived.Deep.Cut
import Derived.Deep.CutRange
set_option linter.unusedSimpArgs false
set_option linter.unusedVariables false
namespace Go.Proofs.YtcbkaiakdhiloabDoor
open Go.RowKit Go.Proofs
attribute [local go_sem] bs_size bs_append bs_extract bs_toList

theorem asc_word {l : List UInt8} (h : wordB l = true) : asc l := by
  intro b hb
  unfold wordB at h
  simp only [Bool.and_eq_true, List.all_eq_true] at h
  have h1 := h.1 b hb
  unfold chrOk at h1
  simp at h1
  omega
theorem SlR.fresh2 {w : World} {S : Nat → Prop} {size n : Nat} {A : Option Addr} {xs : List Value} (h : SlR w S size A n xs) : SlR w (fun k => w.heap.size ≤ k) size A n xs :=
  ⟨h.1, fun hn => by
    obtain ⟨ad, e, hb, hS, hc⟩ := h.2 hn
    exact ⟨ad, e, hb, fun x => by omega, hc⟩⟩
/-- the field test: one theorem -/
theorem tfR15 (g gm n k cap op bk : Nat) (A : Option Addr) (tx dt : List UInt8) (b4 : List FldD) (o : FldD) (a : Act) (w : World) (K : Exit → Act → World → Prop) (hs : Sz 115 a)
    (h1 : sl a 1 = .pointer (some ⟨gm, 0, none⟩)) (h5 : sl a 5 = .int .i64 (k : Int)) (h6 : sl a 6 = .pointer (some ⟨g, 0, none⟩)) (hT : Tabs w) (hnl : o.name.length ≤ 1099511627) (hvl : o.value.length ≤ 1099511627) (hkn : k < n) (hnc : n ≤ cap) (hnn : n ≤ 4611686018427387904) (hA : SlR w noB 2 A k (fldC b4)) (hfb : Bk w g 66 #[.string (bs o.name), .string (bs o.value)]) (hmb : Bk w gm 47 #[.int .u16 (op : Int), .int .u16 (bk : Int), .string (bs tx), .string (bs dt), .slice A n cap])
    (hK : ∀ a' w', Sz 115 a' → Kp [0, 1, 2, 3, 4, 5, 6, 7, 8, 9, 10, 11, 12, 13, 14, 15, 16, 17, 18, 19, 20, 21, 22, 23, 24, 25, 26, 27, 28, 29, 30, 31, 32, 33, 34, 35, 36, 37, 38, 39, 40, 41, 42, 43, 71, 72, 73, 74, 75, 76, 77, 78, 79, 80, 81, 82, 83, 84, 85, 86, 87, 88, 89, 90, 91, 92, 93, 94, 95, 96, 97, 98, 99, 100, 101, 102, 103, 104, 105, 106, 107, 108, 109, 110, 111, 112, 113, 114] a a' → sl a' 70 = .bool (!fldOk b4 o) → Fr noB w w' → K .normal a' w') :
    (regionOf Tryd.f32 15).wp Tryd.prog K a w := by
  rcases ha : wordB o.name with _ | _
  · exact tfR15a g gm n k cap op bk A tx dt b4 o.name o.value a w K hs h1 h5 h6 hT hnl hvl hkn hnc hnn ha hA hfb hmb fun a' w' s kp e f => hK a' w' s kp (by rw [e]; simp [fldOk, ha]) f
  rcases hv : wordB o.value with _ | _
  · exact tfR15b g gm n k cap op bk A tx dt b4 o.name o.value a w K hs h1 h5 h6 hT hnl hvl hkn hnc hnn ha hv hA hfb hmb fun a' w' s kp e f => hK a' w' s kp (by rw [e]; simp [fldOk, hv]) f
  have hl := lowD_asc o.name (asc_word ha)
  rcases h0 : (o.name == lowD o.name) with _ | _
  · exact tfR15c g gm n k cap op bk A tx dt b4 o.name o.value a w K hs h1 h5 h6 hT hnl hvl hkn hnc hnn ha hv h0 hA hfb hmb fun a' w' s kp e f => hK a' w' s kp (by rw [e]; rw [hl] at h0; simp [fldOk, h0]) f
  rcases hn : named b4 o.name with _ | _
  · exact tfR15e g gm n k cap op bk A tx dt b4 o.name o.value a w K hs h1 h5 h6 hT hnl hvl hkn hnc hnn ha hv h0 hn hA hfb hmb fun a' w' s kp e f => hK a' w' s kp (by rw [e]; rw [hl] at h0; simp only [fldOk, ha, hv, h0, hn]; rfl) f
  · exact tfR15d g gm n k cap op bk A tx dt b4 o.name o.value a w K hs h1 h5 h6 hT hnl hvl hkn hnc hnn ha hv h0 hn hA hfb hmb fun a' w' s kp e f => hK a' w' s kp (by rw [e]; simp [fldOk, hn]) f

set_option maxRecDepth 20000 in
set_option maxHeartbeats 4000000 in
theorem tfLoop (pa op bk n cap : Nat) (Ao : Option Addr) (tx dt : List UInt8) (fs : List FldD) (w0 w1 : World) (p : Nat) (A0 : Option Addr) (l0 : List UInt8) (a : Act) (w : World) (K : Exit → Act → World → Prop) (hs : Sz 115 a)
    (h1 : sl a 1 = .pointer (some ⟨pa, 0, none⟩)) (h4 : sl a 4 = .pointer (some ⟨p, 0, none⟩)) (h37 : sl a 37 = .slice Ao n cap) (h38 : sl a 38 = .int .i64 (n : Int)) (h39 : sl a 39 = .int .i64 0)
    (hpa : Bk w1 pa 47 #[.int .u16 (op : Int), .int .u16 (bk : Int), .string (bs tx), .string (bs dt), .slice Ao n cap]) (hpn : pa ≠ p) (hop : op < 65536) (hbk : bk < 65536) (htx : tx.length ≤ 1099511) (hdt : dt.length ≤ 1099511)
    (hn : fs.length = n) (hnc : n ≤ cap) (hA : SlR w0 noB 2 Ao n (fldC fs)) (hf01 : Fr noB w0 w1) (hp0 : w0.heap.size ≤ p) (hT : Tabs w0) (hwt : wtF fs ≤ 1048576) (hch0 : Chn w1 p w1.heap.size A0 l0 w) (N00 : l0.length ≤ 3000000)
    (hbad : ∀ a' w', Sz 115 a' → sl a' 2 = .string ⟨#[]⟩ → sl a' 3 = .int .i64 2 → Fr noB w0 w' → fldW [] fs = none → K .ret a' w')
    (hgood : ∀ a' w' A', Sz 115 a' → Kp [0] a a' → sl a' 1 = .pointer (some ⟨pa, 0, none⟩) → sl a' 4 = .pointer (some ⟨p, 0, none⟩) → Chn w1 p w1.heap.size A' (l0 ++ fldB fs) w' → fldW [] fs = some (fldB fs) → K .normal a' w') :
    (blockOf Tryd.f32 7).wp Tryd.prog K a w := by
  have hgood2 : ∀ a' w' A', Sz 115 a' → KpU [0] (sl a) a' → sl a' 1 = .pointer (some ⟨pa, 0, none⟩) → sl a' 4 = .pointer (some ⟨p, 0, none⟩) → Chn w1 p w1.heap.size A' (l0 ++ fldB fs) w' → fldW [] fs = some (fldB fs) → K .normal a' w' := hgood
  have HG := Lib.hid hgood2
  clear hgood2
  have HB := Lib.hid hbad
  clear hgood hbad
  rw [tcF_of hs]
  simp only [tcF, h1, h4, h37, h38, h39]
  clear h1 h4 h37 h38 h39 hs
  generalize sl a = z at *
  clear a
  conv => arg 2; whnf
  have hlw := wtF_len fs
  have hcw := (hpa.keep hch0.fr (by unfold oneB; omega)).cells
  have hAf : SlR w0 (fun k => w0.heap.size ≤ k) 2 Ao n (fldC fs) := hA.fresh2
  go_wp2_with fail
  go_loopw [39] (fun iv wr => ∃ (i : Nat) (A : Option Addr), i ≤ n ∧ iv = .int .i64 (i : Int) ∧ Chn w1 p w1.heap.size A (l0 ++ fldB (fs.take i)) wr ∧ fldTo fs i) (fun iv _ => n - (intOf iv).toNat)
  case atStart => exact ⟨0, A0, by omega, rfl, by simpa [fldB] using hch0, fun j o h => absurd h (by omega)⟩
  case round =>
    obtain ⟨i, A, hi, rfl, hch, hgood⟩ := hrel
    have hbl : (l0 ++ fldB (fs.take i)).length ≤ 20000000 := by
      have h1 := fldB_len (fs.take i)
      have h2 := wtF_take fs i
      rw [List.length_append]; omega
    by_cases hlt : i < n
    · obtain ⟨o, ho⟩ : ∃ o, fs[i]? = some o := ⟨_, List.getElem?_eq_getElem (by omega)⟩
      have hfr0 : Fr noB w0 wr := hf01.trans' hch.fr (by rintro b hb rfl; omega)
      obtain ⟨ad, rfl, c1, c2⟩ := (hA.keep (hf01.trans' hch.fr (by rintro b hb rfl; omega))).fldAt ho
      have hol := wtF_at fs i o ho
      have hxo := AlS.beside hch 66 #[.string (bs o.name), .string (bs o.value)]
      have hch2 := hch.alloc (.cells #[.string (bs o.name), .string (bs o.value)] 66)
      have hfb2 := Bk.new wr 66 #[.string (bs o.name), .string (bs o.value)]
      have hfr2 := hfr0.alloc (.cells #[.string (bs o.name), .string (bs o.value)] 66)
      have Ho := Lib.hid ho
      have Hgood := Lib.hid hgood
      have Hch2 := Lib.hid hch2
      have Hxo := Lib.hid hxo
      have Hfb2 := Lib.hid hfb2
      have Hfr2 := Lib.hid hfr2
      clear ho hgood hch2 hxo hcw hfb2 hfr2 hfr0
      go_upto_region 15 with fail
      obtain ⟨go, hgo⟩ : ∃ go, wr.heap.size = go := ⟨_, rfl⟩
      rw [hgo] at Hxo Hfb2
      rw [hgo]
      obtain ⟨w4, hw4⟩ : ∃ w4, wr.alloc (.cells #[.string (bs o.name), .string (bs o.value)] 66) = w4 := ⟨_, rfl⟩
      rw [hw4] at Hch2 Hxo Hfb2 Hfr2
      rw [hw4]
      have hch4 := Hch2.out
      have hxo4 := Hxo.out
      have hmb4 := hpa.keep hch4.fr (by unfold oneB; omega)
      have hA4 := (hA.keep Hfr2.out).fldTake (k := i) (by omega)
      have hT4 := hT.none Hfr2.out
      clear hgo hw4 Hch2 Hxo c1 c2 hch
      have hbadP : fldOk (fs.take i) o = false → fldW [] fs = none := fldTo_bad Ho.out
      have HbadP := Lib.hid hbadP
      clear hbadP
      refine wp_at (c := regionOf Tryd.f32 15) (by kernel_rfl) (tfR15 go pa n i cap op bk (some ad) tx dt (fs.take i) o _ _ _ ⟨rfl, rfl⟩ rfl rfl rfl hT4 (by omega) (by omega) hlt hnc (by omega) hA4 Hfb2.out hmb4 ?_)
      intro a15 w15 hs15 kp15 e70 hf15
      have hfr15 := Hfr2.out.none hf15
      have hch15 := hch4.quiet hf15
      have hx15 := hxo4.quiet hf15
      clear hch4 hxo4 hmb4 hA4 hT4 Hfr2 hf15 Hfb2
      rw [kp15.eq_put (n := 115) [44, 45, 46, 47, 48, 49, 50, 51, 52, 53, 54, 55, 56, 57, 58, 59, 60, 61, 62, 63, 64, 65, 66, 67, 68, 69, 70] ⟨rfl, rfl⟩ hs15 (by decide) (by decide)]
      simp only [List.foldl, Act.put, List.setIfInBounds_toArray, List.set_cons_succ, List.set_cons_zero, e70]
      generalize sl a15 = z15
      clear e70 kp15 hs15
      rcases hok : fldOk (fs.take i) o with _ | _
      · have Hno := Lib.hid (HbadP.out hok)
        clear hok HbadP
        go_wp2_with fail
        exact HB.out _ _ ⟨rfl, rfl⟩ rfl rfl hfr15 Hno.out
      · have Hg1 : Hid (fldTo fs (i + 1)) := Lib.hid (fldTo_succ Hgood.out Ho.out hok)
        clear hok HbadP hfr15
        go_upto_region 17 with fail
        refine wp_at (c := regionOf Tryd.f32 17) (by kernel_rfl) (tcR17 go o.name o.value w1 p w1.heap.size A _ _ _ _ ⟨rfl, rfl⟩ rfl rfl (by omega) (by omega) hx15 hch15 (by omega) ?_)
        intro a17 w17 A17 hs17 kp17 hch17 hx17
        rw [kp17.eq_put (n := 115) [71, 72, 73, 74, 75, 76, 77] ⟨rfl, rfl⟩ hs17 (by decide) (by decide)]
        simp only [List.foldl, Act.put, List.setIfInBounds_toArray, List.set_cons_succ, List.set_cons_zero]
        generalize sl a17 = z17
        clear kp17 hs17
        go_wp2_with fail
        refine ⟨⟨i + 1, A17, by omega, by rw [Int.natCast_add]; rfl, ?_, Hg1.out⟩, by simp only [intOf]; omega⟩
        rw [fldB_succ Ho.out, ← List.append_assoc]
        simpa using hch17
    · obtain rfl : i = n := by omega
      rw [List.take_of_length_le (by omega)] at hch hbl
      have hg := fldTo_all (by rw [hn]; exact hgood)
      have Hg := Lib.hid hg
      clear hg hgood
      go_wp2_with fail
      exact HG.out _ _ A ⟨rfl, rfl⟩ (KpU.cons rfl (KpU.nil _ _)) rfl rfl hch Hg.out
end Go.Proofs.YtcbkaiakdhiloabDoor
