/- The walk of the reference's Sum. -/
import Derived.Test.YtcbkaiakdhiloaaDoorRefS6
set_option linter.unusedSimpArgs false
set_option linter.unusedVariables false
namespace Go.Proofs.YtcbkaiakdhiloaaDoor
open Go.RowKit Go.Proofs
attribute [local go_sem] bs_size bs_append bs_extract

set_option maxRecDepth 20000 in
set_option maxHeartbeats 1000000 in
theorem refSum (l : List UInt8) (w : World) (p gh gk ch ck : Nat) (hl : l.length ≤ 100000000000)
    (hbk : Bk w p tabT #[.slice (some ⟨gh, 0, none⟩) 8 ch, .slice (some ⟨gk, 0, none⟩) 64 ck]) (hRh : RI w gh (wv h0.list)) (hRk : RI w gk (wv kTab)) :
    Calls Tryd.prog 6 #[.pointer (some ⟨p, 0, none⟩), .string (bs l)] w (fun e w' => e = .returned (.string (bs (sha l))) ∧ Fr noB w w') := by
  have hc0 : w.cell? ⟨p, 0, none⟩ = some (.slice (some ⟨gh, 0, none⟩) 8 ch) := by simpa using hbk.cell 0
  have hc1 : w.cell? ⟨p, 1, none⟩ = some (.slice (some ⟨gk, 0, none⟩) 64 ck) := by simpa using hbk.cell 1
  have hln : ¬ 9223372036854775807 < l.length + 1 := by omega
  obtain ⟨s0, hs0⟩ : ∃ s, s = l ++ [128] := ⟨_, rfl⟩
  obtain ⟨nb, hnb⟩ : ∃ n, n = 8 * l.length := ⟨_, rfl⟩
  have hlit : (⟨#[128]⟩ : ByteArray) = bs [128] := rfl
  have hlit0 : (⟨#[0]⟩ : ByteArray) = bs [0] := rfl
  have hs0l : s0.length = l.length + 1 := by rw [hs0]; simp
  have hnbi : (l.length : Int) * 8 = (nb : Int) := by omega
  have hpad : padTo l = s0 ++ List.replicate ((120 - s0.length % 64) % 64) 0 := by rw [hs0l, hs0, padTo]; congr 2; omega
  have Hs0 := Lib.hid hs0
  have Hs0l := Lib.hid hs0l
  have Hnb := Lib.hid hnb
  have Hpad := Lib.hid hpad
  clear hs0 hs0l hnb hpad
  go_enter Tryd.func6, Tryd.ntmps6
  go_wp2_with fail
  rw [← Hs0.out]
  go_loopw [1] (fun sv wr => ∃ s, sv = .string (bs s) ∧ (∃ j, s = s0 ++ List.replicate j 0 ∧ ∀ i, i < j → (s0.length + i) % 64 ≠ 56) ∧ wr = w) (fun sv _ => (120 - strLen sv % 64) % 64)
  case atStart => exact ⟨s0, rfl, ⟨0, by simp, fun i hi => by omega⟩, rfl⟩
  case round =>
    obtain ⟨s, rfl, ⟨j, hj, hmin⟩, hw⟩ := hrel
    subst hw
    obtain ⟨w, rfl⟩ : ∃ z, z = wr := ⟨_, rfl⟩
    have hj63 : j ≤ 63 := by
      rcases Nat.lt_or_ge ((120 - s0.length % 64) % 64) j with h | h
      · exact absurd (by omega) (hmin _ h)
      · omega
    have hsl : s.length = s0.length + j := by rw [hj]; simp
    have hsl2 : s.length ≤ 100000000100 := by have := Hs0l.out; omega
    have hln2 : ¬ 9223372036854775807 < s.length + 1 := by omega
    have Hj := Lib.hid hj
    have Hmin := Lib.hid hmin
    have Hsl := Lib.hid hsl
    clear hj hmin hsl
    by_cases h56 : s.length % 64 = 56
    · have hsp : s = padTo l := by
        rw [Hpad.out, Hj.out]
        exact pad_zero s0 j (by rw [← Hj.out]; exact h56) Hmin.out
      have h56i : (s.length : Int) % 64 = 56 := by omega
      have Hsp := Lib.hid hsp
      clear hsp h56
      go_wp2_with fail
      have hbf : bigF 8 8 nb = [] := rfl
      have hsl3 : s.length ≤ 100000000100 := hsl2
      clear hsl2 hln2 hj63 h56i
      go_loopw [1, 6] (fun sv kv wr => ∃ (j : Nat) (t : List UInt8), j ≤ 8 ∧ kv = .int .i64 ((j : Int) - 1) ∧ t = s ++ bigF 8 j nb ∧ sv = .string (bs t) ∧ Fr noB w wr) (fun _ kv _ => (intOf kv + 1).toNat)
      case atStart => exact ⟨8, s, by omega, rfl, by rw [hbf, List.append_nil], rfl, Fr.refl _ _⟩
      case round =>
        obtain ⟨j, t, hj, rfl, ht, rfl, hfr⟩ := hrel
        rcases Nat.eq_zero_or_pos j with rfl | hj0
        · have htp : t = padded64 l := by rw [ht, Hsp.out, padded64, ← Hnb.out]; simp [bigF]
          have Htp := Lib.hid htp
          have hbw := hbk.keep hfr id
          have hcw : wr.cell? ⟨p, 0, none⟩ = some (.slice (some ⟨gh, 0, none⟩) 8 ch) := by simpa using hbw.cell 0
          clear ht htp
          obtain ⟨v', w3, hap, hO3, hg3, -⟩ := run_app_row wr wr.heap.size gh ch 8 (wv h0.list) (.slice none 0 0) [] (OI.nil _ _) (hRh.keep hfr id) rfl (Nat.le_refl _) (by decide)
          have hf3 : Fr noB w w3 := hfr.none ⟨hg3.os, hg3.tape, hg3.output, hg3.size, fun k hk _ => hg3.block k hk (by simp [Value.ownBlock])⟩
          obtain ⟨g7, c7, rfl, hR7, hB7⟩ := hO3.form (by decide)
          have hwB : w.heap.size ≤ wr.heap.size := hfr.size
          rw [List.nil_append] at hO3 hR7 hap
          rw [show (wv h0.list).length = 8 from rfl] at hap
          go_wp2_with (at_builtin
                       go_must (refine wpList_append_run rfl (.const (.slice none 0 0)) (.tmp 50) _ _ rfl hap rfl rfl ?_))
          rw [show (wv h0.list).length = 8 from rfl] at hO3
          have htl : t.length ≤ 1000000000000 := by
            rw [Htp.out]; unfold padded64; rw [List.length_append, big_length, ← Hsp.out]; omega
          have htm : t.length % 64 = 0 := by rw [Htp.out]; exact padded64_length l
          have hO3' : OI w3 wr.heap.size (.slice (some ⟨g7, 0, none⟩) 8 c7) (wv h0.list) := hO3
          have hf3' : Fr noB wr w3 := ⟨hg3.os, hg3.tape, hg3.output, hg3.size, fun k hk _ => hg3.block k hk (by simp [Value.ownBlock])⟩
          have hpw : p < wr.heap.size := Nat.lt_of_lt_of_le hbk.lt hfr.size
          have hcw1 : wr.cell? ⟨p, 1, none⟩ = some (.slice (some ⟨gk, 0, none⟩) 64 ck) := by simpa using hbw.cell 1
          refine sumBlocks t htm htl p g7 c7 gk ck wr _ w3 _ ⟨rfl, rfl⟩ rfl rfl rfl hf3' hpw hcw1 (hRk.keep hfr id) hO3' ?_
          intro a5 w5 hs5 k5 hO5 hf5
          have hfin : out8 (feed h0 t).1 = sha l := by rw [sha, ← Htp.out]
          have e7 : sl a5 7 = .slice (some ⟨g7, 0, none⟩) 8 c7 := k5 7 (by decide)
          have hf6 : Fr noB w w5 := hfr.trans hf5
          generalize (feed h0 t).1 = F at *
          have HO5 := Lib.hid hO5
          have Hfin := Lib.hid hfin
          clear hap hg3 hR7 hO3 hO3' hO5 hfin htl htm hf3 hf3' hf5 hcw1 hcw hbw
          rw [sumFr_of hs5]
          clear hs5 k5
          generalize sl a5 = u5 at *
          simp only [sumFr, e7]
          go_wp2_with fail
          obtain ⟨wb, rfl⟩ : ∃ z, z = wr := ⟨_, rfl⟩
          go_loopw [20, 298] (fun ov iv wq => ∃ (i : Nat) (o : List UInt8), i ≤ 8 ∧ iv = .int .i64 (i : Int) ∧ o = (F.list.take i).flatMap (fun x => big 4 x.toNat) ∧ ov = .string (bs o) ∧ OI wq wb.heap.size (.slice (some ⟨g7, 0, none⟩) 8 c7) (wv F.list) ∧ Fr noB w wq) (fun _ iv _ => 8 - (intOf iv).toNat)
          case atStart => exact ⟨0, [], by omega, rfl, rfl, rfl, HO5.out, hf6⟩
          case round =>
            obtain ⟨i, o, hi, rfl, ho, rfl, hOq, hfq⟩ := hrel
            by_cases hlt : i < 8
            · obtain ⟨x, hx⟩ : ∃ x, F.list[i]? = some x := ⟨_, List.getElem?_eq_getElem (by rw [S8.list_length]; exact hlt)⟩
              have hcell := hOq.get i x.toNat (wv_get _ _ _ hx)
              have hol : o.length ≤ 32 := by
                rw [ho, List.length_flatMap]
                have h1 : ∀ (q : List UInt32), (q.map fun x => (big 4 x.toNat).length).sum = 4 * q.length := by
                  intro q; induction q with
                  | nil => rfl
                  | cons y q ih => rw [List.map_cons, List.sum_cons, ih, big_length, List.length_cons]; omega
                rw [h1, List.length_take]; omega
              have htk : F.list.take (i + 1) = F.list.take i ++ [x] := by rw [List.take_add_one, hx]; rfl
              obtain ⟨b3, hb3⟩ : ∃ b, b = UInt8.ofNat (x.toNat / 256 / 256 / 256) := ⟨_, rfl⟩
              obtain ⟨b2, hb2⟩ : ∃ b, b = UInt8.ofNat (x.toNat / 256 / 256) := ⟨_, rfl⟩
              obtain ⟨b1, hb1⟩ : ∃ b, b = UInt8.ofNat (x.toNat / 256) := ⟨_, rfl⟩
              obtain ⟨b0, hb0⟩ : ∃ b, b = UInt8.ofNat x.toNat := ⟨_, rfl⟩
              have e3 : (x.toNat : Int) / 16777216 % 256 = (b3.toNat : Int) := by rw [hb3, UInt8.toNat_ofNat']; omega
              have e3' : (x.toNat : Int) / 16777216 = (b3.toNat : Int) := by rw [hb3, UInt8.toNat_ofNat']; have := x.toNat_lt; omega
              have e2 : (x.toNat : Int) / 65536 % 256 = (b2.toNat : Int) := by rw [hb2, UInt8.toNat_ofNat']; omega
              have e1 : (x.toNat : Int) / 256 % 256 = (b1.toNat : Int) := by rw [hb1, UInt8.toNat_ofNat']; omega
              have e0 : (x.toNat : Int) % 256 = (b0.toNat : Int) := by rw [hb0, UInt8.toNat_ofNat']; omega
              have hnx : o ++ [b3, b2, b1, b0] = (F.list.take (i + 1)).flatMap (fun x => big 4 x.toNat) := by
                rw [htk, List.flatMap_append, ← ho, hb3, hb2, hb1, hb0]; simp [big]
              have hcv := run_str_of (P := Tryd.prog) (wr.alloc (.cells #[.int .u8 (b3.toNat : Int), .int .u8 (b2.toNat : Int), .int .u8 (b1.toNat : Int), .int .u8 (b0.toNat : Int)] 5)) 29 9 5 Tryd.underlying29 Tryd.underlying5 Tryd.underlying9 noB (some ⟨wr.heap.size, 0, none⟩) 4 4 [b3, b2, b1, b0] (SlR.of_bk (n := 4) (size := 1) (Bk.new wr 5 #[.int .u8 (b3.toNat : Int), .int .u8 (b2.toNat : Int), .int .u8 (b1.toNat : Int), .int .u8 (b0.toNat : Int)]) (fun x => x) rfl) (.inr ⟨_, _, rfl⟩)
              have hln4 : ¬ 9223372036854775807 < o.length + 4 := by omega
              have hOq2 : OI (wr.alloc (.cells #[.int .u8 (b3.toNat : Int), .int .u8 (b2.toNat : Int), .int .u8 (b1.toNat : Int), .int .u8 (b0.toNat : Int)] 5)) wb.heap.size (.slice (some ⟨g7, 0, none⟩) 8 c7) (wv F.list) := hOq.quiet ((Fr.refl noB wr).alloc _)
              have hfq2 : Fr noB w (wr.alloc (.cells #[.int .u8 (b3.toNat : Int), .int .u8 (b2.toNat : Int), .int .u8 (b1.toNat : Int), .int .u8 (b0.toNat : Int)] 5)) := hfq.alloc _
              have hxl : (x.toNat : Int) ≤ 4294967295 := by have := x.toNat_lt; omega
              have Hnx := Lib.hid hnx
              have HOq2 := Lib.hid hOq2
              clear ho hnx htk hx hb3 hb2 hb1 hb0 hOq hOq2
              go_wp2_with fail
              exact ⟨⟨i + 1, o ++ [b3, b2, b1, b0], by omega, by rw [Int.natCast_add]; rfl, Hnx.out, rfl, HOq2.out, hfq2⟩, by simp only [intOf]; omega⟩
            · obtain rfl : i = 8 := by omega
              have hfo : o = sha l := by rw [ho, ← Hfin.out]; rfl
              clear ho
              go_wp2_with fail
              go_ret
              exact ⟨by rw [hfo]; rfl, hfq⟩
        · obtain ⟨i, rfl⟩ : ∃ i, j = i + 1 := ⟨j - 1, by omega⟩
          rw [show ((i + 1 : Nat) : Int) - 1 = (i : Int) by omega]
          have hb2 := byte_at nb i
          obtain ⟨y, hy⟩ : ∃ y, y = UInt8.ofNat (nb / 256 ^ i) := ⟨_, rfl⟩
          rw [← hy] at hb2
          have ht2 : t ++ [y] = s ++ bigF 8 i nb := by rw [ht, bigF_step 8 i nb (by omega), ← hy, List.append_assoc]
          have htl : t.length ≤ 100000000108 := by
            rw [ht, List.length_append, bigF, big_length]; omega
          have hln3 : ¬ 9223372036854775807 < t.length + 1 := by omega
          have hcv := run_str_of (P := Tryd.prog) (wr.alloc (.cells #[.int .u8 (y.toNat : Int)] 5)) 29 9 5 Tryd.underlying29 Tryd.underlying5 Tryd.underlying9 noB (some ⟨wr.heap.size, 0, none⟩) 1 1 [y] (SlR.of_bk (n := 1) (size := 1) (Bk.new wr 5 #[.int .u8 (y.toNat : Int)]) (fun x => x) rfl) (.inr ⟨_, _, rfl⟩)
          have hfr2 : Fr noB w (wr.alloc (.cells #[.int .u8 (y.toNat : Int)] 5)) := hfr.alloc _
          have Ht2 := Lib.hid ht2
          clear ht ht2 hy
          go_wp2_with fail
          exact ⟨⟨i, t ++ [y], by omega, rfl, Ht2.out, rfl, hfr2⟩, by simp only [intOf]; omega⟩
    · have h56i : ¬ (s.length : Int) % 64 = 56 := by omega
      have hj2 : s ++ [0] = s0 ++ List.replicate (j + 1) 0 := by
        rw [Hj.out, List.append_assoc, List.replicate_succ']
      have hmin2 : ∀ i, i < j + 1 → (s0.length + i) % 64 ≠ 56 := by
        intro i hi
        rcases Nat.lt_or_ge i j with h | h
        · exact Hmin.out i h
        · obtain rfl : i = j := by omega
          rw [← Hsl.out]; exact h56
      have hdec : (120 - (s.length + 1) % 64) % 64 < (120 - s.length % 64) % 64 := by omega
      have Hj2 := Lib.hid hj2
      have Hmin2 := Lib.hid hmin2
      have Hdec := Lib.hid hdec
      clear hj2 hmin2 hdec h56
      go_wp2_with fail
      exact ⟨⟨s ++ [0], rfl, ⟨j + 1, Hj2.out, Hmin2.out⟩, trivial⟩, by simp only [strLen, bs_size, List.length_append, List.length_singleton]; exact Hdec.out⟩
end Go.Proofs.YtcbkaiakdhiloaaDoor
