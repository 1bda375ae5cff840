/- The walks of the reference's primes and its tables. -/
import Derived.Test.YtcbkaiakdhiloaaDoorRefT
set_option linter.unusedSimpArgs false
set_option linter.unusedVariables false
namespace Go.Proofs.YtcbkaiakdhiloaaDoor
open Go.RowKit Go.Proofs

theorem OI.shape {w : World} {base : Nat} {v : Value} {l : List Nat} (h : OI w base v l) : ∃ A cap, v = .slice A l.length cap ∧ (0 < l.length → ∃ g, A = some ⟨g, 0, none⟩ ∧ RI w g l ∧ base ≤ g) := by
  rcases Nat.eq_zero_or_pos l.length with h0 | h0
  · obtain ⟨A, cap, rfl, _⟩ := own_slice h
    exact ⟨A, cap, rfl, fun h => by omega⟩
  · obtain ⟨g, cap, rfl, hR, hb⟩ := h.form h0
    exact ⟨_, cap, rfl, fun _ => ⟨g, rfl, hR, hb⟩⟩
theorem OI.own {w : World} {base : Nat} {v : Value} {l : List Nat} (h : OI w base v l) {S : Nat → Prop} {w0 w' : World} (hf : Fr S w0 w) (hf2 : Fr (fun q => v.ownBlock = some q) w w') (hb : w0.heap.size ≤ base) : Fr S w0 w' :=
  hf.trans' hf2 fun b hb2 he => absurd he (by intro he; have := (World.ownsRow.lt h b he).1; omega)

set_option maxRecDepth 20000 in
set_option maxHeartbeats 1000000 in
theorem refPrimes (w : World) :
    Calls Tryd.prog 8 #[.int .i64 64] w (fun e w' => ∃ v, e = .returned v ∧ OI w' w.heap.size v primeTab ∧ Fr noB w w') := by
  go_enter Tryd.func8, Tryd.ntmps8
  go_wp2_with fail
  go_loopw [3, 4] (fun v pv wr => ∃ (p : Nat), 2 ≤ p ∧ p ≤ 312 ∧ pv = .int .i64 p ∧ OI wr w.heap.size v (below p) ∧ Fr noB w wr) (fun _ pv _ => 312 - (intOf pv).toNat)
  case atStart => exact ⟨2, by omega, by omega, rfl, by rw [below_two]; exact OI.nil w _, Fr.refl _ _⟩
  case round =>
    obtain ⟨p, h2, h3, rfl, hO, hfr⟩ := hrel
    obtain ⟨wo, rfl⟩ : ∃ wo, wo = wr := ⟨_, rfl⟩
    by_cases hlt : p < 312
    · have hbl := below_len p hlt
      have hstep := below_step p h2 hlt
      have hle := below_le p
      have hpb : primeB p = (below p).all fun q => p % q != 0 := rfl
      obtain ⟨A, cap, rfl, hA⟩ := hO.shape
      generalize hl : below p = l at *
      have Hl := Lib.hid hl
      have Hst := Lib.hid hstep
      have Hpb := Lib.hid hpb
      generalize hn : l.length = n at *
      have Hn := Lib.hid hn
      clear hl hstep hpb hn
      go_wp2_with fail
      go_loopw [5, 16] (fun bv iv wq => ∃ (i : Nat), i ≤ n ∧ iv = .int .i64 i ∧ bv = .bool ((l.take i).all fun q => p % q != 0) ∧ wq = wo) (fun _ iv _ => n - (intOf iv).toNat)
      case atStart => exact ⟨0, by omega, rfl, rfl, rfl⟩
      case round =>
        obtain ⟨i, hi, rfl, rfl, hwq⟩ := hrel
        subst hwq
        by_cases hin : i < n
        · obtain ⟨g, rfl, hRI, hbg⟩ := hA (by omega)
          obtain ⟨q, hq⟩ : ∃ q, l[i]? = some q := ⟨l[i]'(by rw [Hn.out]; exact hin), List.getElem?_eq_getElem _⟩
          have hq2 := hle q (List.mem_of_getElem? hq)
          have hcq := hRI.get i q hq
          have htk : (l.take (i + 1)).all (fun q => p % q != 0) = ((l.take i).all (fun q => p % q != 0) && (p % q != 0)) := by
            rw [List.take_add_one, hq]; simp
          have Htk := Lib.hid htk
          obtain ⟨m, hm⟩ : ∃ m, m = p % q := ⟨_, rfl⟩
          have hmi : (p : Int) % (q : Int) = (m : Int) := by rw [hm]; exact (Int.natCast_emod _ _).symm
          have hq0 : ¬ ((q : Int) = 0) := by omega
          rw [← hm] at htk
          have Htk := Lib.hid htk
          have hgl := hRI.lt
          clear hm htk hq
          cases hb : (l.take i).all (fun q => p % q != 0) with
          | false =>
            have h1 : (l.take (i + 1)).all (fun q => p % q != 0) = false := by rw [Htk.out, hb]; rfl
            have H1 := Lib.hid h1
            clear h1 hb
            go_wp2_with fail
            exact ⟨⟨i + 1, by omega, by rw [Int.natCast_add]; rfl, by rw [H1.out], trivial⟩, by simp only [intOf]; omega⟩
          | true =>
            by_cases hm0 : m = 0
            · have h1 : (l.take (i + 1)).all (fun q => p % q != 0) = false := by rw [Htk.out, hb, hm0]; rfl
              have H1 := Lib.hid h1
              clear h1 hb
              go_wp2_with fail
              exact ⟨⟨i + 1, by omega, by rw [Int.natCast_add]; rfl, by rw [H1.out], trivial⟩, by simp only [intOf]; omega⟩
            · have h1 : (l.take (i + 1)).all (fun q => p % q != 0) = true := by rw [Htk.out, hb]; simp [hm0]
              have H1 := Lib.hid h1
              have hmz : ((m : Int) != 0) = true := by simp; omega
              clear h1 hb
              go_wp2_with fail
              exact ⟨⟨i + 1, by omega, by rw [Int.natCast_add]; rfl, by rw [H1.out], trivial⟩, by simp only [intOf]; omega⟩
        · obtain rfl : i = n := by omega
          rw [show l.take i = l by rw [← Hn.out, List.take_length], ← Hpb.out]
          cases hpb : primeB p with
          | false =>
            have h1 : below (p + 1) = l := by rw [Hst.out, hpb]; rfl
            have hO2 : OI wr w.heap.size (.slice A i cap) (below (p + 1)) := by rw [h1]; exact hO
            clear h1 hpb
            go_wp2_with fail
            exact ⟨⟨p + 1, by omega, by omega, by rw [Int.natCast_add]; rfl, hO2, hfr⟩, by simp only [intOf]; omega⟩
          | true =>
            have h1 : below (p + 1) = l ++ [p] := by rw [Hst.out, hpb]; rfl
            obtain ⟨v', w3, hap, hO3, hf3⟩ := run_app_int wr w.heap.size p _ l hO hfr.size (by have := Hn.out; omega)
            have hfr3 : Fr noB w w3 := hO.own hfr hf3 (Nat.le_refl _)
            rw [← h1] at hO3
            clear h1 hpb
            go_wp2_with (at_builtin
                         go_must (refine wpList_append_run rfl (.tmp 29) (.tmp 31) _ _ rfl hap rfl rfl ?_))
            exact ⟨⟨p + 1, by omega, by omega, by rw [Int.natCast_add]; rfl, hO3, hfr3⟩, by simp only [intOf]; omega⟩
    · obtain rfl : p = 312 := by omega
      obtain ⟨A, cap, rfl, hA⟩ := hO.shape
      clear hA
      rw [below_all] at hO ⊢
      rw [primeTab_len] at hO ⊢
      go_wp2_with fail
      go_ret
      exact ⟨_, rfl, hO, hfr⟩
end Go.Proofs.YtcbkaiakdhiloaaDoor
