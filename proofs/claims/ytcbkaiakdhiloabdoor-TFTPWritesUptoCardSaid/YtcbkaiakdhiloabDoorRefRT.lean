/- The reference's reading of a message of TFTP. Written by mkrefrt.py. -/
import Derived.Test.YtcbkaiakdhiloabDoorRefLines
import Derived.Test.YtcbkaiakdhiloabDoorRefFields
import Derived.Test.YtcbkaiakdhiloabDoorReadW
import Derived.Test.YtcbkaiakdhiloabDoorRefR
import Derived.Test.YtcbkaiakdhiloabDoorLow
import Derived.Test.YtcbkaiakdhiloabDoorWord
set_option linter.unusedSimpArgs false
set_option linter.unusedVariables false
namespace Go.Proofs.YtcbkaiakdhiloabDoor
open Go.RowKit Go.Proofs
attribute [local go_sem] bs_size bs_append bs_sub bs_toList

theorem wrap_u16_num (x : Nat) (h : x < 65536) : IntKind.u16.wrap (x : Int) = (x : Int) := by exact IntWalk.u16_in _ ⟨by omega, by omega⟩
theorem num_two' (l : List UInt8) (i : Nat) : num (sub l i (i + 2)) < 65536 := by
  have h := num_le (sub l i (i + 2))
  have h2 := sub_le l i (i + 2)
  have h3 : 256 ^ (sub l i (i + 2)).length ≤ 256 ^ 2 := Nat.pow_le_pow_right (by omega) (by omega)
  omega
/-- what the lines of an error give -/
def errL (bk : Nat) (x : List (List UInt8) × Bool) : TftD × Nat :=
  match x with
  | ([a], true) => (⟨5, bk, a, [], []⟩, 0)
  | _ => (tft0, 2)
theorem err_lines (bk : Nat) (l : List UInt8) : (match lineOf l with
    | some (a, []) => (⟨5, bk, a, [], []⟩, 0)
    | _ => (tft0, 2)) = errL bk (linesOf l) := by
  cases hl : lineOf l with
  | none =>
    by_cases hn : l = []
    · subst hn; rfl
    · rw [linesOf_none hn hl]; rfl
  | some x =>
    obtain ⟨a, r⟩ := x
    rw [linesOf_some hl]
    cases r with
    | nil => rfl
    | cons c r =>
      simp only
      cases hr : lineOf (c :: r) with
      | none => rw [linesOf_none (by simp) hr]; rfl
      | some y => rw [linesOf_some hr]; rfl
set_option maxRecDepth 20000 in
set_option maxHeartbeats 8000000 in
theorem refReadTFTP (l : List UInt8) (w : World) (hl : l.length ≤ 1099511627) :
    Calls Tryd.prog 15 #[.string (bs l)] w (tftPost l w) := by
  have hx0 := Bk.new w 47 #[.int .u16 0, .int .u16 0, .string ⟨#[]⟩, .string ⟨#[]⟩, .slice none 0 0]
  have hf0 : Fr noB w (w.alloc (.cells #[.int .u16 0, .int .u16 0, .string ⟨#[]⟩, .string ⟨#[]⟩, .slice none 0 0] 47)) := (Fr.refl _ _).alloc _
  go_enter Tryd.func15, Tryd.ntmps15
  by_cases h2 : l.length < 2
  · have h2i : (l.length : Int) < 2 := by omega
    have H2 := Lib.hid h2
    clear h2
    have hspec : Hid (readTFTP l = (tft0, 1)) := Lib.hid (by unfold readTFTP; rw [if_pos H2.out])
    go_wp2_with ((refine wpList_store_bk rfl 47 (.tmp 2) (.tmp 13) rfl w.heap.size _ _ #[.int .u16 0, .int .u16 0, .string ⟨#[]⟩, .string ⟨#[]⟩, .slice none 0 0] rfl rfl hx0 rfl (by kernel_rfl) (by kernel_rfl) ?_); intro w9 hx9 hf9)
    refine bodyPost_ret (results_row_tmp Tryd.results15 _ w9 w.heap.size _ _ _ _ rfl rfl hx9 Tryd.underlying47 rfl (by kernel_rfl)) rfl ?_
    exact ⟨⟨none, 0, by rw [hspec.out]; rfl, by rw [hspec.out]; exact SlR.nil⟩, hf0.trans' hf9 (fun b hb e => by unfold oneB at e; omega)⟩
  have h2i : ¬ (l.length : Int) < 2 := by omega
  go_wp2_with fail
  have hxz : w.heap.size < (w.alloc (.cells #[.int .u16 0, .int .u16 0, .string ⟨#[]⟩, .string ⟨#[]⟩, .slice none 0 0] 47)).heap.size := hx0.lt
  generalize w.alloc (.cells #[.int .u16 0, .int .u16 0, .string ⟨#[]⟩, .string ⟨#[]⟩, .slice none 0 0] 47) = w1 at *
  refine (refOf (sub l 0 2) w1 (by have := sub_le l 0 2; omega)).mono ?_
  rintro e v1 ⟨rfl, rfl⟩
  have hk16 := num_two' l 0
  have hspec : readTFTP l = (if num (sub l 0 (0 + 2)) = 1 then askL (linesOf (l.drop 2))
    else if num (sub l 0 (0 + 2)) = 6 then match ofLines (linesOf (l.drop 2)) [] with
      | none => (tft0, 2)
      | some fs => (⟨6, 0, [], [], fs⟩, 0)
    else if num (sub l 0 (0 + 2)) = 3 then if l.length < 4 then (tft0, 1) else if 1024 < (l.drop 4).length then (tft0, 7) else (⟨3, num (sub l 2 4), [], l.drop 4, []⟩, 0)
    else if num (sub l 0 (0 + 2)) = 4 then if l.length < 4 then (tft0, 1) else if l.drop 4 ≠ [] then (tft0, 2) else (⟨4, num (sub l 2 4), [], [], []⟩, 0)
    else if num (sub l 0 (0 + 2)) = 5 then if l.length < 4 then (tft0, 1) else errL (num (sub l 2 4)) (linesOf (l.drop 4))
    else (tft0, 2)) := by
    rw [← ask_lines, ← fldRd_lines (l.drop 2).length [] (l.drop 2) (Nat.le_refl _), ← err_lines]
    unfold readTFTP; rw [if_neg h2]; rfl
  rw [Nat.zero_add] at hspec hk16
  obtain ⟨k, hk⟩ : ∃ k, num (sub l 0 2) = k := ⟨_, rfl⟩
  rw [hk] at hspec hk16
  rw [hk]
  clear hk
  have hkw := wrap_u16_num k hk16
  have hm1 := Bk.new w1 47 #[.int .u16 (k : Int), .int .u16 0, .string ⟨#[]⟩, .string ⟨#[]⟩, .slice none 0 0]
  have hx2 := hx0.alloc (.cells #[.int .u16 (k : Int), .int .u16 0, .string ⟨#[]⟩, .string ⟨#[]⟩, .slice none 0 0] 47)
  have hF2 := hf0.alloc (.cells #[.int .u16 (k : Int), .int .u16 0, .string ⟨#[]⟩, .string ⟨#[]⟩, .slice none 0 0] 47)
  have hFm : Fr noB w1 (w1.alloc (.cells #[.int .u16 (k : Int), .int .u16 0, .string ⟨#[]⟩, .string ⟨#[]⟩, .slice none 0 0] 47)) := (Fr.refl _ _).alloc _
  obtain ⟨v2, hv2⟩ : ∃ v2, w1.alloc (.cells #[.int .u16 (k : Int), .int .u16 0, .string ⟨#[]⟩, .string ⟨#[]⟩, .slice none 0 0] 47) = v2 := ⟨_, rfl⟩
  rw [hv2] at hm1 hx2 hF2 hFm
  obtain ⟨gm, hgm⟩ : ∃ gm, w1.heap.size = gm := ⟨_, rfl⟩
  rw [hgm] at hm1 hxz
  have hgx : w.heap.size ≠ gm := by omega
  have hmc2 := hm1.cells
  have hmz2 := hm1.frees
  have Hv2 := Lib.hid hv2
  have Hgm := Lib.hid hgm
  have Hspec := Lib.hid hspec
  clear hgm hv2 hspec hx0 hf0 h2
  have hk : k = 1 ∨ k = 6 ∨ k = 3 ∨ k = 4 ∨ k = 5 ∨ (k ≠ 1 ∧ k ≠ 6 ∧ k ≠ 3 ∧ k ≠ 4 ∧ k ≠ 5) := by omega
  rcases hk with rfl | rfl | rfl | rfl | rfl | ⟨k1, k6, k3, k4, k5⟩

  · have Hs : readTFTP l = askL (linesOf (l.drop 2)) := by rw [Hspec.out]; rfl
    have HvN : Hid (w1.alloc (.cells #[.int .u16 1, .int .u16 0, .string ⟨#[]⟩, .string ⟨#[]⟩, .slice none 0 0] 47) = v2) := Hv2.out
    have hkw : IntKind.u16.wrap 1 = 1 := by decide
    go_wp2_with fail
    rw [Hgm.out, HvN.out]
    have hsr := sub_rest l 2
    obtain ⟨q, hq⟩ : ∃ q, l.drop 2 = q := ⟨_, rfl⟩
    have hql : q.length ≤ l.length := by rw [← hq, List.length_drop]; omega
    rw [hsr, hq]
    rw [hq] at Hs
    refine (refLines q v2 (by omega)).mono ?_
    rintro e v3 ⟨A, cap, rfl, hA, hcap, hwl, f3⟩
    obtain ⟨L, hL⟩ : ∃ L, (linesOf q).1 = L := ⟨_, rfl⟩
    obtain ⟨ok, hok⟩ : ∃ ok, (linesOf q).2 = ok := ⟨_, rfl⟩
    try rw [show linesOf q = (L, ok) by rw [← hL, ← hok]] at Hs
    rw [hL] at hA hcap hwl
    rw [hL, hok]
    clear hL hok hsr hq
    have hA0 := hA
    replace hA := (hA.sub (T := oneB gm) (fun b _ x => by have := hm1.lt; unfold oneB at x; omega))
    have hm3 := hm1.keep f3 (fun x => x)
    have hx3 := hx2.keep f3 (fun x => x)
    have hF3 := hF2.none f3
    have hmc3 := hm3.cells
    have hmz3 := hm3.frees
    have hgm3 := hm3.lt
    clear hm1 hx2 hF2 f3 hmc2 hmz2
    cases ok with
    | false =>
      have Hno : Hid (readTFTP l = (tft0, 2)) := Lib.hid (by rw [Hs]; cases L with | nil => rfl | cons a L => cases L <;> rfl)
      clear Hs
      go_wp2_with ((refine wpList_store_bk rfl 47 (.tmp 2) (.tmp 69) rfl w.heap.size _ _ #[.int .u16 0, .int .u16 0, .string ⟨#[]⟩, .string ⟨#[]⟩, .slice none 0 0] rfl rfl hx3 rfl (by kernel_rfl) (by kernel_rfl) ?_); intro w9 hx9 hf9)
      refine bodyPost_ret (results_row_tmp Tryd.results15 _ w9 w.heap.size _ _ _ _ rfl rfl hx9 Tryd.underlying47 rfl (by kernel_rfl)) rfl ?_
      exact ⟨⟨none, 0, by rw [Hno.out]; rfl, by rw [Hno.out]; exact SlR.nil⟩, hF3.trans' hf9 (fun b hb e => by unfold oneB at e; omega)⟩
    | true =>
    match L, Hs, hA, hcap, hwl with
    | [], Hs, hA, hcap, hwl =>
      have Hno : Hid (readTFTP l = (tft0, 2)) := Lib.hid Hs
      clear Hs
      simp only [List.length_nil]
      go_wp2_with ((refine wpList_store_bk rfl 47 (.tmp 2) (.tmp 69) rfl w.heap.size _ _ #[.int .u16 0, .int .u16 0, .string ⟨#[]⟩, .string ⟨#[]⟩, .slice none 0 0] rfl rfl hx3 rfl (by kernel_rfl) (by kernel_rfl) ?_); intro w9 hx9 hf9)
      refine bodyPost_ret (results_row_tmp Tryd.results15 _ w9 w.heap.size _ _ _ _ rfl rfl hx9 Tryd.underlying47 rfl (by kernel_rfl)) rfl ?_
      exact ⟨⟨none, 0, by rw [Hno.out]; rfl, by rw [Hno.out]; exact SlR.nil⟩, hF3.trans' hf9 (fun b hb e => by unfold oneB at e; omega)⟩
    | [a], Hs, hA, hcap, hwl =>
      have Hno : Hid (readTFTP l = (tft0, 2)) := Lib.hid Hs
      clear Hs
      simp only [List.length_singleton]
      go_wp2_with ((refine wpList_store_bk rfl 47 (.tmp 2) (.tmp 69) rfl w.heap.size _ _ #[.int .u16 0, .int .u16 0, .string ⟨#[]⟩, .string ⟨#[]⟩, .slice none 0 0] rfl rfl hx3 rfl (by kernel_rfl) (by kernel_rfl) ?_); intro w9 hx9 hf9)
      refine bodyPost_ret (results_row_tmp Tryd.results15 _ w9 w.heap.size _ _ _ _ rfl rfl hx9 Tryd.underlying47 rfl (by kernel_rfl)) rfl ?_
      exact ⟨⟨none, 0, by rw [Hno.out]; rfl, by rw [Hno.out]; exact SlR.nil⟩, hF3.trans' hf9 (fun b hb e => by unfold oneB at e; omega)⟩
    | a :: b :: r, Hs, hA, hcap, hwl =>
    obtain ⟨ad, rfl, had, _, hcell⟩ := id hA.2 (by simp)
    have c0 : v3.cell? ad = some (.string (bs a)) := by have h := hcell 0 (.string (bs a)) rfl; simpa [Addr.add] using h
    have c1 : v3.cell? ⟨ad.block, ad.off + 1, none⟩ = some (.string (bs b)) := by have h := hcell 1 (.string (bs b)) rfl; simpa [Addr.add] using h
    simp only [wtL] at hwl
    simp only [List.length_cons] at hA hcap ⊢
    have Hs := Lib.hid Hs
    clear hcell
    go_wp2_with fail
    refine (refWord a v3 (by omega)).mono ?_
    rintro e v4 ⟨rfl, rfl⟩
    cases hwa : wordB a with
    | false =>
      have Hno : Hid (readTFTP l = (tft0, 2)) := Lib.hid (by rw [Hs.out]; simp [askL, hwa])
      clear Hs hwa
      go_wp2_with ((refine wpList_store_bk rfl 47 (.tmp 2) (.tmp 69) rfl w.heap.size _ _ #[.int .u16 0, .int .u16 0, .string ⟨#[]⟩, .string ⟨#[]⟩, .slice none 0 0] rfl rfl hx3 rfl (by kernel_rfl) (by kernel_rfl) ?_); intro w9 hx9 hf9)
      refine bodyPost_ret (results_row_tmp Tryd.results15 _ w9 w.heap.size _ _ _ _ rfl rfl hx9 Tryd.underlying47 rfl (by kernel_rfl)) rfl ?_
      exact ⟨⟨none, 0, by rw [Hno.out]; rfl, by rw [Hno.out]; exact SlR.nil⟩, hF3.trans' hf9 (fun b hb e => by unfold oneB at e; omega)⟩
    | true =>
    have Hwa := Lib.hid hwa
    clear hwa
    go_wp2_with fail
    refine (refLow b _ (by omega)).mono ?_
    rintro e v4 ⟨rfl, f4⟩
    have hA4 := hA.keep (f4.of_no _)
    have hm4 := hm3.keep f4 (fun x => x)
    have hx4 := hx3.keep f4 (fun x => x)
    have hF4 := hF3.none f4
    have hmc4 := hm4.cells
    have hmz4 := hm4.frees
    have hgm4 := hm4.lt
    by_cases ho : lowL b = octet
    rotate_left
    · have hob : (lowL b == [111, 99, 116, 101, 116]) = false := by simpa [octet] using ho
      have Hno : Hid (readTFTP l = (tft0, 2)) := Lib.hid (by rw [Hs.out]; simp [askL, ho])
      clear Hs ho hmc3 hmz3
      go_wp2_with ((refine wpList_store_bk rfl 47 (.tmp 2) (.tmp 69) rfl w.heap.size _ _ #[.int .u16 0, .int .u16 0, .string ⟨#[]⟩, .string ⟨#[]⟩, .slice none 0 0] rfl rfl hx4 rfl (by kernel_rfl) (by kernel_rfl) ?_); intro w9 hx9 hf9)
      refine bodyPost_ret (results_row_tmp Tryd.results15 _ w9 w.heap.size _ _ _ _ rfl rfl hx9 Tryd.underlying47 rfl (by kernel_rfl)) rfl ?_
      exact ⟨⟨none, 0, by rw [Hno.out]; rfl, by rw [Hno.out]; exact SlR.nil⟩, hF4.trans' hf9 (fun b hb e => by unfold oneB at e; omega)⟩
    have hob : (lowL b == [111, 99, 116, 101, 116]) = true := by simpa [octet] using ho
    have c4 : v4.cell? ad = some (.string (bs a)) := by
      obtain ⟨ad2, e, _, _, h⟩ := hA4.2 (by omega)
      injection e with e; subst e
      have h := h 0 (.string (bs a)) rfl; simpa [Addr.add] using h
    have Hs2 : Hid (readTFTP l = (match fldL [] r with
        | none => (tft0, 2)
        | some fs => (⟨1, 0, a, [], fs⟩, 0))) := Lib.hid (by rw [Hs.out]; simp only [askL, ho, Hwa.out, and_self, if_true]; cases fldL [] r <;> rfl)
    clear Hs ho hmc3 hmz3 c0 c1 hm3 hx3 hF3 hA
    have hm5 : Bk (v4.setCell ⟨gm, 2, none⟩ (.string (bs a))) gm 47 #[.int .u16 1, .int .u16 0, .string (bs a), .string ⟨#[]⟩, .slice none 0 0] := by simpa using hm4.set 2 (.string (bs a))
    have hx5 := hx4.far (p := ⟨gm, 2, none⟩) (by simpa using hgx) (.string (bs a))
    have hF5 : Fr noB w (v4.setCell ⟨gm, 2, none⟩ (.string (bs a))) := hF4.trans' ((Fr.refl (oneB gm) v4).setCell (p := ⟨gm, 2, none⟩) (fun _ => rfl) _) (fun b hb e => by unfold oneB at e; omega)
    have hA5 := hA4.keep ((Fr.refl (oneB gm) v4).setCell (p := ⟨gm, 2, none⟩) (fun _ => rfl) (.string (bs a)))
    by_cases hcp : cap = 2
    · obtain rfl : r = [] := by
        cases r with
        | nil => rfl
        | cons _ _ => simp only [List.length_cons] at hcap; omega
      subst hcp
      have hA6 : SlR (v4.setCell ⟨gm, 2, none⟩ (.string (bs a))) noB 1 (some ad) ([] : List (List UInt8)).length (strv []) := ⟨rfl, fun h => (Nat.lt_irrefl 0 h).elim⟩
      have hmc5 := hm5.cells
      have hmz5 := hm5.frees
      clear hx4 hF4 hm4 hA4 f4 hA5
      go_wp2_with fail
      clear hmc4 hmz4
      generalize v4.setCell ⟨gm, 2, none⟩ (.string (bs a)) = v5 at *
      refine (refFields (some ad) 0 [] v5 hA6 (by omega)).mono ?_
      rintro e v6 ⟨hr, f6⟩
      have hgm5 := hm5.lt
      have hm6 := hm5.keep f6 (fun x => x)
      have hx6 := hx5.keep f6 (fun x => x)
      have hF6 := hF5.none f6
      have hmc6 := hm6.cells
      have hmz6 := hm6.frees
      have hsz6 := hF5.size
      clear hm5 hx5 hF5 f6 hA6 hmc5 hmz5
      rcases hr with ⟨fs, A3, cap3, hfs, rfl, hA3, hwf⟩ | ⟨hfs, rfl⟩
      rotate_left
      · have Hno : Hid (readTFTP l = (tft0, 2)) := Lib.hid (by rw [Hs2.out, hfs])
        clear Hs2 hfs
        have hx7 := hx6.far (p := ⟨gm, 4, none⟩) (by simpa using hgx) (.slice none 0 0)
        have hF7 : Fr noB w (v6.setCell ⟨gm, 4, none⟩ (.slice none 0 0)) := hF6.trans' ((Fr.refl (oneB gm) v6).setCell (p := ⟨gm, 4, none⟩) (fun _ => rfl) _) (fun b hb e => by unfold oneB at e; omega)
        go_wp2_with ((refine wpList_store_bk rfl 47 (.tmp 2) (.tmp 69) rfl w.heap.size _ _ #[.int .u16 0, .int .u16 0, .string ⟨#[]⟩, .string ⟨#[]⟩, .slice none 0 0] rfl rfl hx7 rfl (by kernel_rfl) (by kernel_rfl) ?_); intro w9 hx9 hf9)
        refine bodyPost_ret (results_row_tmp Tryd.results15 _ w9 w.heap.size _ _ _ _ rfl rfl hx9 Tryd.underlying47 rfl (by kernel_rfl)) rfl ?_
        exact ⟨⟨none, 0, by rw [Hno.out]; rfl, by rw [Hno.out]; exact SlR.nil⟩, hF7.trans' hf9 (fun b hb e => by unfold oneB at e; omega)⟩
      have Hyes : Hid (readTFTP l = (⟨1, 0, a, [], fs⟩, 0)) := Lib.hid (by rw [Hs2.out, hfs])
      clear Hs2 hfs
      have hm8 : Bk (v6.setCell ⟨gm, 4, none⟩ (.slice A3 fs.length cap3)) gm 47 #[.int .u16 1, .int .u16 0, .string (bs a), .string ⟨#[]⟩, .slice A3 fs.length cap3] := by simpa using hm6.set 4 (.slice A3 fs.length cap3)
      have hx8 := hx6.far (p := ⟨gm, 4, none⟩) (by simpa using hgx) (.slice A3 fs.length cap3)
      have hF8 : Fr noB w (v6.setCell ⟨gm, 4, none⟩ (.slice A3 fs.length cap3)) := hF6.trans' ((Fr.refl (oneB gm) v6).setCell (p := ⟨gm, 4, none⟩) (fun _ => rfl) _) (fun b hb e => by unfold oneB at e; omega)
      have hA8 := (hA3.sub (T := fun b => b < gm + 1) (fun b _ x => by omega)).keep ((Fr.refl (fun b => b < gm + 1) v6).setCell (p := ⟨gm, 4, none⟩) (fun _ => by show gm < gm + 1; omega) (.slice A3 fs.length cap3))
      have hmc8 := hm8.cells
      clear hm6 hx6 hF6 hA3
      go_wp2_with ((refine wpList_store_bk rfl 47 (.tmp 2) (.tmp 70) rfl w.heap.size _ _ #[.int .u16 1, .int .u16 0, .string (bs a), .string ⟨#[]⟩, .slice A3 fs.length cap3] rfl rfl hx8 rfl (by kernel_rfl) (by simp [Value.oneCell']) ?_); intro w9 hx9 hf9)
      refine bodyPost_ret (results_row_tmp Tryd.results15 _ w9 w.heap.size _ _ _ _ rfl rfl hx9 Tryd.underlying47 rfl (by kernel_rfl)) rfl ?_
      exact ⟨⟨A3, cap3, by rw [Hyes.out]; rfl, by rw [Hyes.out]; exact (hA8.keep (hf9.mono fun b _ e => by unfold oneB at e; omega)).sub (fun b _ x => by omega)⟩, hF8.trans' hf9 (fun b hb e => by unfold oneB at e; omega)⟩
    · have hA6 : SlR (v4.setCell ⟨gm, 2, none⟩ (.string (bs a))) noB 1 (some ⟨ad.block, ad.off + 2, none⟩) r.length (strv r) := by
        have h := (hA5.cut (k := 2) (cap := cap) (by omega) hcap).sub (T := noB) (fun _ _ x => x.elim)
        rw [if_neg hcp] at h
        simpa [Addr.add, strv] using h
      have hmc5 := hm5.cells
      have hmz5 := hm5.frees
      clear hx4 hF4 hm4 hA4 f4 hA5
      go_wp2_with fail
      clear hmc4 hmz4
      generalize v4.setCell ⟨gm, 2, none⟩ (.string (bs a)) = v5 at *
      refine (refFields (some ⟨ad.block, ad.off + 2, none⟩) (cap - 2) r v5 hA6 (by omega)).mono ?_
      rintro e v6 ⟨hr, f6⟩
      have hgm5 := hm5.lt
      have hm6 := hm5.keep f6 (fun x => x)
      have hx6 := hx5.keep f6 (fun x => x)
      have hF6 := hF5.none f6
      have hmc6 := hm6.cells
      have hmz6 := hm6.frees
      have hsz6 := hF5.size
      clear hm5 hx5 hF5 f6 hA6 hmc5 hmz5
      rcases hr with ⟨fs, A3, cap3, hfs, rfl, hA3, hwf⟩ | ⟨hfs, rfl⟩
      rotate_left
      · have Hno : Hid (readTFTP l = (tft0, 2)) := Lib.hid (by rw [Hs2.out, hfs])
        clear Hs2 hfs
        have hx7 := hx6.far (p := ⟨gm, 4, none⟩) (by simpa using hgx) (.slice none 0 0)
        have hF7 : Fr noB w (v6.setCell ⟨gm, 4, none⟩ (.slice none 0 0)) := hF6.trans' ((Fr.refl (oneB gm) v6).setCell (p := ⟨gm, 4, none⟩) (fun _ => rfl) _) (fun b hb e => by unfold oneB at e; omega)
        go_wp2_with ((refine wpList_store_bk rfl 47 (.tmp 2) (.tmp 69) rfl w.heap.size _ _ #[.int .u16 0, .int .u16 0, .string ⟨#[]⟩, .string ⟨#[]⟩, .slice none 0 0] rfl rfl hx7 rfl (by kernel_rfl) (by kernel_rfl) ?_); intro w9 hx9 hf9)
        refine bodyPost_ret (results_row_tmp Tryd.results15 _ w9 w.heap.size _ _ _ _ rfl rfl hx9 Tryd.underlying47 rfl (by kernel_rfl)) rfl ?_
        exact ⟨⟨none, 0, by rw [Hno.out]; rfl, by rw [Hno.out]; exact SlR.nil⟩, hF7.trans' hf9 (fun b hb e => by unfold oneB at e; omega)⟩
      have Hyes : Hid (readTFTP l = (⟨1, 0, a, [], fs⟩, 0)) := Lib.hid (by rw [Hs2.out, hfs])
      clear Hs2 hfs
      have hm8 : Bk (v6.setCell ⟨gm, 4, none⟩ (.slice A3 fs.length cap3)) gm 47 #[.int .u16 1, .int .u16 0, .string (bs a), .string ⟨#[]⟩, .slice A3 fs.length cap3] := by simpa using hm6.set 4 (.slice A3 fs.length cap3)
      have hx8 := hx6.far (p := ⟨gm, 4, none⟩) (by simpa using hgx) (.slice A3 fs.length cap3)
      have hF8 : Fr noB w (v6.setCell ⟨gm, 4, none⟩ (.slice A3 fs.length cap3)) := hF6.trans' ((Fr.refl (oneB gm) v6).setCell (p := ⟨gm, 4, none⟩) (fun _ => rfl) _) (fun b hb e => by unfold oneB at e; omega)
      have hA8 := (hA3.sub (T := fun b => b < gm + 1) (fun b _ x => by omega)).keep ((Fr.refl (fun b => b < gm + 1) v6).setCell (p := ⟨gm, 4, none⟩) (fun _ => by show gm < gm + 1; omega) (.slice A3 fs.length cap3))
      have hmc8 := hm8.cells
      clear hm6 hx6 hF6 hA3
      go_wp2_with ((refine wpList_store_bk rfl 47 (.tmp 2) (.tmp 70) rfl w.heap.size _ _ #[.int .u16 1, .int .u16 0, .string (bs a), .string ⟨#[]⟩, .slice A3 fs.length cap3] rfl rfl hx8 rfl (by kernel_rfl) (by simp [Value.oneCell']) ?_); intro w9 hx9 hf9)
      refine bodyPost_ret (results_row_tmp Tryd.results15 _ w9 w.heap.size _ _ _ _ rfl rfl hx9 Tryd.underlying47 rfl (by kernel_rfl)) rfl ?_
      exact ⟨⟨A3, cap3, by rw [Hyes.out]; rfl, by rw [Hyes.out]; exact (hA8.keep (hf9.mono fun b _ e => by unfold oneB at e; omega)).sub (fun b _ x => by omega)⟩, hF8.trans' hf9 (fun b hb e => by unfold oneB at e; omega)⟩
  · have Hs : readTFTP l = (match ofLines (linesOf (l.drop 2)) [] with
      | none => (tft0, 2)
      | some fs => (⟨6, 0, [], [], fs⟩, 0)) := by rw [Hspec.out]; rfl
    have HvN : Hid (w1.alloc (.cells #[.int .u16 6, .int .u16 0, .string ⟨#[]⟩, .string ⟨#[]⟩, .slice none 0 0] 47) = v2) := Hv2.out
    have hkw : IntKind.u16.wrap 6 = 6 := by decide
    go_wp2_with fail
    rw [Hgm.out, HvN.out]
    have hsr := sub_rest l 2
    obtain ⟨q, hq⟩ : ∃ q, l.drop 2 = q := ⟨_, rfl⟩
    have hql : q.length ≤ l.length := by rw [← hq, List.length_drop]; omega
    rw [hsr, hq]
    rw [hq] at Hs
    refine (refLines q v2 (by omega)).mono ?_
    rintro e v3 ⟨A, cap, rfl, hA, hcap, hwl, f3⟩
    obtain ⟨L, hL⟩ : ∃ L, (linesOf q).1 = L := ⟨_, rfl⟩
    obtain ⟨ok, hok⟩ : ∃ ok, (linesOf q).2 = ok := ⟨_, rfl⟩
    try rw [show linesOf q = (L, ok) by rw [← hL, ← hok]] at Hs
    rw [hL] at hA hcap hwl
    rw [hL, hok]
    clear hL hok hsr hq
    have hA0 := hA
    replace hA := (hA.sub (T := oneB gm) (fun b _ x => by have := hm1.lt; unfold oneB at x; omega))
    have hm3 := hm1.keep f3 (fun x => x)
    have hx3 := hx2.keep f3 (fun x => x)
    have hF3 := hF2.none f3
    have hmc3 := hm3.cells
    have hmz3 := hm3.frees
    have hgm3 := hm3.lt
    clear hm1 hx2 hF2 f3 hmc2 hmz2
    cases ok with
    | false =>
      have Hno : Hid (readTFTP l = (tft0, 2)) := Lib.hid (by rw [Hs]; rfl)
      clear Hs
      go_wp2_with ((refine wpList_store_bk rfl 47 (.tmp 2) (.tmp 69) rfl w.heap.size _ _ #[.int .u16 0, .int .u16 0, .string ⟨#[]⟩, .string ⟨#[]⟩, .slice none 0 0] rfl rfl hx3 rfl (by kernel_rfl) (by kernel_rfl) ?_); intro w9 hx9 hf9)
      refine bodyPost_ret (results_row_tmp Tryd.results15 _ w9 w.heap.size _ _ _ _ rfl rfl hx9 Tryd.underlying47 rfl (by kernel_rfl)) rfl ?_
      exact ⟨⟨none, 0, by rw [Hno.out]; rfl, by rw [Hno.out]; exact SlR.nil⟩, hF3.trans' hf9 (fun b hb e => by unfold oneB at e; omega)⟩
    | true =>
    have Hs2 : Hid (readTFTP l = (match fldL [] L with
        | none => (tft0, 2)
        | some fs => (⟨6, 0, [], [], fs⟩, 0))) := Lib.hid (by rw [Hs]; simp only [ofLines, if_true])
    clear Hs
    have hA6 := hA.sub (T := noB) (fun _ _ x => x.elim)
    go_wp2_with fail
    refine (refFields A cap L v3 hA6 (by omega)).mono ?_
    rintro e v6 ⟨hr, f6⟩
    have hm6 := hm3.keep f6 (fun x => x)
    have hx6 := hx3.keep f6 (fun x => x)
    have hF6 := hF3.none f6
    have hmc6 := hm6.cells
    have hmz6 := hm6.frees
    have hsz6 := hF3.size
    have hgm5 := hm3.lt
    clear hm3 hx3 hF3 f6 hA6 hmc3 hmz3 hA hA0
    rcases hr with ⟨fs, A3, cap3, hfs, rfl, hA3, hwf⟩ | ⟨hfs, rfl⟩
    rotate_left
    · have Hno : Hid (readTFTP l = (tft0, 2)) := Lib.hid (by rw [Hs2.out, hfs])
      clear Hs2 hfs
      have hx7 := hx6.far (p := ⟨gm, 4, none⟩) (by simpa using hgx) (.slice none 0 0)
      have hF7 : Fr noB w (v6.setCell ⟨gm, 4, none⟩ (.slice none 0 0)) := hF6.trans' ((Fr.refl (oneB gm) v6).setCell (p := ⟨gm, 4, none⟩) (fun _ => rfl) _) (fun b hb e => by unfold oneB at e; omega)
      go_wp2_with ((refine wpList_store_bk rfl 47 (.tmp 2) (.tmp 69) rfl w.heap.size _ _ #[.int .u16 0, .int .u16 0, .string ⟨#[]⟩, .string ⟨#[]⟩, .slice none 0 0] rfl rfl hx7 rfl (by kernel_rfl) (by kernel_rfl) ?_); intro w9 hx9 hf9)
      refine bodyPost_ret (results_row_tmp Tryd.results15 _ w9 w.heap.size _ _ _ _ rfl rfl hx9 Tryd.underlying47 rfl (by kernel_rfl)) rfl ?_
      exact ⟨⟨none, 0, by rw [Hno.out]; rfl, by rw [Hno.out]; exact SlR.nil⟩, hF7.trans' hf9 (fun b hb e => by unfold oneB at e; omega)⟩
    have Hyes : Hid (readTFTP l = (⟨6, 0, [], [], fs⟩, 0)) := Lib.hid (by rw [Hs2.out, hfs])
    clear Hs2 hfs
    have hm8 : Bk (v6.setCell ⟨gm, 4, none⟩ (.slice A3 fs.length cap3)) gm 47 #[.int .u16 6, .int .u16 0, .string ⟨#[]⟩, .string ⟨#[]⟩, .slice A3 fs.length cap3] := by simpa using hm6.set 4 (.slice A3 fs.length cap3)
    have hx8 := hx6.far (p := ⟨gm, 4, none⟩) (by simpa using hgx) (.slice A3 fs.length cap3)
    have hF8 : Fr noB w (v6.setCell ⟨gm, 4, none⟩ (.slice A3 fs.length cap3)) := hF6.trans' ((Fr.refl (oneB gm) v6).setCell (p := ⟨gm, 4, none⟩) (fun _ => rfl) _) (fun b hb e => by unfold oneB at e; omega)
    have hA8 := (hA3.sub (T := fun b => b < gm + 1) (fun b _ x => by omega)).keep ((Fr.refl (fun b => b < gm + 1) v6).setCell (p := ⟨gm, 4, none⟩) (fun _ => by show gm < gm + 1; omega) (.slice A3 fs.length cap3))
    have hmc8 := hm8.cells
    clear hm6 hx6 hF6 hA3
    go_wp2_with ((refine wpList_store_bk rfl 47 (.tmp 2) (.tmp 70) rfl w.heap.size _ _ #[.int .u16 6, .int .u16 0, .string ⟨#[]⟩, .string ⟨#[]⟩, .slice A3 fs.length cap3] rfl rfl hx8 rfl (by kernel_rfl) (by simp [Value.oneCell']) ?_); intro w9 hx9 hf9)
    refine bodyPost_ret (results_row_tmp Tryd.results15 _ w9 w.heap.size _ _ _ _ rfl rfl hx9 Tryd.underlying47 rfl (by kernel_rfl)) rfl ?_
    exact ⟨⟨A3, cap3, by rw [Hyes.out]; rfl, by rw [Hyes.out]; exact (hA8.keep (hf9.mono fun b _ e => by unfold oneB at e; omega)).sub (fun b _ x => by omega)⟩, hF8.trans' hf9 (fun b hb e => by unfold oneB at e; omega)⟩
  · have Hs : readTFTP l = (if l.length < 4 then (tft0, 1) else if 1024 < (l.drop 4).length then (tft0, 7) else (⟨3, num (sub l 2 4), [], l.drop 4, []⟩, 0)) := by rw [Hspec.out]; rfl
    have HvN : Hid (w1.alloc (.cells #[.int .u16 3, .int .u16 0, .string ⟨#[]⟩, .string ⟨#[]⟩, .slice none 0 0] 47) = v2) := Hv2.out
    have hkw : IntKind.u16.wrap 3 = 3 := by decide
    by_cases h4 : l.length < 4
    · have h4i : (l.length : Int) < 4 := by omega
      have Hno : Hid (readTFTP l = (tft0, 1)) := Lib.hid (by rw [Hs, if_pos h4])
      clear Hs h4
      go_wp2_with ((rw [Hgm.out, HvN.out]; refine wpList_store_bk rfl 47 (.tmp 2) (.tmp 78) rfl w.heap.size _ _ #[.int .u16 0, .int .u16 0, .string ⟨#[]⟩, .string ⟨#[]⟩, .slice none 0 0] rfl rfl hx2 rfl (by kernel_rfl) (by kernel_rfl) ?_); intro w9 hx9 hf9)
      refine bodyPost_ret (results_row_tmp Tryd.results15 _ w9 w.heap.size _ _ _ _ rfl rfl hx9 Tryd.underlying47 rfl (by kernel_rfl)) rfl ?_
      exact ⟨⟨none, 0, by rw [Hno.out]; rfl, by rw [Hno.out]; exact SlR.nil⟩, hF2.trans' hf9 (fun b hb e => by unfold oneB at e; omega)⟩
    have h4i : ¬ (l.length : Int) < 4 := by omega
    rw [if_neg h4] at Hs
    go_wp2_with fail
    rw [Hgm.out, HvN.out]
    have hn4 := num_two' l 2
    obtain ⟨bk, hbk⟩ : ∃ bk, num (sub l 2 4) = bk := ⟨_, rfl⟩
    rw [hbk] at Hs hn4
    refine (refOf (sub l 2 4) v2 (by have := sub_le l 2 4; omega)).mono ?_
    rintro e v2' ⟨rfl, hv⟩
    cases hv
    rw [hbk]
    clear hbk
    have hbw := wrap_u16_num bk hn4
    have hm3 : Bk (v2.setCell ⟨gm, 1, none⟩ (.int .u16 (bk : Int))) gm 47 #[.int .u16 3, .int .u16 (bk : Int), .string ⟨#[]⟩, .string ⟨#[]⟩, .slice none 0 0] := by simpa using hm1.set 1 (.int .u16 (bk : Int))
    have hx3 := hx2.far (p := ⟨gm, 1, none⟩) (by simpa using hgx) (.int .u16 (bk : Int))
    have hF3 : Fr noB w (v2.setCell ⟨gm, 1, none⟩ (.int .u16 (bk : Int))) := hF2.trans' ((Fr.refl (oneB gm) v2).setCell (p := ⟨gm, 1, none⟩) (fun _ => rfl) _) (fun b hb e => by unfold oneB at e; omega)
    have hmc3 := hm3.cells
    have hmz3 := hm3.frees
    have hgm2 := hm1.lt
    have hgm3 := hm3.lt
    clear hm1 hx2 hF2
    go_wp2_with fail
    clear hmc2 hmz2
    generalize v2.setCell ⟨gm, 1, none⟩ (.int .u16 (bk : Int)) = v3 at *
    have hsr := sub_rest l 4
    obtain ⟨q, hq⟩ : ∃ q, l.drop 4 = q := ⟨_, rfl⟩
    have hql : q.length ≤ l.length := by rw [← hq, List.length_drop]; omega
    rw [hsr, hq]
    rw [hq] at Hs
    refine (refLines q v3 (by omega)).mono ?_
    rintro e v5 ⟨A, cap, rfl, hA, hcap, hwl, f5⟩
    obtain ⟨L, hL⟩ : ∃ L, (linesOf q).1 = L := ⟨_, rfl⟩
    obtain ⟨ok, hok⟩ : ∃ ok, (linesOf q).2 = ok := ⟨_, rfl⟩
    try rw [show linesOf q = (L, ok) by rw [← hL, ← hok]] at Hs
    rw [hL] at hA hcap hwl
    rw [hL, hok]
    clear hL hok hsr hq
    have hm5 := hm3.keep f5 (fun x => x)
    have hx5 := hx3.keep f5 (fun x => x)
    have hF5 := hF3.none f5
    have hmc5 := hm5.cells
    have hmz5 := hm5.frees
    have hgm5 := hm5.lt
    by_cases hbig : 1024 < q.length
    · have hbi : (1024 : Int) < (q.length : Int) := by omega
      have Hno : Hid (readTFTP l = (tft0, 7)) := Lib.hid (by rw [Hs, if_pos hbig])
      clear Hs hbig
      go_wp2_with ((refine wpList_store_bk rfl 47 (.tmp 2) (.tmp 100) rfl w.heap.size _ _ #[.int .u16 0, .int .u16 0, .string ⟨#[]⟩, .string ⟨#[]⟩, .slice none 0 0] rfl rfl hx5 rfl (by kernel_rfl) (by kernel_rfl) ?_); intro w9 hx9 hf9)
      refine bodyPost_ret (results_row_tmp Tryd.results15 _ w9 w.heap.size _ _ _ _ rfl rfl hx9 Tryd.underlying47 rfl (by kernel_rfl)) rfl ?_
      exact ⟨⟨none, 0, by rw [Hno.out]; rfl, by rw [Hno.out]; exact SlR.nil⟩, hF5.trans' hf9 (fun b hb e => by unfold oneB at e; omega)⟩
    have hbi : ¬ (1024 : Int) < (q.length : Int) := by omega
    have Hyes : Hid (readTFTP l = (⟨3, bk, [], q, []⟩, 0)) := Lib.hid (by rw [Hs, if_neg hbig])
    clear Hs hbig
    have hm8 : Bk (v5.setCell ⟨gm, 3, none⟩ (.string (bs q))) gm 47 #[.int .u16 3, .int .u16 (bk : Int), .string ⟨#[]⟩, .string (bs q), .slice none 0 0] := by simpa using hm5.set 3 (.string (bs q))
    have hx8 := hx5.far (p := ⟨gm, 3, none⟩) (by simpa using hgx) (.string (bs q))
    have hF8 : Fr noB w (v5.setCell ⟨gm, 3, none⟩ (.string (bs q))) := hF5.trans' ((Fr.refl (oneB gm) v5).setCell (p := ⟨gm, 3, none⟩) (fun _ => rfl) _) (fun b hb e => by unfold oneB at e; omega)
    have hmc8 := hm8.cells
    clear hm5 hx5 hF5
    go_wp2_with ((refine wpList_store_bk rfl 47 (.tmp 2) (.tmp 138) rfl w.heap.size _ _ #[.int .u16 3, .int .u16 (bk : Int), .string ⟨#[]⟩, .string (bs q), .slice none 0 0] rfl rfl hx8 rfl (by kernel_rfl) (by simp [Value.oneCell']) ?_); intro w9 hx9 hf9)
    refine bodyPost_ret (results_row_tmp Tryd.results15 _ w9 w.heap.size _ _ _ _ rfl rfl hx9 Tryd.underlying47 rfl (by kernel_rfl)) rfl ?_
    exact ⟨⟨none, 0, by rw [Hyes.out]; rfl, by rw [Hyes.out]; exact SlR.nil⟩, hF8.trans' hf9 (fun b hb e => by unfold oneB at e; omega)⟩
  · have Hs : readTFTP l = (if l.length < 4 then (tft0, 1) else if l.drop 4 ≠ [] then (tft0, 2) else (⟨4, num (sub l 2 4), [], [], []⟩, 0)) := by rw [Hspec.out]; rfl
    have HvN : Hid (w1.alloc (.cells #[.int .u16 4, .int .u16 0, .string ⟨#[]⟩, .string ⟨#[]⟩, .slice none 0 0] 47) = v2) := Hv2.out
    have hkw : IntKind.u16.wrap 4 = 4 := by decide
    by_cases h4 : l.length < 4
    · have h4i : (l.length : Int) < 4 := by omega
      have Hno : Hid (readTFTP l = (tft0, 1)) := Lib.hid (by rw [Hs, if_pos h4])
      clear Hs h4
      go_wp2_with ((rw [Hgm.out, HvN.out]; refine wpList_store_bk rfl 47 (.tmp 2) (.tmp 78) rfl w.heap.size _ _ #[.int .u16 0, .int .u16 0, .string ⟨#[]⟩, .string ⟨#[]⟩, .slice none 0 0] rfl rfl hx2 rfl (by kernel_rfl) (by kernel_rfl) ?_); intro w9 hx9 hf9)
      refine bodyPost_ret (results_row_tmp Tryd.results15 _ w9 w.heap.size _ _ _ _ rfl rfl hx9 Tryd.underlying47 rfl (by kernel_rfl)) rfl ?_
      exact ⟨⟨none, 0, by rw [Hno.out]; rfl, by rw [Hno.out]; exact SlR.nil⟩, hF2.trans' hf9 (fun b hb e => by unfold oneB at e; omega)⟩
    have h4i : ¬ (l.length : Int) < 4 := by omega
    rw [if_neg h4] at Hs
    go_wp2_with fail
    rw [Hgm.out, HvN.out]
    have hn4 := num_two' l 2
    obtain ⟨bk, hbk⟩ : ∃ bk, num (sub l 2 4) = bk := ⟨_, rfl⟩
    rw [hbk] at Hs hn4
    refine (refOf (sub l 2 4) v2 (by have := sub_le l 2 4; omega)).mono ?_
    rintro e v2' ⟨rfl, hv⟩
    cases hv
    rw [hbk]
    clear hbk
    have hbw := wrap_u16_num bk hn4
    have hm3 : Bk (v2.setCell ⟨gm, 1, none⟩ (.int .u16 (bk : Int))) gm 47 #[.int .u16 4, .int .u16 (bk : Int), .string ⟨#[]⟩, .string ⟨#[]⟩, .slice none 0 0] := by simpa using hm1.set 1 (.int .u16 (bk : Int))
    have hx3 := hx2.far (p := ⟨gm, 1, none⟩) (by simpa using hgx) (.int .u16 (bk : Int))
    have hF3 : Fr noB w (v2.setCell ⟨gm, 1, none⟩ (.int .u16 (bk : Int))) := hF2.trans' ((Fr.refl (oneB gm) v2).setCell (p := ⟨gm, 1, none⟩) (fun _ => rfl) _) (fun b hb e => by unfold oneB at e; omega)
    have hmc3 := hm3.cells
    have hmz3 := hm3.frees
    have hgm2 := hm1.lt
    have hgm3 := hm3.lt
    clear hm1 hx2 hF2
    go_wp2_with fail
    clear hmc2 hmz2
    generalize v2.setCell ⟨gm, 1, none⟩ (.int .u16 (bk : Int)) = v3 at *
    have hsr := sub_rest l 4
    obtain ⟨q, hq⟩ : ∃ q, l.drop 4 = q := ⟨_, rfl⟩
    have hql : q.length ≤ l.length := by rw [← hq, List.length_drop]; omega
    rw [hsr, hq]
    rw [hq] at Hs
    refine (refLines q v3 (by omega)).mono ?_
    rintro e v5 ⟨A, cap, rfl, hA, hcap, hwl, f5⟩
    obtain ⟨L, hL⟩ : ∃ L, (linesOf q).1 = L := ⟨_, rfl⟩
    obtain ⟨ok, hok⟩ : ∃ ok, (linesOf q).2 = ok := ⟨_, rfl⟩
    try rw [show linesOf q = (L, ok) by rw [← hL, ← hok]] at Hs
    rw [hL] at hA hcap hwl
    rw [hL, hok]
    clear hL hok hsr hq
    have hm5 := hm3.keep f5 (fun x => x)
    have hx5 := hx3.keep f5 (fun x => x)
    have hF5 := hF3.none f5
    have hmc5 := hm5.cells
    have hmz5 := hm5.frees
    have hgm5 := hm5.lt
    by_cases hqn : q = []
    rotate_left
    · have hqn2 := hqn
      have Hno : Hid (readTFTP l = (tft0, 2)) := Lib.hid (by rw [Hs, if_pos hqn])
      clear Hs
      go_wp2_with ((refine wpList_store_bk rfl 47 (.tmp 2) (.tmp 123) rfl w.heap.size _ _ #[.int .u16 0, .int .u16 0, .string ⟨#[]⟩, .string ⟨#[]⟩, .slice none 0 0] rfl rfl hx5 rfl (by kernel_rfl) (by kernel_rfl) ?_); intro w9 hx9 hf9)
      refine bodyPost_ret (results_row_tmp Tryd.results15 _ w9 w.heap.size _ _ _ _ rfl rfl hx9 Tryd.underlying47 rfl (by kernel_rfl)) rfl ?_
      exact ⟨⟨none, 0, by rw [Hno.out]; rfl, by rw [Hno.out]; exact SlR.nil⟩, hF5.trans' hf9 (fun b hb e => by unfold oneB at e; omega)⟩
    have Hyes : Hid (readTFTP l = (⟨4, bk, [], [], []⟩, 0)) := Lib.hid (by rw [Hs, if_neg (by simpa using hqn)])
    have hqb : (q == []) = true := by simpa using hqn
    have hqb2 : (q != []) = false := by simpa using hqn
    clear Hs hqn
    go_wp2_with ((refine wpList_store_bk rfl 47 (.tmp 2) (.tmp 138) rfl w.heap.size _ _ #[.int .u16 4, .int .u16 (bk : Int), .string ⟨#[]⟩, .string ⟨#[]⟩, .slice none 0 0] rfl rfl hx5 rfl (by kernel_rfl) (by simp [Value.oneCell']) ?_); intro w9 hx9 hf9)
    refine bodyPost_ret (results_row_tmp Tryd.results15 _ w9 w.heap.size _ _ _ _ rfl rfl hx9 Tryd.underlying47 rfl (by kernel_rfl)) rfl ?_
    exact ⟨⟨none, 0, by rw [Hyes.out]; rfl, by rw [Hyes.out]; exact SlR.nil⟩, hF5.trans' hf9 (fun b hb e => by unfold oneB at e; omega)⟩
  · have Hs : readTFTP l = (if l.length < 4 then (tft0, 1) else errL (num (sub l 2 4)) (linesOf (l.drop 4))) := by rw [Hspec.out]; rfl
    have HvN : Hid (w1.alloc (.cells #[.int .u16 5, .int .u16 0, .string ⟨#[]⟩, .string ⟨#[]⟩, .slice none 0 0] 47) = v2) := Hv2.out
    have hkw : IntKind.u16.wrap 5 = 5 := by decide
    by_cases h4 : l.length < 4
    · have h4i : (l.length : Int) < 4 := by omega
      have Hno : Hid (readTFTP l = (tft0, 1)) := Lib.hid (by rw [Hs, if_pos h4])
      clear Hs h4
      go_wp2_with ((rw [Hgm.out, HvN.out]; refine wpList_store_bk rfl 47 (.tmp 2) (.tmp 78) rfl w.heap.size _ _ #[.int .u16 0, .int .u16 0, .string ⟨#[]⟩, .string ⟨#[]⟩, .slice none 0 0] rfl rfl hx2 rfl (by kernel_rfl) (by kernel_rfl) ?_); intro w9 hx9 hf9)
      refine bodyPost_ret (results_row_tmp Tryd.results15 _ w9 w.heap.size _ _ _ _ rfl rfl hx9 Tryd.underlying47 rfl (by kernel_rfl)) rfl ?_
      exact ⟨⟨none, 0, by rw [Hno.out]; rfl, by rw [Hno.out]; exact SlR.nil⟩, hF2.trans' hf9 (fun b hb e => by unfold oneB at e; omega)⟩
    have h4i : ¬ (l.length : Int) < 4 := by omega
    rw [if_neg h4] at Hs
    go_wp2_with fail
    rw [Hgm.out, HvN.out]
    have hn4 := num_two' l 2
    obtain ⟨bk, hbk⟩ : ∃ bk, num (sub l 2 4) = bk := ⟨_, rfl⟩
    rw [hbk] at Hs hn4
    refine (refOf (sub l 2 4) v2 (by have := sub_le l 2 4; omega)).mono ?_
    rintro e v2' ⟨rfl, hv⟩
    cases hv
    rw [hbk]
    clear hbk
    have hbw := wrap_u16_num bk hn4
    have hm3 : Bk (v2.setCell ⟨gm, 1, none⟩ (.int .u16 (bk : Int))) gm 47 #[.int .u16 5, .int .u16 (bk : Int), .string ⟨#[]⟩, .string ⟨#[]⟩, .slice none 0 0] := by simpa using hm1.set 1 (.int .u16 (bk : Int))
    have hx3 := hx2.far (p := ⟨gm, 1, none⟩) (by simpa using hgx) (.int .u16 (bk : Int))
    have hF3 : Fr noB w (v2.setCell ⟨gm, 1, none⟩ (.int .u16 (bk : Int))) := hF2.trans' ((Fr.refl (oneB gm) v2).setCell (p := ⟨gm, 1, none⟩) (fun _ => rfl) _) (fun b hb e => by unfold oneB at e; omega)
    have hmc3 := hm3.cells
    have hmz3 := hm3.frees
    have hgm2 := hm1.lt
    have hgm3 := hm3.lt
    clear hm1 hx2 hF2
    go_wp2_with fail
    clear hmc2 hmz2
    generalize v2.setCell ⟨gm, 1, none⟩ (.int .u16 (bk : Int)) = v3 at *
    have hsr := sub_rest l 4
    obtain ⟨q, hq⟩ : ∃ q, l.drop 4 = q := ⟨_, rfl⟩
    have hql : q.length ≤ l.length := by rw [← hq, List.length_drop]; omega
    rw [hsr, hq]
    rw [hq] at Hs
    refine (refLines q v3 (by omega)).mono ?_
    rintro e v5 ⟨A, cap, rfl, hA, hcap, hwl, f5⟩
    obtain ⟨L, hL⟩ : ∃ L, (linesOf q).1 = L := ⟨_, rfl⟩
    obtain ⟨ok, hok⟩ : ∃ ok, (linesOf q).2 = ok := ⟨_, rfl⟩
    try rw [show linesOf q = (L, ok) by rw [← hL, ← hok]] at Hs
    rw [hL] at hA hcap hwl
    rw [hL, hok]
    clear hL hok hsr hq
    have hm5 := hm3.keep f5 (fun x => x)
    have hx5 := hx3.keep f5 (fun x => x)
    have hF5 := hF3.none f5
    have hmc5 := hm5.cells
    have hmz5 := hm5.frees
    have hgm5 := hm5.lt
    cases ok with
    | false =>
      have Hno : Hid (readTFTP l = (tft0, 2)) := Lib.hid (by rw [Hs]; cases L with | nil => rfl | cons a L => cases L <;> rfl)
      clear Hs
      go_wp2_with ((refine wpList_store_bk rfl 47 (.tmp 2) (.tmp 123) rfl w.heap.size _ _ #[.int .u16 0, .int .u16 0, .string ⟨#[]⟩, .string ⟨#[]⟩, .slice none 0 0] rfl rfl hx5 rfl (by kernel_rfl) (by kernel_rfl) ?_); intro w9 hx9 hf9)
      refine bodyPost_ret (results_row_tmp Tryd.results15 _ w9 w.heap.size _ _ _ _ rfl rfl hx9 Tryd.underlying47 rfl (by kernel_rfl)) rfl ?_
      exact ⟨⟨none, 0, by rw [Hno.out]; rfl, by rw [Hno.out]; exact SlR.nil⟩, hF5.trans' hf9 (fun b hb e => by unfold oneB at e; omega)⟩
    | true =>
    match L, Hs, hA, hcap, hwl with
    | [], Hs, hA, hcap, hwl =>
      have Hno : Hid (readTFTP l = (tft0, 2)) := Lib.hid Hs
      clear Hs
      simp only [List.length_nil]
      go_wp2_with ((refine wpList_store_bk rfl 47 (.tmp 2) (.tmp 123) rfl w.heap.size _ _ #[.int .u16 0, .int .u16 0, .string ⟨#[]⟩, .string ⟨#[]⟩, .slice none 0 0] rfl rfl hx5 rfl (by kernel_rfl) (by kernel_rfl) ?_); intro w9 hx9 hf9)
      refine bodyPost_ret (results_row_tmp Tryd.results15 _ w9 w.heap.size _ _ _ _ rfl rfl hx9 Tryd.underlying47 rfl (by kernel_rfl)) rfl ?_
      exact ⟨⟨none, 0, by rw [Hno.out]; rfl, by rw [Hno.out]; exact SlR.nil⟩, hF5.trans' hf9 (fun b hb e => by unfold oneB at e; omega)⟩
    | a :: b :: r, Hs, hA, hcap, hwl =>
      have Hno : Hid (readTFTP l = (tft0, 2)) := Lib.hid Hs
      have hrb : (((r.length + 1 + 1 : Nat) : Int) != 1) = true := by simp; omega
      have hrb2 : ((r.length : Int) + 1 + 1 != 1) = true := by simp; omega
      have hrb3 : ((r.length : Int) + 1 + 1 == 1) = false := by simp; omega
      clear Hs
      simp only [List.length_cons]
      go_wp2_with ((refine wpList_store_bk rfl 47 (.tmp 2) (.tmp 123) rfl w.heap.size _ _ #[.int .u16 0, .int .u16 0, .string ⟨#[]⟩, .string ⟨#[]⟩, .slice none 0 0] rfl rfl hx5 rfl (by kernel_rfl) (by kernel_rfl) ?_); intro w9 hx9 hf9)
      refine bodyPost_ret (results_row_tmp Tryd.results15 _ w9 w.heap.size _ _ _ _ rfl rfl hx9 Tryd.underlying47 rfl (by kernel_rfl)) rfl ?_
      exact ⟨⟨none, 0, by rw [Hno.out]; rfl, by rw [Hno.out]; exact SlR.nil⟩, hF5.trans' hf9 (fun b hb e => by unfold oneB at e; omega)⟩
    | [a], Hs, hA, hcap, hwl =>
    have Hyes : Hid (readTFTP l = (⟨5, bk, a, [], []⟩, 0)) := Lib.hid Hs
    obtain ⟨ad, rfl, had, _, hcell⟩ := id hA.2 (by simp)
    have c0 : v5.cell? ad = some (.string (bs a)) := by have h := hcell 0 (.string (bs a)) rfl; simpa [Addr.add] using h
    simp only [List.length_singleton] at hcap ⊢
    clear hcell Hs hA
    have hm8 : Bk (v5.setCell ⟨gm, 2, none⟩ (.string (bs a))) gm 47 #[.int .u16 5, .int .u16 (bk : Int), .string (bs a), .string ⟨#[]⟩, .slice none 0 0] := by simpa using hm5.set 2 (.string (bs a))
    have hx8 := hx5.far (p := ⟨gm, 2, none⟩) (by simpa using hgx) (.string (bs a))
    have hF8 : Fr noB w (v5.setCell ⟨gm, 2, none⟩ (.string (bs a))) := hF5.trans' ((Fr.refl (oneB gm) v5).setCell (p := ⟨gm, 2, none⟩) (fun _ => rfl) _) (fun b hb e => by unfold oneB at e; omega)
    have hmc8 := hm8.cells
    clear hm5 hx5 hF5
    go_wp2_with ((refine wpList_store_bk rfl 47 (.tmp 2) (.tmp 138) rfl w.heap.size _ _ #[.int .u16 5, .int .u16 (bk : Int), .string (bs a), .string ⟨#[]⟩, .slice none 0 0] rfl rfl hx8 rfl (by kernel_rfl) (by simp [Value.oneCell']) ?_); intro w9 hx9 hf9)
    refine bodyPost_ret (results_row_tmp Tryd.results15 _ w9 w.heap.size _ _ _ _ rfl rfl hx9 Tryd.underlying47 rfl (by kernel_rfl)) rfl ?_
    exact ⟨⟨none, 0, by rw [Hyes.out]; rfl, by rw [Hyes.out]; exact SlR.nil⟩, hF8.trans' hf9 (fun b hb e => by unfold oneB at e; omega)⟩
  · have Hno : Hid (readTFTP l = (tft0, 2)) := Lib.hid (by rw [Hspec.out, if_neg k1, if_neg k6, if_neg k3, if_neg k4, if_neg k5])
    have b1 : ((k : Int) == 1) = false := by simp; omega
    have b2 : ((k : Int) == 6) = false := by simp; omega
    have b3 : ((k : Int) == 3) = false := by simp; omega
    have b4 : ((k : Int) == 4) = false := by simp; omega
    have b5 : ((k : Int) == 5) = false := by simp; omega
    clear k1 k6 k3 k4 k5
    go_wp2_with ((rw [Hgm.out, Hv2.out]; refine wpList_store_bk rfl 47 (.tmp 2) (.tmp 21) rfl w.heap.size _ _ #[.int .u16 0, .int .u16 0, .string ⟨#[]⟩, .string ⟨#[]⟩, .slice none 0 0] rfl rfl hx2 rfl (by kernel_rfl) (by kernel_rfl) ?_); intro w9 hx9 hf9)
    refine bodyPost_ret (results_row_tmp Tryd.results15 _ w9 w.heap.size _ _ _ _ rfl rfl hx9 Tryd.underlying47 rfl (by kernel_rfl)) rfl ?_
    exact ⟨⟨none, 0, by rw [Hno.out]; rfl, by rw [Hno.out]; exact SlR.nil⟩, hF2.trans' hf9 (fun b hb e => by unfold oneB at e; omega)⟩
end Go.Proofs.YtcbkaiakdhiloabDoor
