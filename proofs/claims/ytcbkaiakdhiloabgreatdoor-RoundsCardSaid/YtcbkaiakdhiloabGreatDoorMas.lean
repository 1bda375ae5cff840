/- tftp.Read's reading function. Written by mktftby.py. -/
import Derived.Test.YtcbkaiakdhiloabGreatDoorMar
import Derived.Test.YtcbkaiakdhiloabGreatDoorMan
set_option linter.unusedSimpArgs false
set_option linter.unusedVariables false
namespace Go.Proofs.YtcbkaiakdhiloabGreatDoor
open Go.RowKit Go.Proofs
attribute [local go_sem] bs_size bs_append bs_extract bs_toList

def TftOk (B : Nat) (l : List UInt8) (x : Value) (w : World) : Prop :=
  ∃ d A cap, x = .agg (tftC d A cap) ∧ readTFTP l = (d, 0) ∧ SlR w (fun k => k < B) 2 A d.fs.length (fldC d.fs) ∧ wtF d.fs ≤ l.length
def TftBad (l : List UInt8) (er : Int) : Prop := ∃ k : Nat, er = ((k + 1 : Nat) : Int) ∧ readTFTP l = (tft0, k + 1)
theorem asc_octet : asc octet := by unfold asc octet; decide
theorem num_two (l : List UInt8) (i : Nat) : num (sub l i (i + 2)) < 65536 := by
  have h := num_le (sub l i (i + 2))
  have h2 := sub_le l i (i + 2)
  have h3 : 256 ^ (sub l i (i + 2)).length ≤ 256 ^ 2 := Nat.pow_le_pow_right (by omega) (by omega)
  omega
set_option maxRecDepth 20000 in
set_option maxHeartbeats 2000000 in
theorem tftBy (B : Nat) (l : List UInt8) (hl : l.length ≤ 1099511627) (p : Nat) (w : World) (hR : Rd w p l) (hT : Tabs w) (hp1 : ¬ oneB p 7) (hp2 : ¬ oneB p 8) (hB : B ≤ w.heap.size) :
    Calls Tryz.prog 126 #[.pointer (some ⟨p, 0, none⟩)] w (byPostW noB (TftOk B l) (TftBad l) p w) := by
  have hp := Bk.lt hR
  go_enter Tryz.func126, Tryz.ntmps126
  have hr0 : Rd (w.alloc (.cells zcTft 81)) p (l.drop 0) := by rw [List.drop_zero]; exact Bk.alloc hR _
  have hx0 := Bk.new w 81 zcTft
  have hf0 : Fr noB w (w.alloc (.cells zcTft 81)) := (Fr.refl _ _).alloc _
  have hT0 := hT.none hf0
  unfold zcTft at hr0 hx0 hf0 hT0
  have hl63 : l.length ≤ 9223372036854775807 := by omega
  go_wp2_with fail
  generalize w.alloc (.cells #[.int .u16 0, .int .u16 0, .string ⟨#[]⟩, .string ⟨#[]⟩, .slice none 0 0] 81) = v0 at *
  by_cases h2 : l.length < 2
  · have hn2 : (l.drop 0).length < 2 := by simpa using h2
    refine (rU16 p (l.drop 0) v0 hr0 (by rw [List.length_drop]; omega)).mono ?_
    rintro e v1 (⟨hle, _⟩ | ⟨hlt, rfl, f1⟩)
    · omega
    · exact ⟨rfl, .inr ⟨1, ⟨0, rfl, by unfold readTFTP; rw [if_pos h2]⟩, rfl⟩, ((hf0.of_no _).trans f1).mono fun b _ e => .inl e⟩
  refine (aU16 0 p l v0 hr0 hl63 (by omega)).mono ?_
  rintro e v1 ⟨rfl, hr1, f1⟩
  have hk16 := num_two l 0
  have hspec : readTFTP l = (if num (sub l 0 (0 + 2)) = 1 then match lineOf (l.drop 2) with
    | none => (tft0, 2)
    | some (a, r) => if wordB a = false then (tft0, 2) else match lineOf r with
      | none => (tft0, 2)
      | some (b, r2) => if lowL b = octet then (match fldRd [] r2 with
        | none => (tft0, 2)
        | some fs => (⟨1, 0, a, [], fs⟩, 0)) else (tft0, 2)
    else if num (sub l 0 (0 + 2)) = 6 then match fldRd [] (l.drop 2) with
      | none => (tft0, 2)
      | some fs => (⟨6, 0, [], [], fs⟩, 0)
    else if num (sub l 0 (0 + 2)) = 3 then if l.length < 4 then (tft0, 1) else if 1024 < (l.drop 4).length then (tft0, 7) else (⟨3, num (sub l 2 4), [], l.drop 4, []⟩, 0)
    else if num (sub l 0 (0 + 2)) = 4 then if l.length < 4 then (tft0, 1) else if l.drop 4 ≠ [] then (tft0, 2) else (⟨4, num (sub l 2 4), [], [], []⟩, 0)
    else if num (sub l 0 (0 + 2)) = 5 then if l.length < 4 then (tft0, 1) else match lineOf (l.drop 4) with
      | some (a, []) => (⟨5, num (sub l 2 4), a, [], []⟩, 0)
      | _ => (tft0, 2)
    else (tft0, 2)) := by unfold readTFTP; rw [if_neg h2]; rfl
  obtain ⟨k, hk⟩ : ∃ k, num (sub l 0 (0 + 2)) = k := ⟨_, rfl⟩
  rw [hk] at hspec hk16
  rw [hk]
  clear hk
  have hm1 := Bk.new v1 81 #[.int .u16 (k : Int), .int .u16 0, .string ⟨#[]⟩, .string ⟨#[]⟩, .slice none 0 0]
  have hr2 := Bk.alloc hr1 (.cells #[.int .u16 (k : Int), .int .u16 0, .string ⟨#[]⟩, .string ⟨#[]⟩, .slice none 0 0] 81)
  have hx2 := (hx0.keep f1 (by unfold oneB; omega)).alloc (.cells #[.int .u16 (k : Int), .int .u16 0, .string ⟨#[]⟩, .string ⟨#[]⟩, .slice none 0 0] 81)
  have hF2 := ((hf0.of_no (oneB p)).trans f1).alloc (.cells #[.int .u16 (k : Int), .int .u16 0, .string ⟨#[]⟩, .string ⟨#[]⟩, .slice none 0 0] 81)
  have hT2 := (hT0.keep f1 hp1 hp2).none ((Fr.refl _ _).alloc (.cells #[.int .u16 (k : Int), .int .u16 0, .string ⟨#[]⟩, .string ⟨#[]⟩, .slice none 0 0] 81))
  have hxm : w.heap.size < v1.heap.size := (hx0.keep f1 (by unfold oneB; omega)).lt
  have hpm : p < v1.heap.size := Bk.lt hr1
  obtain ⟨v2, hv2⟩ : ∃ v2, v1.alloc (.cells #[.int .u16 (k : Int), .int .u16 0, .string ⟨#[]⟩, .string ⟨#[]⟩, .slice none 0 0] 81) = v2 := ⟨_, rfl⟩
  rw [hv2] at hm1 hr2 hx2 hF2 hT2
  obtain ⟨gm, hgm⟩ : ∃ gm, v1.heap.size = gm := ⟨_, rfl⟩
  rw [hgm] at hm1 hxm hpm
  have hgx : w.heap.size ≠ gm := by omega
  have hgp : p ≠ gm := by omega
  have hmc2 := hm1.cells
  have hmz2 := hm1.frees
  have Hv2 := Lib.hid hv2
  have Hgm := Lib.hid hgm
  have Hspec := Lib.hid hspec
  have HT := Lib.hid hT
  clear hgm hv2 hspec hx0 hf0 hT0 hr0 f1 hr1 hR hT
  have hk : k = 1 ∨ k = 6 ∨ k = 3 ∨ k = 4 ∨ k = 5 ∨ (k ≠ 1 ∧ k ≠ 6 ∧ k ≠ 3 ∧ k ≠ 4 ∧ k ≠ 5) := by omega
  rcases hk with rfl | rfl | rfl | rfl | rfl | ⟨k1, k6, k3, k4, k5⟩
  · have HvN : Hid (v1.alloc (.cells #[.int .u16 1, .int .u16 0, .string ⟨#[]⟩, .string ⟨#[]⟩, .slice none 0 0] 81) = v2) := Hv2.out
    have Hs1 : Hid (readTFTP l = match lineOf (l.drop (0 + 2)) with
      | none => (tft0, 2)
      | some (a, r) => if wordB a = false then (tft0, 2) else match lineOf r with
        | none => (tft0, 2)
        | some (b, r2) => if lowL b = octet then (match fldRd [] r2 with
          | none => (tft0, 2)
          | some fs => (⟨1, 0, a, [], fs⟩, 0)) else (tft0, 2)) := Lib.hid (by rw [Hspec.out]; simp only [if_true])
    go_wp2_with fail
    rw [Hgm.out, HvN.out]
    refine (rLine p _ v2 hr2 (by rw [List.length_drop]; omega)).mono ?_
    rintro e v5 (⟨a, r, h1, rfl, hr5, f5⟩ | ⟨h1, rfl, f5⟩)
    rotate_left
    · exact ⟨rfl, .inr ⟨2, ⟨1, rfl, by rw [Hs1.out, h1]⟩, rfl⟩, (hF2.trans f5).mono fun b _ e => .inl e⟩
    have hla := lineOf_len _ _ _ h1
    rw [List.length_drop] at hla
    have H1 := Lib.hid h1
    clear h1
    have hm5 := hm1.keep f5 (by unfold oneB; omega)
    have hx5 := hx2.keep f5 (by unfold oneB; omega)
    have hF5 := hF2.trans f5
    have hT5 := hT2.keep f5 hp1 hp2
    have hmc5 := hm5.cells
    have hmz5 := hm5.frees
    have hm6 : Bk (v5.setCell ⟨gm, 2, none⟩ (.string (bs a))) gm 81 #[.int .u16 1, .int .u16 0, .string (bs a), .string ⟨#[]⟩, .slice none 0 0] := by simpa using hm5.set 2 (.string (bs a))
    have hr6 : Rd (v5.setCell ⟨gm, 2, none⟩ (.string (bs a))) p r := Bk.far hr5 (p := ⟨gm, 2, none⟩) hgp _
    have hx6 := hx5.far (p := ⟨gm, 2, none⟩) (by simpa using hgx) (.string (bs a))
    have hF6 : Fr (oneB p) w (v5.setCell ⟨gm, 2, none⟩ (.string (bs a))) := hF5.setCell (p := ⟨gm, 2, none⟩) (fun h => absurd h (by simp; omega)) _
    have hT6 : Tabs (v5.setCell ⟨gm, 2, none⟩ (.string (bs a))) := hT5.keep (S := oneB gm) ((Fr.refl (oneB gm) v5).setCell (p := ⟨gm, 2, none⟩) (fun _ => rfl) _) (by have := HT.out.lt; unfold oneB; omega) (by have := HT.out.lt; unfold oneB; omega)
    have hmc6 := hm6.cells
    clear hm1 hx2 hF2 hr2 hm5 hx5 hF5 hr5 hT5 f5 hmc2 hmz2
    go_wp2_with fail
    clear hmc5 hmz5
    generalize v5.setCell ⟨gm, 2, none⟩ (.string (bs a)) = v6 at *
    refine (tftpAscii a v6 (by omega)).mono ?_
    rintro e v7 ⟨rfl, rfl⟩
    cases hwa : wordB a with
    | false =>
      have Hno : Hid (readTFTP l = (tft0, 2)) := Lib.hid (by rw [Hs1.out, H1.out]; simp only [hwa, if_true])
      clear hwa
      go_wp2_with fail
      refine (must_no 2 _).mono ?_
      rintro x w3 ⟨rfl, rfl⟩
      exact ⟨rfl, .inr ⟨2, ⟨1, rfl, Hno.out⟩, rfl⟩, hF6.mono fun b _ e => .inl e⟩
    | true =>
    have Hs2 : Hid (readTFTP l = match lineOf r with
        | none => (tft0, 2)
        | some (b, r2) => if lowL b = octet then (match fldRd [] r2 with
          | none => (tft0, 2)
          | some fs => (⟨1, 0, a, [], fs⟩, 0)) else (tft0, 2)) := Lib.hid (by rw [Hs1.out, H1.out]; simp only [hwa]; rfl)
    clear hwa
    go_wp2_with fail
    refine (rLine p r _ hr6 (by omega)).mono ?_
    rintro e v8 (⟨b, r2, h1, rfl, hr8, f8⟩ | ⟨h1, rfl, f8⟩)
    rotate_left
    · exact ⟨rfl, .inr ⟨2, ⟨1, rfl, by rw [Hs2.out, h1]⟩, rfl⟩, (hF6.trans f8).mono fun b _ e => .inl e⟩
    have hlb := lineOf_len _ _ _ h1
    have H2 := Lib.hid h1
    clear h1
    have hm8 := hm6.keep f8 (by unfold oneB; omega)
    have hx8 := hx6.keep f8 (by unfold oneB; omega)
    have hF8 := hF6.trans f8
    have hT8 := hT6.keep f8 hp1 hp2
    clear hm6 hx6 hF6 hr6 hT6 f8 hmc6
    go_wp2_with fail
    refine (tftLower b _ (by omega) hT8).mono ?_
    rintro e v9 ⟨rfl, f9⟩
    have hm9 := hm8.keep f9 (fun x => x)
    have hx9' := hx8.keep f9 (fun x => x)
    have hF9 := hF8.none f9
    have hT9 := hT8.none f9
    have hr9 := Bk.keep hr8 f9 (fun x => x)
    clear hm8 hx8 hF8 hT8 hr8 f9
    by_cases hoc : lowL b = octet
    rotate_left
    · have Hno : Hid (readTFTP l = (tft0, 2)) := Lib.hid (by rw [Hs2.out, H2.out]; simp only [if_neg hoc])
      have hob : (lowD b == [111, 99, 116, 101, 116]) = false := by
        rw [beq_eq_false_iff_ne]
        intro h; exact hoc ((lowD_iff b octet asc_octet).1 h)
      clear hoc
      go_wp2_with fail
      refine (must_no 2 _).mono ?_
      rintro x w3 ⟨rfl, rfl⟩
      exact ⟨rfl, .inr ⟨2, ⟨1, rfl, Hno.out⟩, rfl⟩, hF9.mono fun b _ e => .inl e⟩
    have hob : (lowD b == [111, 99, 116, 101, 116]) = true := by
      rw [beq_iff_eq]
      exact (lowD_iff b octet asc_octet).2 hoc
    have Hs3 : Hid (readTFTP l = match fldRd [] r2 with
          | none => (tft0, 2)
          | some fs => (⟨1, 0, a, [], fs⟩, 0)) := Lib.hid (by rw [Hs2.out, H2.out]; simp only [if_pos hoc])
    clear hoc
    go_wp2_with fail
    refine (must_yes 2 _).mono ?_
    rintro x w3 ⟨rfl, rfl⟩
    have hrl : r2.length ≤ l.length := by omega
    go_wp2_with fail
    refine (tftFields p r2 v9 hr9 hT9 hp1 hp2 (by omega)).mono ?_
    rintro e vf (⟨fs, A, cap, h1, rfl, hA, hrf, hwf, ff⟩ | ⟨h1, rfl, ff⟩)
    rotate_left
    · exact ⟨rfl, .inr ⟨2, ⟨1, rfl, by rw [Hs3.out, h1]⟩, rfl⟩, (hF9.trans ff).mono fun b _ e => .inl e⟩
    have hsp : readTFTP l = (⟨1, 0, a, [], fs⟩, 0) := by rw [Hs3.out, h1]
    clear h1
    have hmf := hm9.keep ff (by unfold oneB; omega)
    have hxf := hx9'.keep ff (by unfold oneB; omega)
    have hFf := hF9.trans ff
    have hmcf := hmf.cells
    have hmzf := hmf.frees
    have hgl := hm9.lt
    have hxl := hx9'.lt
    have hBl : B ≤ v9.heap.size := Nat.le_trans hB hF9.size
    have hmg : Bk (vf.setCell ⟨gm, 4, none⟩ (.slice A fs.length cap)) gm 81 #[.int .u16 1, .int .u16 0, .string (bs a), .string ⟨#[]⟩, .slice A fs.length cap] := by simpa using hmf.set 4 (.slice A fs.length cap)
    have hxg := hxf.far (p := ⟨gm, 4, none⟩) (by simpa using hgx) (.slice A fs.length cap)
    have hFg : Fr (oneB p) w (vf.setCell ⟨gm, 4, none⟩ (.slice A fs.length cap)) := hFf.setCell (p := ⟨gm, 4, none⟩) (fun h => absurd h (by simp; omega)) _
    have hAg := hA.keep ((Fr.refl (fun k => k < v9.heap.size) vf).setCell (p := ⟨gm, 4, none⟩) (fun _ => hgl) (.slice A fs.length cap))
    have hmc := hmg.cells
    have Hsp := Lib.hid hsp
    clear hsp
    go_wp2_with ((refine wpList_store_bk rfl 81 (.tmp 2) (.tmp 63) rfl w.heap.size _ _ #[.int .u16 1, .int .u16 0, .string (bs a), .string ⟨#[]⟩, .slice A fs.length cap] rfl rfl hxg rfl (by kernel_rfl) (by kernel_rfl) ?_); intro w9 hx9 hf9)
    have hcx := hx9.cells
    refine bodyPost_ret (v := Value.agg (tftC ⟨1, 0, a, [], fs⟩ A cap)) (by simp [results, Tryz.results126, go_sem, hcx, tftC, bs_nil']) rfl ?_
    refine ⟨.inl ⟨_, ⟨_, A, cap, rfl, Hsp.out, ?_, (by show wtF fs ≤ l.length; omega)⟩, rfl⟩, (hFg.trans' hf9 (fun b hb e => by unfold oneB at e; omega)).mono fun b _ e => .inl e⟩
    exact (hAg.keep (hf9.mono fun b hb e => by unfold oneB at e; omega)).sub (fun b hb h => by omega)
  · have HvN : Hid (v1.alloc (.cells #[.int .u16 6, .int .u16 0, .string ⟨#[]⟩, .string ⟨#[]⟩, .slice none 0 0] 81) = v2) := Hv2.out
    have Hs3 : Hid (readTFTP l = match fldRd [] (l.drop 2) with
      | none => (tft0, 2)
      | some fs => (⟨6, 0, [], [], fs⟩, 0)) := Lib.hid (by rw [Hspec.out]; simp only [show ¬ (6 : Nat) = 1 by omega, if_false, if_true])
    go_wp2_with fail
    rw [Hgm.out, HvN.out]
    have hrb : (l.drop (0 + 2)).length ≤ 1099511627 := by rw [List.length_drop]; omega
    have hrl : (l.drop (0 + 2)).length ≤ l.length := by rw [List.length_drop]; omega
    refine (tftFields p (l.drop (0 + 2)) v2 hr2 hT2 hp1 hp2 (by omega)).mono ?_
    rintro e vf (⟨fs, A, cap, h1, rfl, hA, hrf, hwf, ff⟩ | ⟨h1, rfl, ff⟩)
    rotate_left
    · exact ⟨rfl, .inr ⟨2, ⟨1, rfl, by rw [Hs3.out, h1]⟩, rfl⟩, (hF2.trans ff).mono fun b _ e => .inl e⟩
    have hsp : readTFTP l = (⟨6, 0, [], [], fs⟩, 0) := by rw [Hs3.out, h1]
    clear h1
    have hmf := hm1.keep ff (by unfold oneB; omega)
    have hxf := hx2.keep ff (by unfold oneB; omega)
    have hFf := hF2.trans ff
    have hmcf := hmf.cells
    have hmzf := hmf.frees
    have hgl := hm1.lt
    have hxl := hx2.lt
    have hBl : B ≤ (v2).heap.size := Nat.le_trans hB hF2.size
    have hmg : Bk (vf.setCell ⟨gm, 4, none⟩ (.slice A fs.length cap)) gm 81 #[.int .u16 6, .int .u16 0, .string ⟨#[]⟩, .string ⟨#[]⟩, .slice A fs.length cap] := by simpa using hmf.set 4 (.slice A fs.length cap)
    have hxg := hxf.far (p := ⟨gm, 4, none⟩) (by simpa using hgx) (.slice A fs.length cap)
    have hFg : Fr (oneB p) w (vf.setCell ⟨gm, 4, none⟩ (.slice A fs.length cap)) := hFf.setCell (p := ⟨gm, 4, none⟩) (fun h => absurd h (by simp; omega)) _
    have hAg := hA.keep ((Fr.refl (fun k => k < (v2).heap.size) vf).setCell (p := ⟨gm, 4, none⟩) (fun _ => hgl) (.slice A fs.length cap))
    have hmc := hmg.cells
    have Hsp := Lib.hid hsp
    clear hsp
    go_wp2_with ((refine wpList_store_bk rfl 81 (.tmp 2) (.tmp 63) rfl w.heap.size _ _ #[.int .u16 6, .int .u16 0, .string ⟨#[]⟩, .string ⟨#[]⟩, .slice A fs.length cap] rfl rfl hxg rfl (by kernel_rfl) (by kernel_rfl) ?_); intro w9 hx9 hf9)
    have hcx := hx9.cells
    refine bodyPost_ret (v := Value.agg (tftC ⟨6, 0, [], [], fs⟩ A cap)) (by simp [results, Tryz.results126, go_sem, hcx, tftC, bs_nil']) rfl ?_
    refine ⟨.inl ⟨_, ⟨_, A, cap, rfl, Hsp.out, ?_, (by show wtF fs ≤ l.length; omega)⟩, rfl⟩, (hFg.trans' hf9 (fun b hb e => by unfold oneB at e; omega)).mono fun b _ e => .inl e⟩
    exact (hAg.keep (hf9.mono fun b hb e => by unfold oneB at e; omega)).sub (fun b hb h => by omega)
  · have HvN : Hid (v1.alloc (.cells #[.int .u16 3, .int .u16 0, .string ⟨#[]⟩, .string ⟨#[]⟩, .slice none 0 0] 81) = v2) := Hv2.out
    by_cases h4 : l.length < 4
    · have hsp : readTFTP l = (tft0, 1) := by rw [Hspec.out]; simp [h4]
      have Hsp := Lib.hid hsp
      clear hsp
      go_wp2_with fail
      rw [Hgm.out, HvN.out]
      refine (rU16 p (l.drop (0 + 2)) v2 hr2 (by rw [List.length_drop]; omega)).mono ?_
      rintro e v3 (⟨hle, _⟩ | ⟨hlt, rfl, f3⟩)
      · rw [List.length_drop] at hle; omega
      · exact ⟨rfl, .inr ⟨1, ⟨0, rfl, Hsp.out⟩, rfl⟩, (hF2.trans f3).mono fun b _ e => .inl e⟩
    go_wp2_with fail
    rw [Hgm.out, HvN.out]
    refine (aU16 (0 + 2) p l v2 hr2 hl63 (by omega)).mono ?_
    rintro e v3 ⟨rfl, hr3, f3⟩
    have hm3 := hm1.keep f3 (by unfold oneB; omega)
    have hx3 := hx2.keep f3 (by unfold oneB; omega)
    have hF3 := hF2.trans f3
    obtain ⟨bk, hbk⟩ : ∃ k, num (sub l (0 + 2) (0 + 2 + 2)) = k := ⟨_, rfl⟩
    rw [hbk]
    have Hbk := Lib.hid (show num (sub l 2 4) = bk from hbk)
    have hmc3 := hm3.cells
    have hmz3 := hm3.frees
    have hm4 : Bk (v3.setCell ⟨gm, 1, none⟩ (.int .u16 (bk : Int))) gm 81 #[.int .u16 3, .int .u16 (bk : Int), .string ⟨#[]⟩, .string ⟨#[]⟩, .slice none 0 0] := by simpa using hm3.set 1 (.int .u16 (bk : Int))
    have hr4 : Rd (v3.setCell ⟨gm, 1, none⟩ (.int .u16 (bk : Int))) p (l.drop (0 + 2 + 2)) := Bk.far hr3 (p := ⟨gm, 1, none⟩) hgp _
    have hx4 := hx3.far (p := ⟨gm, 1, none⟩) (by simpa using hgx) (.int .u16 (bk : Int))
    have hF4 : Fr (oneB p) w (v3.setCell ⟨gm, 1, none⟩ (.int .u16 (bk : Int))) := hF3.setCell (p := ⟨gm, 1, none⟩) (fun h => absurd h (by simp; omega)) _
    clear hbk hm3 hr3 hx3 hF3 f3 hm1 hx2 hF2 hr2 hmc2 hmz2
    go_wp2_with fail
    clear hmc3 hmz3
    generalize v3.setCell ⟨gm, 1, none⟩ (.int .u16 (bk : Int)) = v4 at *
    refine (rLen p _ v4 hr4).mono ?_
    rintro e v5 ⟨rfl, rfl⟩
    obtain ⟨rest, hrest⟩ : ∃ r, l.drop (0 + 2 + 2) = r := ⟨_, rfl⟩
    have Hrest := Lib.hid (show l.drop 4 = rest from hrest)
    have hrb : rest.length ≤ 1099511627 := by rw [← hrest, List.length_drop]; omega
    rw [hrest] at hr4
    rw [hrest]
    clear hrest
    by_cases hlong : 1024 < rest.length
    · have hsp : readTFTP l = (tft0, 7) := by rw [Hspec.out]; simp [h4, Hrest.out, hlong]
      have Hsp := Lib.hid hsp
      have hli : decide ((rest.length : Int) ≤ 1024) = false := by simp; omega
      clear hsp hlong
      go_wp2_with fail
      refine (must_no 7 _).mono ?_
      rintro x w3 ⟨rfl, rfl⟩
      exact ⟨rfl, .inr ⟨7, ⟨6, rfl, Hsp.out⟩, rfl⟩, hF4.mono fun b _ e => .inl e⟩
    have hsp : readTFTP l = (⟨3, bk, [], rest, []⟩, 0) := by rw [Hspec.out]; simp [h4, Hrest.out, hlong, Hbk.out]
    have hli : decide ((rest.length : Int) ≤ 1024) = true := by simp; omega
    clear hlong
    go_wp2_with fail
    refine (must_yes 7 _).mono ?_
    rintro x w3 ⟨rfl, rfl⟩
    go_wp2_with fail
    refine (rRest p rest _ hr4 (by omega)).mono ?_
    rintro e v5 ⟨rfl, hr5, f5⟩
    have hm5 := hm4.keep f5 (by unfold oneB; omega)
    have hx5 := hx4.keep f5 (by unfold oneB; omega)
    have hF5 := hF4.trans f5
    have hmc5 := hm5.cells
    have hmz5 := hm5.frees
    have hm6 : Bk (v5.setCell ⟨gm, 3, none⟩ (.string (bs rest))) gm 81 #[.int .u16 3, .int .u16 (bk : Int), .string ⟨#[]⟩, .string (bs rest), .slice none 0 0] := by simpa using hm5.set 3 (.string (bs rest))
    have hx6 := hx5.far (p := ⟨gm, 3, none⟩) (by simpa using hgx) (.string (bs rest))
    have hF6 : Fr (oneB p) w (v5.setCell ⟨gm, 3, none⟩ (.string (bs rest))) := hF5.setCell (p := ⟨gm, 3, none⟩) (fun h => absurd h (by simp; omega)) _
    have hmc := hm6.cells
    have Hsp := Lib.hid hsp
    clear hsp
    go_wp2_with ((refine wpList_store_bk rfl 81 (.tmp 2) (.tmp 63) rfl w.heap.size _ _ #[.int .u16 3, .int .u16 (bk : Int), .string ⟨#[]⟩, .string (bs rest), .slice none 0 0] rfl rfl hx6 rfl (by kernel_rfl) (by kernel_rfl) ?_); intro w9 hx9 hf9)
    have hcx := hx9.cells
    refine bodyPost_ret (v := Value.agg (tftC ⟨3, bk, [], rest, []⟩ none 0)) (by simp [results, Tryz.results126, go_sem, hcx, tftC, bs_nil']) rfl ?_
    refine ⟨.inl ⟨_, ⟨_, none, 0, rfl, Hsp.out, ?_, Nat.zero_le _⟩, rfl⟩, (hF6.trans' hf9 (fun b hb e => by unfold oneB at e; omega)).mono fun b _ e => .inl e⟩
    exact SlR.nil
  · have HvN : Hid (v1.alloc (.cells #[.int .u16 4, .int .u16 0, .string ⟨#[]⟩, .string ⟨#[]⟩, .slice none 0 0] 81) = v2) := Hv2.out
    by_cases h4 : l.length < 4
    · have hsp : readTFTP l = (tft0, 1) := by rw [Hspec.out]; simp [h4]
      have Hsp := Lib.hid hsp
      clear hsp
      go_wp2_with fail
      rw [Hgm.out, HvN.out]
      refine (rU16 p (l.drop (0 + 2)) v2 hr2 (by rw [List.length_drop]; omega)).mono ?_
      rintro e v3 (⟨hle, _⟩ | ⟨hlt, rfl, f3⟩)
      · rw [List.length_drop] at hle; omega
      · exact ⟨rfl, .inr ⟨1, ⟨0, rfl, Hsp.out⟩, rfl⟩, (hF2.trans f3).mono fun b _ e => .inl e⟩
    go_wp2_with fail
    rw [Hgm.out, HvN.out]
    refine (aU16 (0 + 2) p l v2 hr2 hl63 (by omega)).mono ?_
    rintro e v3 ⟨rfl, hr3, f3⟩
    have hm3 := hm1.keep f3 (by unfold oneB; omega)
    have hx3 := hx2.keep f3 (by unfold oneB; omega)
    have hF3 := hF2.trans f3
    obtain ⟨bk, hbk⟩ : ∃ k, num (sub l (0 + 2) (0 + 2 + 2)) = k := ⟨_, rfl⟩
    rw [hbk]
    have Hbk := Lib.hid (show num (sub l 2 4) = bk from hbk)
    have hmc3 := hm3.cells
    have hmz3 := hm3.frees
    have hm4 : Bk (v3.setCell ⟨gm, 1, none⟩ (.int .u16 (bk : Int))) gm 81 #[.int .u16 4, .int .u16 (bk : Int), .string ⟨#[]⟩, .string ⟨#[]⟩, .slice none 0 0] := by simpa using hm3.set 1 (.int .u16 (bk : Int))
    have hr4 : Rd (v3.setCell ⟨gm, 1, none⟩ (.int .u16 (bk : Int))) p (l.drop (0 + 2 + 2)) := Bk.far hr3 (p := ⟨gm, 1, none⟩) hgp _
    have hx4 := hx3.far (p := ⟨gm, 1, none⟩) (by simpa using hgx) (.int .u16 (bk : Int))
    have hF4 : Fr (oneB p) w (v3.setCell ⟨gm, 1, none⟩ (.int .u16 (bk : Int))) := hF3.setCell (p := ⟨gm, 1, none⟩) (fun h => absurd h (by simp; omega)) _
    clear hbk hm3 hr3 hx3 hF3 f3 hm1 hx2 hF2 hr2 hmc2 hmz2
    go_wp2_with fail
    clear hmc3 hmz3
    generalize v3.setCell ⟨gm, 1, none⟩ (.int .u16 (bk : Int)) = v4 at *
    refine (rLen p _ v4 hr4).mono ?_
    rintro e v5 ⟨rfl, rfl⟩
    obtain ⟨rest, hrest⟩ : ∃ r, l.drop (0 + 2 + 2) = r := ⟨_, rfl⟩
    have Hrest := Lib.hid (show l.drop 4 = rest from hrest)
    rw [hrest]
    clear hrest
    by_cases hne : rest = []
    rotate_left
    · have hsp : readTFTP l = (tft0, 2) := by rw [Hspec.out]; simp [h4, Hrest.out, hne]
      have Hsp := Lib.hid hsp
      have hli : ((rest.length : Int) == 0) = false := by simpa using hne
      have hlj : ¬ rest.length = 0 := by simpa using hne
      clear hsp hne
      go_wp2_with fail
      refine (must_no 2 _).mono ?_
      rintro x w3 ⟨rfl, rfl⟩
      exact ⟨rfl, .inr ⟨2, ⟨1, rfl, Hsp.out⟩, rfl⟩, hF4.mono fun b _ e => .inl e⟩
    have hsp : readTFTP l = (⟨4, bk, [], [], []⟩, 0) := by rw [Hspec.out]; simp [h4, Hrest.out, hne, Hbk.out]
    subst hne
    go_wp2_with fail
    refine (must_yes 2 _).mono ?_
    rintro x w3 ⟨rfl, rfl⟩
    have hmc := hm4.cells
    have Hsp := Lib.hid hsp
    clear hsp
    go_wp2_with ((refine wpList_store_bk rfl 81 (.tmp 2) (.tmp 63) rfl w.heap.size _ _ #[.int .u16 4, .int .u16 (bk : Int), .string ⟨#[]⟩, .string ⟨#[]⟩, .slice none 0 0] rfl rfl hx4 rfl (by kernel_rfl) (by kernel_rfl) ?_); intro w9 hx9 hf9)
    have hcx := hx9.cells
    refine bodyPost_ret (v := Value.agg (tftC ⟨4, bk, [], [], []⟩ none 0)) (by simp [results, Tryz.results126, go_sem, hcx, tftC, bs_nil']) rfl ?_
    refine ⟨.inl ⟨_, ⟨_, none, 0, rfl, Hsp.out, ?_, Nat.zero_le _⟩, rfl⟩, (hF4.trans' hf9 (fun b hb e => by unfold oneB at e; omega)).mono fun b _ e => .inl e⟩
    exact SlR.nil
  · have HvN : Hid (v1.alloc (.cells #[.int .u16 5, .int .u16 0, .string ⟨#[]⟩, .string ⟨#[]⟩, .slice none 0 0] 81) = v2) := Hv2.out
    by_cases h4 : l.length < 4
    · have hsp : readTFTP l = (tft0, 1) := by rw [Hspec.out]; simp [h4]
      have Hsp := Lib.hid hsp
      clear hsp
      go_wp2_with fail
      rw [Hgm.out, HvN.out]
      refine (rU16 p (l.drop (0 + 2)) v2 hr2 (by rw [List.length_drop]; omega)).mono ?_
      rintro e v3 (⟨hle, _⟩ | ⟨hlt, rfl, f3⟩)
      · rw [List.length_drop] at hle; omega
      · exact ⟨rfl, .inr ⟨1, ⟨0, rfl, Hsp.out⟩, rfl⟩, (hF2.trans f3).mono fun b _ e => .inl e⟩
    go_wp2_with fail
    rw [Hgm.out, HvN.out]
    refine (aU16 (0 + 2) p l v2 hr2 hl63 (by omega)).mono ?_
    rintro e v3 ⟨rfl, hr3, f3⟩
    have hm3 := hm1.keep f3 (by unfold oneB; omega)
    have hx3 := hx2.keep f3 (by unfold oneB; omega)
    have hF3 := hF2.trans f3
    obtain ⟨bk, hbk⟩ : ∃ k, num (sub l (0 + 2) (0 + 2 + 2)) = k := ⟨_, rfl⟩
    rw [hbk]
    have Hbk := Lib.hid (show num (sub l 2 4) = bk from hbk)
    have hmc3 := hm3.cells
    have hmz3 := hm3.frees
    have hm4 : Bk (v3.setCell ⟨gm, 1, none⟩ (.int .u16 (bk : Int))) gm 81 #[.int .u16 5, .int .u16 (bk : Int), .string ⟨#[]⟩, .string ⟨#[]⟩, .slice none 0 0] := by simpa using hm3.set 1 (.int .u16 (bk : Int))
    have hr4 : Rd (v3.setCell ⟨gm, 1, none⟩ (.int .u16 (bk : Int))) p (l.drop (0 + 2 + 2)) := Bk.far hr3 (p := ⟨gm, 1, none⟩) hgp _
    have hx4 := hx3.far (p := ⟨gm, 1, none⟩) (by simpa using hgx) (.int .u16 (bk : Int))
    have hF4 : Fr (oneB p) w (v3.setCell ⟨gm, 1, none⟩ (.int .u16 (bk : Int))) := hF3.setCell (p := ⟨gm, 1, none⟩) (fun h => absurd h (by simp; omega)) _
    clear hbk hm3 hr3 hx3 hF3 f3 hm1 hx2 hF2 hr2 hmc2 hmz2
    go_wp2_with fail
    clear hmc3 hmz3
    generalize v3.setCell ⟨gm, 1, none⟩ (.int .u16 (bk : Int)) = v4 at *
    refine (rLine p _ v4 hr4 (by rw [List.length_drop]; omega)).mono ?_
    obtain ⟨rest, hrest⟩ : ∃ r, l.drop (0 + 2 + 2) = r := ⟨_, rfl⟩
    have Hrest := Lib.hid (show l.drop 4 = rest from hrest)
    rw [hrest]
    clear hrest
    rintro e v5 (⟨a, r, h1, rfl, hr5, f5⟩ | ⟨h1, rfl, f5⟩)
    rotate_left
    · refine ⟨rfl, .inr ⟨2, ⟨1, rfl, ?_⟩, rfl⟩, (hF4.trans f5).mono fun b _ e => .inl e⟩
      rw [Hspec.out]; simp [h4, Hrest.out, h1]
    have H1 := Lib.hid h1
    clear h1
    have hm5 := hm4.keep f5 (by unfold oneB; omega)
    have hx5 := hx4.keep f5 (by unfold oneB; omega)
    have hF5 := hF4.trans f5
    have hmc5 := hm5.cells
    have hmz5 := hm5.frees
    have hm6 : Bk (v5.setCell ⟨gm, 2, none⟩ (.string (bs a))) gm 81 #[.int .u16 5, .int .u16 (bk : Int), .string (bs a), .string ⟨#[]⟩, .slice none 0 0] := by simpa using hm5.set 2 (.string (bs a))
    have hr6 : Rd (v5.setCell ⟨gm, 2, none⟩ (.string (bs a))) p r := Bk.far hr5 (p := ⟨gm, 2, none⟩) hgp _
    have hx6 := hx5.far (p := ⟨gm, 2, none⟩) (by simpa using hgx) (.string (bs a))
    have hF6 : Fr (oneB p) w (v5.setCell ⟨gm, 2, none⟩ (.string (bs a))) := hF5.setCell (p := ⟨gm, 2, none⟩) (fun h => absurd h (by simp; omega)) _
    clear hm4 hx4 hF4 hm5 hx5 hF5 hr5 f5
    go_wp2_with fail
    clear hmc5 hmz5
    generalize v5.setCell ⟨gm, 2, none⟩ (.string (bs a)) = v6 at *
    refine (rLen p r v6 hr6).mono ?_
    rintro e v7 ⟨rfl, rfl⟩
    by_cases hne : r = []
    rotate_left
    · have hsp : readTFTP l = (tft0, 2) := by
        rw [Hspec.out]
        simp only [show ¬ (5 : Nat) = 1 by omega, show ¬ (5 : Nat) = 6 by omega, show ¬ (5 : Nat) = 3 by omega, show ¬ (5 : Nat) = 4 by omega, if_false, if_true, h4, Hrest.out, H1.out]
        cases r with
        | nil => exact absurd rfl hne
        | cons c t => rfl
      have Hsp := Lib.hid hsp
      have hlj : ¬ r.length = 0 := by simpa using hne
      have hli : ((r.length : Int) == 0) = false := by simpa using hlj
      clear hsp hne
      go_wp2_with fail
      refine (must_no 2 _).mono ?_
      rintro x w3 ⟨rfl, rfl⟩
      exact ⟨rfl, .inr ⟨2, ⟨1, rfl, Hsp.out⟩, rfl⟩, hF6.mono fun b _ e => .inl e⟩
    subst hne
    have hsp : readTFTP l = (⟨5, bk, a, [], []⟩, 0) := by
      rw [Hspec.out]
      simp only [show ¬ (5 : Nat) = 1 by omega, show ¬ (5 : Nat) = 6 by omega, show ¬ (5 : Nat) = 3 by omega, show ¬ (5 : Nat) = 4 by omega, if_false, if_true, h4, Hrest.out, H1.out, Hbk.out]
    go_wp2_with fail
    refine (must_yes 2 _).mono ?_
    rintro x w3 ⟨rfl, rfl⟩
    have hmc := hm6.cells
    have Hsp := Lib.hid hsp
    clear hsp
    go_wp2_with ((refine wpList_store_bk rfl 81 (.tmp 2) (.tmp 63) rfl w.heap.size _ _ #[.int .u16 5, .int .u16 (bk : Int), .string (bs a), .string ⟨#[]⟩, .slice none 0 0] rfl rfl hx6 rfl (by kernel_rfl) (by kernel_rfl) ?_); intro w9 hx9 hf9)
    have hcx := hx9.cells
    refine bodyPost_ret (v := Value.agg (tftC ⟨5, bk, a, [], []⟩ none 0)) (by simp [results, Tryz.results126, go_sem, hcx, tftC, bs_nil']) rfl ?_
    refine ⟨.inl ⟨_, ⟨_, none, 0, rfl, Hsp.out, ?_, Nat.zero_le _⟩, rfl⟩, (hF6.trans' hf9 (fun b hb e => by unfold oneB at e; omega)).mono fun b _ e => .inl e⟩
    exact SlR.nil
  · have hsp : readTFTP l = (tft0, 2) := by rw [Hspec.out, if_neg k1, if_neg k6, if_neg k3, if_neg k4, if_neg k5]
    have b1 : ((k : Int) == 1) = false := by simp; omega
    have b2 : ((k : Int) == 6) = false := by simp; omega
    have b3 : ((k : Int) == 3) = false := by simp; omega
    have b4 : ((k : Int) == 4) = false := by simp; omega
    have b5 : ((k : Int) == 5) = false := by simp; omega
    have Hsp := Lib.hid hsp
    clear hsp k1 k6 k3 k4 k5
    go_wp2_with fail
    refine (fail_any 2 _).mono ?_
    rintro x w3 ⟨rfl, rfl⟩
    rw [Hv2.out]
    exact ⟨rfl, .inr ⟨2, ⟨1, rfl, Hsp.out⟩, rfl⟩, hF2.mono fun b _ e => .inl e⟩
end Go.Proofs.YtcbkaiakdhiloabGreatDoor
namespace Go.Proofs.YtcbkaiakdhiloabGreatDoor
open Go.RowKit Go.Proofs
attribute [local go_sem] bs_size bs_append bs_extract bs_toList

set_option maxRecDepth 20000 in
set_option maxHeartbeats 1000000 in
theorem tftpRead (l : List UInt8) (w : World) (hl : l.length ≤ 1099511627) (hT : Tabs w) :
    Calls Tryz.prog 84 #[.string (bs l)] w fun e w' => tftPost l w e w' ∧ wtF (readTFTP l).1.fs ≤ l.length := by
  have hTl := hT.lt
  go_enter Tryz.func84, Tryz.ntmps84
  have hmf : ∀ (fn : Fn) (first cap : Array Value) (w : World), (Instr.makeFunc fn first cap).run Tryz.prog w = .ok (.func fn first cap) w := fun _ _ _ _ => rfl
  go_wp2_with fail
  have hx0 := Bk.new w 81 zcTft
  have hf0 : Fr noB w (w.alloc (.cells zcTft 81)) := (Fr.refl _ _).alloc _
  have hsz : (w.alloc (.cells zcTft 81)).heap.size = w.heap.size + 1 := by simp
  have hT1 := hT.none hf0
  unfold zcTft at hx0 hf0 hsz hT1
  generalize w.alloc (.cells #[.int .u16 0, .int .u16 0, .string ⟨#[]⟩, .string ⟨#[]⟩, .slice none 0 0] 81) = w1 at *
  have Hsz := Lib.hid hsz
  clear hsz
  refine (readWTft l w1 noB (TftOk (w1.heap.size + 2) l) (TftBad l) (fun _ _ _ x => x) ?_ ?_ ?_).mono ?_
  · rintro x w2 ⟨d, A, cap, rfl, _⟩; exact ⟨_, rfl, rfl, tftC_one d A cap⟩
  · rintro x w2 w3 ⟨d, A, cap, rfl, h1, h2, h3⟩ hf
    exact ⟨d, A, cap, rfl, h1, h2.keep (hf.mono fun b _ e => by rcases e with e | e <;> omega), h3⟩
  · rintro p w2 rfl hR hf
    have := Hsz.out
    exact tftBy _ l hl _ w2 hR (hT1.none hf) (by unfold oneB; omega) (by unfold oneB; omega) (by have := Bk.lt hR; omega)
  rintro e w2 ⟨hcase, hf1⟩
  have hx1 := hx0.keep hf1 (fun x => x)
  have key : (∃ A cap, e = .returned (.tuple #[.agg (tftC (readTFTP l).1 A cap), .int .i64 ((readTFTP l).2 : Int)]) ∧ SlR w2 (fun k => k < w.heap.size + 1) 2 A (readTFTP l).1.fs.length (fldC (readTFTP l).1.fs)) ∧ wtF (readTFTP l).1.fs ≤ l.length := by
    rcases hcase with ⟨x, ⟨d, A, cap, rfl, h1, h2, h3⟩, rfl⟩ | ⟨er, ⟨k, rfl, h1⟩, rfl⟩
    · rw [h1]; exact ⟨⟨A, cap, rfl, h2.sub (fun b hb h => by have := Hsz.out; omega)⟩, h3⟩
    · rw [h1]; exact ⟨⟨none, 0, rfl, SlR.nil⟩, Nat.zero_le _⟩
  obtain ⟨⟨A, cap, rfl, hA⟩, hwt⟩ := key
  generalize hr : readTFTP l = r at *
  have Hr := Lib.hid hr
  clear hr hcase
  have hin := Lib.hid (tft_info r.1 A cap)
  have hon := Lib.hid (tftC_one r.1 A cap)
  have hsz := Lib.hid (tftC_size r.1 A cap)
  generalize hc : tftC r.1 A cap = c at *
  have Hc := Lib.hid hc
  clear hc
  go_wp2_with ((refine wpList_store_bk rfl 81 (.tmp 2) (.tmp 6) rfl w.heap.size _ _ c rfl rfl hx1 hsz.out hin.out hon.out ?_); intro w9 hx9 hf9)
  refine bodyPost_ret (results_row_tmp Tryz.results84 _ w9 w.heap.size _ c _ _ rfl rfl hx9 Tryz.underlying81 rfl hin.out) rfl ?_
  refine ⟨⟨⟨A, cap, by rw [Hr.out, Hc.out]; rfl, ?_⟩, (hf0.none hf1).trans' hf9 (fun b hb e => by unfold oneB at e; omega)⟩, by rw [Hr.out]; exact hwt⟩
  rw [Hr.out]
  exact (hA.keep (hf9.mono fun b hb e => by unfold oneB at e; omega)).sub (fun b hb h => by omega)

set_option maxRecDepth 20000 in
set_option maxHeartbeats 1000000 in
theorem bootReadTFTP (l : List UInt8) (w : World) (hl : l.length ≤ 1099511627) (hT : Tabs w) :
    Calls Tryz.prog 37 #[.string (bs l)] w fun e w' => tftPost l w e w' ∧ wtF (readTFTP l).1.fs ≤ l.length := by
  go_enter Tryz.func37, Tryz.ntmps37
  go_wp2_with fail
  have hx0 := Bk.new w 81 zcTft
  have hf0 : Fr noB w (w.alloc (.cells zcTft 81)) := (Fr.refl _ _).alloc _
  have hsz : (w.alloc (.cells zcTft 81)).heap.size = w.heap.size + 1 := by simp
  have hT1 := hT.none hf0
  unfold zcTft at hx0 hf0 hsz hT1
  generalize w.alloc (.cells #[.int .u16 0, .int .u16 0, .string ⟨#[]⟩, .string ⟨#[]⟩, .slice none 0 0] 81) = w1 at *
  have Hsz := Lib.hid hsz
  clear hsz
  refine (tftpRead l w1 hl hT1).mono ?_
  rintro e w2 ⟨⟨⟨A, cap, rfl, hA⟩, hf1⟩, hwt⟩
  have hx1 := hx0.keep hf1 (fun x => x)
  generalize hr : readTFTP l = r at *
  have Hr := Lib.hid hr
  clear hr
  have hin := Lib.hid (tft_info r.1 A cap)
  have hon := Lib.hid (tftC_one r.1 A cap)
  have hsz := Lib.hid (tftC_size r.1 A cap)
  generalize hc : tftC r.1 A cap = c at *
  have Hc := Lib.hid hc
  clear hc
  go_wp2_with ((refine wpList_store_bk rfl 81 (.tmp 2) (.tmp 6) rfl w.heap.size _ _ c rfl rfl hx1 hsz.out hin.out hon.out ?_); intro w9 hx9 hf9)
  refine bodyPost_ret (results_row_tmp Tryz.results37 _ w9 w.heap.size _ c _ _ rfl rfl hx9 Tryz.underlying81 rfl hin.out) rfl ?_
  refine ⟨⟨⟨A, cap, by rw [Hr.out, Hc.out]; rfl, ?_⟩, (hf0.none hf1).trans' hf9 (fun b hb e => by unfold oneB at e; omega)⟩, by rw [Hr.out]; exact hwt⟩
  rw [Hr.out]
  exact (hA.keep (hf9.mono fun b hb e => by unfold oneB at e; have := Hsz.out; omega)).sub (fun b hb h => by have := Hsz.out; omega)
end Go.Proofs.YtcbkaiakdhiloabGreatDoor
