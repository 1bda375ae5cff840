/- netbootref.WriteTFTP's loop over fields. -/
import Derived.Test.YtcbkaiakdhiloabDoorLp
import Derived.Test.YtcbkaiakdhiloabDoorChain2
import Derived.Test.YtcbkaiakdhiloabDoorFld
import Derived.Test.YtcbkaiakdhiloabDoorWord
import Derived.Test.YtcbkaiakdhiloabDoorLow
import Derived.Test.YtcbkaiakdhiloabDoorTftW
import Derived.Test.YtcbkaiakdhiloabDoorTftL
import Derived.Test.YtcbkaiakdhiloabDoorRefW
import Derived.Test.YtcbkaiakdhiloabDoorPl
import Derived.Deep.QuietTactic
import Derived.BigQuiet
import Derived.Deep.Cut
import Derived.Deep.CutRange
import Derived.Deep.CutBlock
set_option linter.unusedSimpArgs false
set_option linter.unusedVariables false
namespace Go.Proofs.YtcbkaiakdhiloabDoor
open Go.RowKit Go.Proofs
attribute [local go_sem] bs_size bs_append bs_extract bs_toList

theorem keepT {w0 wa wb : World} {p q : Nat} {cs ds : Array Value} (hp : p < w0.heap.size) (hq : q < w0.heap.size) (h : (∀ j, wa.cell? ⟨p, j, none⟩ = cs[j]?) ∧ (∀ j, wa.cell? ⟨q, j, none⟩ = ds[j]?) ∧ Fr noB w0 wa) (hf : Fr noB wa wb) :
    (∀ j, wb.cell? ⟨p, j, none⟩ = cs[j]?) ∧ (∀ j, wb.cell? ⟨q, j, none⟩ = ds[j]?) ∧ Fr noB w0 wb :=
  ⟨fun j => (hf.cell (a := ⟨p, j, none⟩) (Nat.lt_of_lt_of_le hp h.2.2.size) (fun x => x)).trans (h.1 j), fun j => (hf.cell (a := ⟨q, j, none⟩) (Nat.lt_of_lt_of_le hq h.2.2.size) (fun x => x)).trans (h.2.1 j), h.2.2.none hf⟩

set_option maxRecDepth 20000 in
set_option maxHeartbeats 4000000 in
theorem rtLoop (pa op bk n cap : Nat) (Ao : Option Addr) (tx dt : List UInt8) (fs : List FldD) (w0 : World) (l0 : List UInt8) (a : Act) (w : World) (K : Exit → Act → World → Prop) (hs : Sz 125 a)
    (h1 : sl a 1 = .pointer (some ⟨pa, 0, none⟩)) (h4 : sl a 4 = .string (bs l0)) (h37 : sl a 30 = .slice Ao n cap) (h38 : sl a 31 = .int .i64 (n : Int)) (h39 : sl a 32 = .int .i64 0)
    (hpa : Bk w pa 47 #[.int .u16 (op : Int), .int .u16 (bk : Int), .string (bs tx), .string (bs dt), .slice Ao n cap]) 
    (hn : fs.length = n) (hnc : n ≤ cap) (hA : SlR w noB 2 Ao n (fldC fs)) (hwt : wtF fs ≤ 1048576) (N00 : l0.length ≤ 3000000)
    (hbad : ∀ a' w', Sz 125 a' → sl a' 2 = .string ⟨#[]⟩ → sl a' 3 = .int .i64 2 → Fr noB w w' → fldW [] fs = none → K .ret a' w')
    (hgood : ∀ a' w', Sz 125 a' → Kp [0] a a' → sl a' 1 = .pointer (some ⟨pa, 0, none⟩) → sl a' 4 = .string (bs (l0 ++ fldB fs)) → Fr noB w w' → fldW [] fs = some (fldB fs) → K .normal a' w') :
    (blockOf Tryd.f19 1).wp Tryd.prog K a w := by
  have hgood2 : ∀ a' w', Sz 125 a' → KpU [0] (sl a) a' → sl a' 1 = .pointer (some ⟨pa, 0, none⟩) → sl a' 4 = .string (bs (l0 ++ fldB fs)) → Fr noB w w' → fldW [] fs = some (fldB fs) → K .normal a' w' := hgood
  have HG := Lib.hid hgood2
  clear hgood2
  have HB := Lib.hid hbad
  clear hgood hbad
  rw [hs.eq]
  generalize sl a = z at *
  have e125 : frN 125 z = ⟨(List.range 125).map z |>.toArray, []⟩ := rfl
  rw [e125]
  simp only [show List.range 125 = [0, 1, 2, 3, 4, 5, 6, 7, 8, 9, 10, 11, 12, 13, 14, 15, 16, 17, 18, 19, 20, 21, 22, 23, 24, 25, 26, 27, 28, 29, 30, 31, 32, 33, 34, 35, 36, 37, 38, 39, 40, 41, 42, 43, 44, 45, 46, 47, 48, 49, 50, 51, 52, 53, 54, 55, 56, 57, 58, 59, 60, 61, 62, 63, 64, 65, 66, 67, 68, 69, 70, 71, 72, 73, 74, 75, 76, 77, 78, 79, 80, 81, 82, 83, 84, 85, 86, 87, 88, 89, 90, 91, 92, 93, 94, 95, 96, 97, 98, 99, 100, 101, 102, 103, 104, 105, 106, 107, 108, 109, 110, 111, 112, 113, 114, 115, 116, 117, 118, 119, 120, 121, 122, 123, 124] from rfl, List.map_cons, List.map_nil, h1, h4, h37, h38, h39]
  clear h1 h4 h37 h38 h39 hs e125
  clear a
  conv => arg 2; whnf
  have hlw := wtF_len fs
  have hAf : SlR w (fun k => w.heap.size ≤ k) 2 Ao n (fldC fs) := ⟨hA.1, fun hn => by
    obtain ⟨ad, e, hb, hS, hc⟩ := hA.2 hn
    exact ⟨ad, e, hb, fun x => by omega, hc⟩⟩
  go_wp2_with fail
  go_loopw [4, 32] (fun sv iv wr => ∃ (i : Nat), i ≤ n ∧ iv = .int .i64 (i : Int) ∧ sv = .string (bs (l0 ++ fldB (fs.take i))) ∧ Fr noB w wr ∧ fldTo fs i) (fun _ iv _ => n - (intOf iv).toNat)
  case atStart => exact ⟨0, by omega, rfl, by simp [fldB], Fr.refl _ _, fun j o h => absurd h (by omega)⟩
  case round =>
    obtain ⟨i, hi, rfl, rfl, hfr, hgood⟩ := hrel
    have hbl : (l0 ++ fldB (fs.take i)).length ≤ 20000000 := by
      have h1 := fldB_len (fs.take i)
      have h2 := wtF_take fs i
      rw [List.length_append]; omega
    by_cases hlt : i < n
    · obtain ⟨o, ho⟩ : ∃ o, fs[i]? = some o := ⟨_, List.getElem?_eq_getElem (by omega)⟩
      obtain ⟨lb, hlb⟩ : ∃ lb, l0 ++ fldB (fs.take i) = lb := ⟨_, rfl⟩
      rw [hlb] at hbl ⊢
      have Hlb := Lib.hid hlb
      clear hlb
      obtain ⟨ad, rfl, c1, c2⟩ := (hA.keep hfr).fldAt ho
      have hol := wtF_at fs i o ho
      have hfb2 := Bk.new wr 66 #[.string (bs o.name), .string (bs o.value)]
      have hfr2 := hfr.alloc (.cells #[.string (bs o.name), .string (bs o.value)] 66)
      have Ho := Lib.hid ho
      have Hgood := Lib.hid hgood
      have Hfb2 := Lib.hid hfb2
      have Hfr2 := Lib.hid hfr2
      clear ho hgood hfb2 hfr2
      go_upto_region 13 with fail
      obtain ⟨go, hgo⟩ : ∃ go, wr.heap.size = go := ⟨_, rfl⟩
      rw [hgo] at Hfb2
      rw [hgo]
      obtain ⟨w4, hw4⟩ : ∃ w4, wr.alloc (.cells #[.string (bs o.name), .string (bs o.value)] 66) = w4 := ⟨_, rfl⟩
      rw [hw4] at Hfb2 Hfr2
      rw [hw4]
      have hmb4 := (hpa.keep Hfr2.out (fun x => x)).cells
      have hfb4 := Hfb2.out.cells
      have hA4 := (hA.keep Hfr2.out).fldTake (k := i) (by omega)
      have hpl : pa < w4.heap.size := (hpa.keep Hfr2.out (fun x => x)).lt
      have hgl : go < w4.heap.size := Hfb2.out.lt
      clear hgo hw4 c1 c2
      have hbadP : fldOk (fs.take i) o = false → fldW [] fs = none := fldTo_bad Ho.out
      have HbadP := Lib.hid hbadP
      clear hbadP
      -- CASES
      -- CASES
      -- CASES
      -- CASES
      -- CASES
      -- CASES
      -- CASES
      -- CASES
      have hic : i ≤ cap := by omega
      -- CASES
      have hic : i ≤ cap := by omega
      -- CASES
      have hic : i ≤ cap := by omega
      rcases ha : wordB o.name with _ | _
      · have hjk : True := trivial
        refine wp_region_pls (by kernel_rfl) (fun w' => (∀ j, w'.cell? ⟨pa, j, none⟩ = (#[.int .u16 (op : Int), .int .u16 (bk : Int), .string (bs tx), .string (bs dt), .slice (some ad) n cap] : Array Value)[j]?) ∧ (∀ j, w'.cell? ⟨go, j, none⟩ = (#[.string (bs o.name), .string (bs o.value)] : Array Value)[j]?) ∧ Fr noB w4 w') [] (.p 0 (.q 1 (.e 2 (.p 3 (.p 4 (.p 5 (.q 6 (.e 7 (.p 8 (.p 9 (.p 10 (.p 11 (.p 14 (.q 12 (.q 15 (.e 13 (.p 16 (.p 17 (.p 18 (.p 19 (.p 21 (.p 23 (.q 20 (.p 22 (.q 24 (.e 25 (.p 26 .nil))))))))))))))))))))))))))) (by kernel_rfl) (⟨hmb4, hfb4, (Fr.refl _ _).drew⟩) ?_
        intro ops Q' hO hQ' wr1 hR1
        refine pl_p0 hO rfl rfl ?_ (fun w' => ?_) ?_; rotate_left 1; (focus (go_simp; ((try with_reducible rfl); done))); simp only [Act.put, List.setIfInBounds_toArray, List.set_cons_zero, List.set_cons_succ]
        refine pl_q0 hO rfl rfl ?_ (fun w' hS => ?_) ?_; rotate_left 1; (focus (obtain ⟨hS1, hS2, hS3⟩ := hS; go_simp; ((try with_reducible rfl); done))); simp only [Act.put, List.setIfInBounds_toArray, List.set_cons_zero, List.set_cons_succ]
        refine pl_e0 hO rfl rfl rfl (fun K hK => ?_)
        go_simp
        refine (refWord o.name _ (by omega)).mono ?_
        rintro e w16 ⟨rfl, rfl⟩
        rw [ha]
        refine hK _ _ (hR1) (fun hR_2 => ?_)
        clear hK K
        iterate 2 (refine pl_p0 hO rfl rfl ?_ (fun w' => ?_) ?_; rotate_left 1; (focus (go_simp; ((try with_reducible rfl); done))); simp only [Act.put, List.setIfInBounds_toArray, List.set_cons_zero, List.set_cons_succ])
        refine pl_pn hO rfl rfl rfl rfl ?_; simp only [Act.put, List.setIfInBounds_toArray, List.set_cons_zero, List.set_cons_succ]
        refine pl_qn hO rfl rfl rfl rfl ?_; simp only [Act.put, List.setIfInBounds_toArray, List.set_cons_zero, List.set_cons_succ]
        refine pl_en hO rfl rfl rfl rfl rfl (fun _ => hR_2) ?_
        simp only [Act.put, List.setIfInBounds_toArray, List.set_cons_zero, List.set_cons_succ]
        refine pl_pn hO rfl rfl rfl rfl ?_; simp only [Act.put, List.setIfInBounds_toArray, List.set_cons_zero, List.set_cons_succ]
        iterate 2 (refine pl_p0 hO rfl rfl ?_ (fun w' => ?_) ?_; rotate_left 1; (focus (go_simp; ((try with_reducible rfl); done))); simp only [Act.put, List.setIfInBounds_toArray, List.set_cons_zero, List.set_cons_succ])
        iterate 2 (refine pl_pn hO rfl rfl rfl rfl ?_; simp only [Act.put, List.setIfInBounds_toArray, List.set_cons_zero, List.set_cons_succ])
        iterate 2 (refine pl_qn hO rfl rfl rfl rfl ?_; simp only [Act.put, List.setIfInBounds_toArray, List.set_cons_zero, List.set_cons_succ])
        refine pl_en hO rfl rfl rfl rfl rfl (fun _ => hR_2) ?_
        simp only [Act.put, List.setIfInBounds_toArray, List.set_cons_zero, List.set_cons_succ]
        refine pl_pn hO rfl rfl rfl rfl ?_; simp only [Act.put, List.setIfInBounds_toArray, List.set_cons_zero, List.set_cons_succ]
        iterate 2 (refine pl_p0 hO rfl rfl ?_ (fun w' => ?_) ?_; rotate_left 1; (focus (go_simp; ((try with_reducible rfl); done))); simp only [Act.put, List.setIfInBounds_toArray, List.set_cons_zero, List.set_cons_succ])
        iterate 3 (refine pl_pn hO rfl rfl rfl rfl ?_; simp only [Act.put, List.setIfInBounds_toArray, List.set_cons_zero, List.set_cons_succ])
        refine pl_qn hO rfl rfl rfl rfl ?_; simp only [Act.put, List.setIfInBounds_toArray, List.set_cons_zero, List.set_cons_succ]
        refine pl_pn hO rfl rfl rfl rfl ?_; simp only [Act.put, List.setIfInBounds_toArray, List.set_cons_zero, List.set_cons_succ]
        refine pl_qn hO rfl rfl rfl rfl ?_; simp only [Act.put, List.setIfInBounds_toArray, List.set_cons_zero, List.set_cons_succ]
        refine pl_en hO rfl rfl rfl rfl rfl (fun _ => hR_2) ?_
        simp only [Act.put, List.setIfInBounds_toArray, List.set_cons_zero, List.set_cons_succ]
        refine pl_p0 hO rfl rfl ?_ (fun w' => ?_) ?_; rotate_left 1; (focus (go_simp; ((try with_reducible rfl); done))); simp only [Act.put, List.setIfInBounds_toArray, List.set_cons_zero, List.set_cons_succ]
        refine pl_nil (hQ' _ _ ?_)
        have Hno := Lib.hid (HbadP.out (by unfold fldOk; simp [ha]))
        have hfrz := Hfr2.out.none hR_2.2.2
        go_wp2_with fail
        exact HB.out _ _ ⟨rfl, rfl⟩ rfl rfl hfrz Hno.out
      rcases hv : wordB o.value with _ | _
      · have hjk : True := trivial
        refine wp_region_pls (by kernel_rfl) (fun w' => (∀ j, w'.cell? ⟨pa, j, none⟩ = (#[.int .u16 (op : Int), .int .u16 (bk : Int), .string (bs tx), .string (bs dt), .slice (some ad) n cap] : Array Value)[j]?) ∧ (∀ j, w'.cell? ⟨go, j, none⟩ = (#[.string (bs o.name), .string (bs o.value)] : Array Value)[j]?) ∧ Fr noB w4 w') [] (.p 0 (.q 1 (.e 2 (.p 3 (.p 4 (.p 5 (.q 6 (.e 7 (.p 8 (.p 9 (.p 10 (.p 11 (.p 14 (.q 12 (.q 15 (.e 13 (.p 16 (.p 17 (.p 18 (.p 19 (.p 21 (.p 23 (.q 20 (.p 22 (.q 24 (.e 25 (.p 26 .nil))))))))))))))))))))))))))) (by kernel_rfl) (⟨hmb4, hfb4, (Fr.refl _ _).drew⟩) ?_
        intro ops Q' hO hQ' wr1 hR1
        refine pl_p0 hO rfl rfl ?_ (fun w' => ?_) ?_; rotate_left 1; (focus (go_simp; ((try with_reducible rfl); done))); simp only [Act.put, List.setIfInBounds_toArray, List.set_cons_zero, List.set_cons_succ]
        refine pl_q0 hO rfl rfl ?_ (fun w' hS => ?_) ?_; rotate_left 1; (focus (obtain ⟨hS1, hS2, hS3⟩ := hS; go_simp; ((try with_reducible rfl); done))); simp only [Act.put, List.setIfInBounds_toArray, List.set_cons_zero, List.set_cons_succ]
        refine pl_e0 hO rfl rfl rfl (fun K hK => ?_)
        go_simp
        refine (refWord o.name _ (by omega)).mono ?_
        rintro e w16 ⟨rfl, rfl⟩
        rw [ha]
        refine hK _ _ (hR1) (fun hR_2 => ?_)
        clear hK K
        iterate 2 (refine pl_p0 hO rfl rfl ?_ (fun w' => ?_) ?_; rotate_left 1; (focus (go_simp; ((try with_reducible rfl); done))); simp only [Act.put, List.setIfInBounds_toArray, List.set_cons_zero, List.set_cons_succ])
        refine pl_p1 hO rfl rfl rfl rfl ?_ (fun w' => ?_) ?_; rotate_left 1; (focus (go_simp; ((try with_reducible rfl); done))); simp only [Act.put, List.setIfInBounds_toArray, List.set_cons_zero, List.set_cons_succ]
        refine pl_q1 hO rfl rfl rfl rfl ?_ (fun w' hS => ?_) ?_; rotate_left 1; (focus (obtain ⟨hS1, hS2, hS3⟩ := hS; go_simp; ((try with_reducible rfl); done))); simp only [Act.put, List.setIfInBounds_toArray, List.set_cons_zero, List.set_cons_succ]
        refine pl_e1 hO rfl rfl rfl rfl rfl (fun K hK => ?_)
        go_simp
        refine (refWord o.value _ (by omega)).mono ?_
        rintro e w16 ⟨rfl, rfl⟩
        rw [hv]
        refine hK _ _ (hR_2) (fun hR_7 => ?_)
        clear hK K
        refine pl_p1 hO rfl rfl rfl rfl ?_ (fun w' => ?_) ?_; rotate_left 1; (focus (go_simp; ((try with_reducible rfl); done))); simp only [Act.put, List.setIfInBounds_toArray, List.set_cons_zero, List.set_cons_succ]
        iterate 2 (refine pl_p0 hO rfl rfl ?_ (fun w' => ?_) ?_; rotate_left 1; (focus (go_simp; ((try with_reducible rfl); done))); simp only [Act.put, List.setIfInBounds_toArray, List.set_cons_zero, List.set_cons_succ])
        iterate 2 (refine pl_pn hO rfl rfl rfl rfl ?_; simp only [Act.put, List.setIfInBounds_toArray, List.set_cons_zero, List.set_cons_succ])
        iterate 2 (refine pl_qn hO rfl rfl rfl rfl ?_; simp only [Act.put, List.setIfInBounds_toArray, List.set_cons_zero, List.set_cons_succ])
        refine pl_en hO rfl rfl rfl rfl rfl (fun _ => hR_7) ?_
        simp only [Act.put, List.setIfInBounds_toArray, List.set_cons_zero, List.set_cons_succ]
        refine pl_pn hO rfl rfl rfl rfl ?_; simp only [Act.put, List.setIfInBounds_toArray, List.set_cons_zero, List.set_cons_succ]
        iterate 2 (refine pl_p0 hO rfl rfl ?_ (fun w' => ?_) ?_; rotate_left 1; (focus (go_simp; ((try with_reducible rfl); done))); simp only [Act.put, List.setIfInBounds_toArray, List.set_cons_zero, List.set_cons_succ])
        iterate 3 (refine pl_pn hO rfl rfl rfl rfl ?_; simp only [Act.put, List.setIfInBounds_toArray, List.set_cons_zero, List.set_cons_succ])
        refine pl_qn hO rfl rfl rfl rfl ?_; simp only [Act.put, List.setIfInBounds_toArray, List.set_cons_zero, List.set_cons_succ]
        refine pl_pn hO rfl rfl rfl rfl ?_; simp only [Act.put, List.setIfInBounds_toArray, List.set_cons_zero, List.set_cons_succ]
        refine pl_qn hO rfl rfl rfl rfl ?_; simp only [Act.put, List.setIfInBounds_toArray, List.set_cons_zero, List.set_cons_succ]
        refine pl_en hO rfl rfl rfl rfl rfl (fun _ => hR_7) ?_
        simp only [Act.put, List.setIfInBounds_toArray, List.set_cons_zero, List.set_cons_succ]
        refine pl_p0 hO rfl rfl ?_ (fun w' => ?_) ?_; rotate_left 1; (focus (go_simp; ((try with_reducible rfl); done))); simp only [Act.put, List.setIfInBounds_toArray, List.set_cons_zero, List.set_cons_succ]
        refine pl_nil (hQ' _ _ ?_)
        have Hno := Lib.hid (HbadP.out (by unfold fldOk; simp [ha, hv]))
        have hfrz := Hfr2.out.none hR_7.2.2
        go_wp2_with fail
        exact HB.out _ _ ⟨rfl, rfl⟩ rfl rfl hfrz Hno.out
      rcases hlw0 : (lowL o.name == o.name) with _ | _
      · have hlq : (lowL o.name != o.name) = true := by rw [bne, hlw0]; rfl
        refine wp_region_pls (by kernel_rfl) (fun w' => (∀ j, w'.cell? ⟨pa, j, none⟩ = (#[.int .u16 (op : Int), .int .u16 (bk : Int), .string (bs tx), .string (bs dt), .slice (some ad) n cap] : Array Value)[j]?) ∧ (∀ j, w'.cell? ⟨go, j, none⟩ = (#[.string (bs o.name), .string (bs o.value)] : Array Value)[j]?) ∧ Fr noB w4 w') [] (.p 0 (.q 1 (.e 2 (.p 3 (.p 4 (.p 5 (.q 6 (.e 7 (.p 8 (.p 9 (.p 10 (.p 11 (.p 14 (.q 12 (.q 15 (.e 13 (.p 16 (.p 17 (.p 18 (.p 19 (.p 21 (.p 23 (.q 20 (.p 22 (.q 24 (.e 25 (.p 26 .nil))))))))))))))))))))))))))) (by kernel_rfl) (⟨hmb4, hfb4, (Fr.refl _ _).drew⟩) ?_
        intro ops Q' hO hQ' wr1 hR1
        refine pl_p0 hO rfl rfl ?_ (fun w' => ?_) ?_; rotate_left 1; (focus (go_simp; ((try with_reducible rfl); done))); simp only [Act.put, List.setIfInBounds_toArray, List.set_cons_zero, List.set_cons_succ]
        refine pl_q0 hO rfl rfl ?_ (fun w' hS => ?_) ?_; rotate_left 1; (focus (obtain ⟨hS1, hS2, hS3⟩ := hS; go_simp; ((try with_reducible rfl); done))); simp only [Act.put, List.setIfInBounds_toArray, List.set_cons_zero, List.set_cons_succ]
        refine pl_e0 hO rfl rfl rfl (fun K hK => ?_)
        go_simp
        refine (refWord o.name _ (by omega)).mono ?_
        rintro e w16 ⟨rfl, rfl⟩
        rw [ha]
        refine hK _ _ (hR1) (fun hR_2 => ?_)
        clear hK K
        iterate 2 (refine pl_p0 hO rfl rfl ?_ (fun w' => ?_) ?_; rotate_left 1; (focus (go_simp; ((try with_reducible rfl); done))); simp only [Act.put, List.setIfInBounds_toArray, List.set_cons_zero, List.set_cons_succ])
        refine pl_p1 hO rfl rfl rfl rfl ?_ (fun w' => ?_) ?_; rotate_left 1; (focus (go_simp; ((try with_reducible rfl); done))); simp only [Act.put, List.setIfInBounds_toArray, List.set_cons_zero, List.set_cons_succ]
        refine pl_q1 hO rfl rfl rfl rfl ?_ (fun w' hS => ?_) ?_; rotate_left 1; (focus (obtain ⟨hS1, hS2, hS3⟩ := hS; go_simp; ((try with_reducible rfl); done))); simp only [Act.put, List.setIfInBounds_toArray, List.set_cons_zero, List.set_cons_succ]
        refine pl_e1 hO rfl rfl rfl rfl rfl (fun K hK => ?_)
        go_simp
        refine (refWord o.value _ (by omega)).mono ?_
        rintro e w16 ⟨rfl, rfl⟩
        rw [hv]
        refine hK _ _ (hR_2) (fun hR_7 => ?_)
        clear hK K
        refine pl_p1 hO rfl rfl rfl rfl ?_ (fun w' => ?_) ?_; rotate_left 1; (focus (go_simp; ((try with_reducible rfl); done))); simp only [Act.put, List.setIfInBounds_toArray, List.set_cons_zero, List.set_cons_succ]
        iterate 2 (refine pl_p0 hO rfl rfl ?_ (fun w' => ?_) ?_; rotate_left 1; (focus (go_simp; ((try with_reducible rfl); done))); simp only [Act.put, List.setIfInBounds_toArray, List.set_cons_zero, List.set_cons_succ])
        iterate 2 (refine pl_p1 hO rfl rfl rfl rfl ?_ (fun w' => ?_) ?_; rotate_left 1; (focus (go_simp; ((try with_reducible rfl); done))); simp only [Act.put, List.setIfInBounds_toArray, List.set_cons_zero, List.set_cons_succ])
        iterate 2 (refine pl_q1 hO rfl rfl rfl rfl ?_ (fun w' hS => ?_) ?_; rotate_left 1; (focus (obtain ⟨hS1, hS2, hS3⟩ := hS; go_simp; ((try with_reducible rfl); done))); simp only [Act.put, List.setIfInBounds_toArray, List.set_cons_zero, List.set_cons_succ])
        refine pl_e1 hO rfl rfl rfl rfl rfl (fun K hK => ?_)
        go_simp
        refine (refLow o.name _ (by omega)).mono ?_
        rintro e w16 ⟨rfl, f16⟩
        refine hK _ _ (keepT hpl hgl hR_7 f16) (fun hR_13 => ?_)
        clear hK K
        refine pl_p1 hO rfl rfl rfl rfl ?_ (fun w' => ?_) ?_; rotate_left 1; (focus (go_simp; ((try with_reducible rfl); done))); simp only [Act.put, List.setIfInBounds_toArray, List.set_cons_zero, List.set_cons_succ]
        iterate 2 (refine pl_p0 hO rfl rfl ?_ (fun w' => ?_) ?_; rotate_left 1; (focus (go_simp; ((try with_reducible rfl); done))); simp only [Act.put, List.setIfInBounds_toArray, List.set_cons_zero, List.set_cons_succ])
        iterate 3 (refine pl_pn hO rfl rfl rfl rfl ?_; simp only [Act.put, List.setIfInBounds_toArray, List.set_cons_zero, List.set_cons_succ])
        refine pl_qn hO rfl rfl rfl rfl ?_; simp only [Act.put, List.setIfInBounds_toArray, List.set_cons_zero, List.set_cons_succ]
        refine pl_pn hO rfl rfl rfl rfl ?_; simp only [Act.put, List.setIfInBounds_toArray, List.set_cons_zero, List.set_cons_succ]
        refine pl_qn hO rfl rfl rfl rfl ?_; simp only [Act.put, List.setIfInBounds_toArray, List.set_cons_zero, List.set_cons_succ]
        refine pl_en hO rfl rfl rfl rfl rfl (fun _ => hR_13) ?_
        simp only [Act.put, List.setIfInBounds_toArray, List.set_cons_zero, List.set_cons_succ]
        refine pl_p0 hO rfl rfl ?_ (fun w' => ?_) ?_; rotate_left 1; (focus (go_simp; ((try with_reducible rfl); done))); simp only [Act.put, List.setIfInBounds_toArray, List.set_cons_zero, List.set_cons_succ]
        refine pl_nil (hQ' _ _ ?_)
        have hlw1 : (o.name == lowL o.name) = false := by rw [beq_eq_false_iff_ne] at hlw0 ⊢; exact fun h => hlw0 h.symm
        have Hno := Lib.hid (HbadP.out (by unfold fldOk; simp [ha, hv, hlw1]))
        have hfrz := Hfr2.out.none hR_13.2.2
        go_wp2_with fail
        exact HB.out _ _ ⟨rfl, rfl⟩ rfl rfl hfrz Hno.out
      have hlq : (lowL o.name != o.name) = false := by rw [bne, hlw0]; rfl
      have hlw1 : (o.name == lowL o.name) = true := by rw [beq_iff_eq] at hlw0 ⊢; exact hlw0.symm
      rcases hnd : named (fs.take i) o.name with _ | _
      · have hjk : True := trivial
        refine wp_region_pls (by kernel_rfl) (fun w' => (∀ j, w'.cell? ⟨pa, j, none⟩ = (#[.int .u16 (op : Int), .int .u16 (bk : Int), .string (bs tx), .string (bs dt), .slice (some ad) n cap] : Array Value)[j]?) ∧ (∀ j, w'.cell? ⟨go, j, none⟩ = (#[.string (bs o.name), .string (bs o.value)] : Array Value)[j]?) ∧ Fr noB w4 w') [] (.p 0 (.q 1 (.e 2 (.p 3 (.p 4 (.p 5 (.q 6 (.e 7 (.p 8 (.p 9 (.p 10 (.p 11 (.p 14 (.q 12 (.q 15 (.e 13 (.p 16 (.p 17 (.p 18 (.p 19 (.p 21 (.p 23 (.q 20 (.p 22 (.q 24 (.e 25 (.p 26 .nil))))))))))))))))))))))))))) (by kernel_rfl) (⟨hmb4, hfb4, (Fr.refl _ _).drew⟩) ?_
        intro ops Q' hO hQ' wr1 hR1
        refine pl_p0 hO rfl rfl ?_ (fun w' => ?_) ?_; rotate_left 1; (focus (go_simp; ((try with_reducible rfl); done))); simp only [Act.put, List.setIfInBounds_toArray, List.set_cons_zero, List.set_cons_succ]
        refine pl_q0 hO rfl rfl ?_ (fun w' hS => ?_) ?_; rotate_left 1; (focus (obtain ⟨hS1, hS2, hS3⟩ := hS; go_simp; ((try with_reducible rfl); done))); simp only [Act.put, List.setIfInBounds_toArray, List.set_cons_zero, List.set_cons_succ]
        refine pl_e0 hO rfl rfl rfl (fun K hK => ?_)
        go_simp
        refine (refWord o.name _ (by omega)).mono ?_
        rintro e w16 ⟨rfl, rfl⟩
        rw [ha]
        refine hK _ _ (hR1) (fun hR_2 => ?_)
        clear hK K
        iterate 2 (refine pl_p0 hO rfl rfl ?_ (fun w' => ?_) ?_; rotate_left 1; (focus (go_simp; ((try with_reducible rfl); done))); simp only [Act.put, List.setIfInBounds_toArray, List.set_cons_zero, List.set_cons_succ])
        refine pl_p1 hO rfl rfl rfl rfl ?_ (fun w' => ?_) ?_; rotate_left 1; (focus (go_simp; ((try with_reducible rfl); done))); simp only [Act.put, List.setIfInBounds_toArray, List.set_cons_zero, List.set_cons_succ]
        refine pl_q1 hO rfl rfl rfl rfl ?_ (fun w' hS => ?_) ?_; rotate_left 1; (focus (obtain ⟨hS1, hS2, hS3⟩ := hS; go_simp; ((try with_reducible rfl); done))); simp only [Act.put, List.setIfInBounds_toArray, List.set_cons_zero, List.set_cons_succ]
        refine pl_e1 hO rfl rfl rfl rfl rfl (fun K hK => ?_)
        go_simp
        refine (refWord o.value _ (by omega)).mono ?_
        rintro e w16 ⟨rfl, rfl⟩
        rw [hv]
        refine hK _ _ (hR_2) (fun hR_7 => ?_)
        clear hK K
        refine pl_p1 hO rfl rfl rfl rfl ?_ (fun w' => ?_) ?_; rotate_left 1; (focus (go_simp; ((try with_reducible rfl); done))); simp only [Act.put, List.setIfInBounds_toArray, List.set_cons_zero, List.set_cons_succ]
        iterate 2 (refine pl_p0 hO rfl rfl ?_ (fun w' => ?_) ?_; rotate_left 1; (focus (go_simp; ((try with_reducible rfl); done))); simp only [Act.put, List.setIfInBounds_toArray, List.set_cons_zero, List.set_cons_succ])
        iterate 2 (refine pl_p1 hO rfl rfl rfl rfl ?_ (fun w' => ?_) ?_; rotate_left 1; (focus (go_simp; ((try with_reducible rfl); done))); simp only [Act.put, List.setIfInBounds_toArray, List.set_cons_zero, List.set_cons_succ])
        iterate 2 (refine pl_q1 hO rfl rfl rfl rfl ?_ (fun w' hS => ?_) ?_; rotate_left 1; (focus (obtain ⟨hS1, hS2, hS3⟩ := hS; go_simp; ((try with_reducible rfl); done))); simp only [Act.put, List.setIfInBounds_toArray, List.set_cons_zero, List.set_cons_succ])
        refine pl_e1 hO rfl rfl rfl rfl rfl (fun K hK => ?_)
        go_simp
        refine (refLow o.name _ (by omega)).mono ?_
        rintro e w16 ⟨rfl, f16⟩
        refine hK _ _ (keepT hpl hgl hR_7 f16) (fun hR_13 => ?_)
        clear hK K
        refine pl_p1 hO rfl rfl rfl rfl ?_ (fun w' => ?_) ?_; rotate_left 1; (focus (go_simp; ((try with_reducible rfl); done))); simp only [Act.put, List.setIfInBounds_toArray, List.set_cons_zero, List.set_cons_succ]
        iterate 2 (refine pl_p0 hO rfl rfl ?_ (fun w' => ?_) ?_; rotate_left 1; (focus (go_simp; ((try with_reducible rfl); done))); simp only [Act.put, List.setIfInBounds_toArray, List.set_cons_zero, List.set_cons_succ])
        iterate 3 (refine pl_p1 hO rfl rfl rfl rfl ?_ (fun w' => ?_) ?_; rotate_left 1; (focus (go_simp; ((try with_reducible rfl); done))); simp only [Act.put, List.setIfInBounds_toArray, List.set_cons_zero, List.set_cons_succ])
        refine pl_q1 hO rfl rfl rfl rfl ?_ (fun w' hS => ?_) ?_; rotate_left 1; (focus (obtain ⟨hS1, hS2, hS3⟩ := hS; go_simp; ((try with_reducible rfl); done))); simp only [Act.put, List.setIfInBounds_toArray, List.set_cons_zero, List.set_cons_succ]
        refine pl_p1 hO rfl rfl rfl rfl ?_ (fun w' => ?_) ?_; rotate_left 1; (focus (go_simp; ((try with_reducible rfl); done))); simp only [Act.put, List.setIfInBounds_toArray, List.set_cons_zero, List.set_cons_succ]
        refine pl_q1 hO rfl rfl rfl rfl ?_ (fun w' hS => ?_) ?_; rotate_left 1; (focus (obtain ⟨hS1, hS2, hS3⟩ := hS; go_simp; ((try with_reducible rfl); done))); simp only [Act.put, List.setIfInBounds_toArray, List.set_cons_zero, List.set_cons_succ]
        refine pl_e1 hO rfl rfl rfl rfl rfl (fun K hK => ?_)
        go_simp
        refine (refNamed (some ad) i cap (fs.take i) o.name _ (hA4.keep hR_13.2.2) (by omega)).mono ?_
        rintro e w17 ⟨rfl, f17⟩
        rw [hnd]
        refine hK _ _ (keepT hpl hgl hR_13 f17) (fun hR_25 => ?_)
        clear hK K
        refine pl_p0 hO rfl rfl ?_ (fun w' => ?_) ?_; rotate_left 1; (focus (go_simp; ((try with_reducible rfl); done))); simp only [Act.put, List.setIfInBounds_toArray, List.set_cons_zero, List.set_cons_succ]
        refine pl_nil (hQ' _ _ ?_)
        have Hg1 : Hid (fldTo fs (i + 1)) := Lib.hid (fldTo_succ Hgood.out Ho.out (by unfold fldOk; simp [ha, hv, hlw1, hnd]))
        have hfrz := Hfr2.out.none hR_25.2.2
        have hRz := hR_25
        obtain ⟨hRz1, hRz2, hRz3⟩ := hRz
        go_wp2_with fail
        refine ⟨⟨i + 1, by omega, by rw [Int.natCast_add]; rfl, by rw [fldB_succ Ho.out, ← List.append_assoc, Hlb.out, show (⟨#[0]⟩ : ByteArray) = bs [0] from rfl]; simp only [bs_append]; simp, hfrz, Hg1.out⟩, by simp only [intOf]; omega⟩
      · have hjk : True := trivial
        refine wp_region_pls (by kernel_rfl) (fun w' => (∀ j, w'.cell? ⟨pa, j, none⟩ = (#[.int .u16 (op : Int), .int .u16 (bk : Int), .string (bs tx), .string (bs dt), .slice (some ad) n cap] : Array Value)[j]?) ∧ (∀ j, w'.cell? ⟨go, j, none⟩ = (#[.string (bs o.name), .string (bs o.value)] : Array Value)[j]?) ∧ Fr noB w4 w') [] (.p 0 (.q 1 (.e 2 (.p 3 (.p 4 (.p 5 (.q 6 (.e 7 (.p 8 (.p 9 (.p 10 (.p 11 (.p 14 (.q 12 (.q 15 (.e 13 (.p 16 (.p 17 (.p 18 (.p 19 (.p 21 (.p 23 (.q 20 (.p 22 (.q 24 (.e 25 (.p 26 .nil))))))))))))))))))))))))))) (by kernel_rfl) (⟨hmb4, hfb4, (Fr.refl _ _).drew⟩) ?_
        intro ops Q' hO hQ' wr1 hR1
        refine pl_p0 hO rfl rfl ?_ (fun w' => ?_) ?_; rotate_left 1; (focus (go_simp; ((try with_reducible rfl); done))); simp only [Act.put, List.setIfInBounds_toArray, List.set_cons_zero, List.set_cons_succ]
        refine pl_q0 hO rfl rfl ?_ (fun w' hS => ?_) ?_; rotate_left 1; (focus (obtain ⟨hS1, hS2, hS3⟩ := hS; go_simp; ((try with_reducible rfl); done))); simp only [Act.put, List.setIfInBounds_toArray, List.set_cons_zero, List.set_cons_succ]
        refine pl_e0 hO rfl rfl rfl (fun K hK => ?_)
        go_simp
        refine (refWord o.name _ (by omega)).mono ?_
        rintro e w16 ⟨rfl, rfl⟩
        rw [ha]
        refine hK _ _ (hR1) (fun hR_2 => ?_)
        clear hK K
        iterate 2 (refine pl_p0 hO rfl rfl ?_ (fun w' => ?_) ?_; rotate_left 1; (focus (go_simp; ((try with_reducible rfl); done))); simp only [Act.put, List.setIfInBounds_toArray, List.set_cons_zero, List.set_cons_succ])
        refine pl_p1 hO rfl rfl rfl rfl ?_ (fun w' => ?_) ?_; rotate_left 1; (focus (go_simp; ((try with_reducible rfl); done))); simp only [Act.put, List.setIfInBounds_toArray, List.set_cons_zero, List.set_cons_succ]
        refine pl_q1 hO rfl rfl rfl rfl ?_ (fun w' hS => ?_) ?_; rotate_left 1; (focus (obtain ⟨hS1, hS2, hS3⟩ := hS; go_simp; ((try with_reducible rfl); done))); simp only [Act.put, List.setIfInBounds_toArray, List.set_cons_zero, List.set_cons_succ]
        refine pl_e1 hO rfl rfl rfl rfl rfl (fun K hK => ?_)
        go_simp
        refine (refWord o.value _ (by omega)).mono ?_
        rintro e w16 ⟨rfl, rfl⟩
        rw [hv]
        refine hK _ _ (hR_2) (fun hR_7 => ?_)
        clear hK K
        refine pl_p1 hO rfl rfl rfl rfl ?_ (fun w' => ?_) ?_; rotate_left 1; (focus (go_simp; ((try with_reducible rfl); done))); simp only [Act.put, List.setIfInBounds_toArray, List.set_cons_zero, List.set_cons_succ]
        iterate 2 (refine pl_p0 hO rfl rfl ?_ (fun w' => ?_) ?_; rotate_left 1; (focus (go_simp; ((try with_reducible rfl); done))); simp only [Act.put, List.setIfInBounds_toArray, List.set_cons_zero, List.set_cons_succ])
        iterate 2 (refine pl_p1 hO rfl rfl rfl rfl ?_ (fun w' => ?_) ?_; rotate_left 1; (focus (go_simp; ((try with_reducible rfl); done))); simp only [Act.put, List.setIfInBounds_toArray, List.set_cons_zero, List.set_cons_succ])
        iterate 2 (refine pl_q1 hO rfl rfl rfl rfl ?_ (fun w' hS => ?_) ?_; rotate_left 1; (focus (obtain ⟨hS1, hS2, hS3⟩ := hS; go_simp; ((try with_reducible rfl); done))); simp only [Act.put, List.setIfInBounds_toArray, List.set_cons_zero, List.set_cons_succ])
        refine pl_e1 hO rfl rfl rfl rfl rfl (fun K hK => ?_)
        go_simp
        refine (refLow o.name _ (by omega)).mono ?_
        rintro e w16 ⟨rfl, f16⟩
        refine hK _ _ (keepT hpl hgl hR_7 f16) (fun hR_13 => ?_)
        clear hK K
        refine pl_p1 hO rfl rfl rfl rfl ?_ (fun w' => ?_) ?_; rotate_left 1; (focus (go_simp; ((try with_reducible rfl); done))); simp only [Act.put, List.setIfInBounds_toArray, List.set_cons_zero, List.set_cons_succ]
        iterate 2 (refine pl_p0 hO rfl rfl ?_ (fun w' => ?_) ?_; rotate_left 1; (focus (go_simp; ((try with_reducible rfl); done))); simp only [Act.put, List.setIfInBounds_toArray, List.set_cons_zero, List.set_cons_succ])
        iterate 3 (refine pl_p1 hO rfl rfl rfl rfl ?_ (fun w' => ?_) ?_; rotate_left 1; (focus (go_simp; ((try with_reducible rfl); done))); simp only [Act.put, List.setIfInBounds_toArray, List.set_cons_zero, List.set_cons_succ])
        refine pl_q1 hO rfl rfl rfl rfl ?_ (fun w' hS => ?_) ?_; rotate_left 1; (focus (obtain ⟨hS1, hS2, hS3⟩ := hS; go_simp; ((try with_reducible rfl); done))); simp only [Act.put, List.setIfInBounds_toArray, List.set_cons_zero, List.set_cons_succ]
        refine pl_p1 hO rfl rfl rfl rfl ?_ (fun w' => ?_) ?_; rotate_left 1; (focus (go_simp; ((try with_reducible rfl); done))); simp only [Act.put, List.setIfInBounds_toArray, List.set_cons_zero, List.set_cons_succ]
        refine pl_q1 hO rfl rfl rfl rfl ?_ (fun w' hS => ?_) ?_; rotate_left 1; (focus (obtain ⟨hS1, hS2, hS3⟩ := hS; go_simp; ((try with_reducible rfl); done))); simp only [Act.put, List.setIfInBounds_toArray, List.set_cons_zero, List.set_cons_succ]
        refine pl_e1 hO rfl rfl rfl rfl rfl (fun K hK => ?_)
        go_simp
        refine (refNamed (some ad) i cap (fs.take i) o.name _ (hA4.keep hR_13.2.2) (by omega)).mono ?_
        rintro e w17 ⟨rfl, f17⟩
        rw [hnd]
        refine hK _ _ (keepT hpl hgl hR_13 f17) (fun hR_25 => ?_)
        clear hK K
        refine pl_p0 hO rfl rfl ?_ (fun w' => ?_) ?_; rotate_left 1; (focus (go_simp; ((try with_reducible rfl); done))); simp only [Act.put, List.setIfInBounds_toArray, List.set_cons_zero, List.set_cons_succ]
        refine pl_nil (hQ' _ _ ?_)
        have Hno := Lib.hid (HbadP.out (by unfold fldOk; simp [ha, hv, hnd]))
        have hfrz := Hfr2.out.none hR_25.2.2
        go_wp2_with fail
        exact HB.out _ _ ⟨rfl, rfl⟩ rfl rfl hfrz Hno.out
    · obtain rfl : i = n := by omega
      rw [List.take_of_length_le (by omega)] at hbl
      have hg := fldTo_all (by rw [hn]; exact hgood)
      have Hg := Lib.hid hg
      clear hg hgood
      have e0 : fs.take i = fs := List.take_of_length_le (by omega)
      rw [e0]
      go_wp2_with fail
      exact HG.out _ _ ⟨rfl, rfl⟩ (KpU.cons rfl (KpU.nil _ _)) rfl rfl hfr Hg.out
end Go.Proofs.YtcbkaiakdhiloabDoor
