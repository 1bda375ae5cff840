/- netbootref.WriteTFTP: the reference's writing of a message of TFTP. Written by mkreftwr.py. -/
import Derived.Test.YtcbkaiakdhiloabDoorRefTLoop
import Derived.Test.YtcbkaiakdhiloabDoorPseudo
set_option linter.unusedSimpArgs false
set_option linter.unusedVariables false
namespace Go.Proofs.YtcbkaiakdhiloabDoor
open Go.RowKit Go.Proofs
attribute [local go_sem] bs_size bs_append bs_extract bs_toList

theorem keepQ {w0 wa wb : World} {p : Nat} {cs : Array Value} (hp : p < w0.heap.size) (h : (∀ j, wa.cell? ⟨p, j, none⟩ = cs[j]?) ∧ Fr noB w0 wa) (hf : Fr noB wa wb) :
    (∀ j, wb.cell? ⟨p, j, none⟩ = cs[j]?) ∧ Fr noB w0 wb :=
  ⟨fun j => (hf.cell (a := ⟨p, j, none⟩) (Nat.lt_of_lt_of_le hp h.2.size) (fun x => x)).trans (h.1 j), h.2.none hf⟩

set_option maxRecDepth 20000 in
set_option maxHeartbeats 4000000 in
theorem refWriteTFTP (op bk : Nat) (tx dt : List UInt8) (fs : List FldD) (Ao : Option Addr) (cap : Nat) (w : World)
    (hop : op < 65536) (hbk : bk < 65536) (hA : SlR w noB 2 Ao fs.length (fldC fs)) (hnc : fs.length ≤ cap) (hwt : wtF fs ≤ 1048576) (htx : tx.length ≤ 1048576) (hdt : dt.length ≤ 1048576) :
    Calls Tryd.prog 19 #[.agg #[.int .u16 (op : Int), .int .u16 (bk : Int), .string (bs tx), .string (bs dt), .slice Ao fs.length cap]] w (strPost (wrTFTP ⟨op, bk, tx, dt, fs⟩) w) := by
  have hpa := Bk.new w 47 #[.int .u16 (op : Int), .int .u16 (bk : Int), .string (bs tx), .string (bs dt), .slice Ao fs.length cap]
  obtain ⟨n, hn⟩ : ∃ n, fs.length = n := ⟨_, rfl⟩
  rw [hn] at hA hpa hnc ⊢
  obtain ⟨r, hr⟩ : ∃ r, wrTFTP ⟨op, bk, tx, dt, fs⟩ = r := ⟨_, rfl⟩
  rw [hr]
  have Hr := Lib.hid hr
  have hlw := wtF_len fs
  clear hr
  have hf0 : Fr noB w (w.alloc (.cells #[.int .u16 (op : Int), .int .u16 (bk : Int), .string (bs tx), .string (bs dt), .slice Ao n cap] 47)) := (Fr.refl _ _).alloc _
  go_enter Tryd.func19, Tryd.ntmps19
  go_wp2_with fail
  have hb2 := refBigI (op : Int) 2 (w.alloc (.cells #[.int .u16 (op : Int), .int .u16 (bk : Int), .string (bs tx), .string (bs dt), .slice Ao n cap] 47)) (by omega) (by omega) (by omega)
  rw [Int.toNat_natCast] at hb2
  refine hb2.mono ?_
  rintro e w1 ⟨rfl, f1⟩
  clear hb2
  have hf1 : Fr noB w w1 := hf0.none f1
  have hpa1 := hpa.keep f1 (fun x => x)
  have hA1 := hA.keep hf1
  have hc1 := hpa1.cells
  have hpl := hpa1.lt
  clear hpa hA hf0 f1
  generalize Value.agg #[.int .u16 (op : Int), .int .u16 (bk : Int), .string (bs tx), .string (bs dt), .slice Ao n cap] = v0
  go_upto_block 0 with fail
  go_cut [2, 3, 4] from 5 (fun s2 s3 s4 wx => ∃ l, s4 = .string (bs l) ∧ Fr noB w wx ∧ r = capT l ∧ l.length ≤ 40000000)
  case first =>
    have hlb : (big 2 op).length = 2 := big_length _ _
    by_cases h1 : op = 1
    · have hi1 : (op : Int) = 1 := by omega
      have H1 := Lib.hid h1
      clear h1
      rcases hw : wordB tx with _ | _
      · have Hres : Hid (r = ([], 2)) := Lib.hid (by rw [← Hr.out]; simp [wrTFTP, H1.out, hw])
        have Hw := Lib.hid hw
        clear hw
        go_wp2_with (go_at_call 29; refine (refWord tx _ (by omega)).mono ?_; rintro e w6 ⟨rfl, rfl⟩; rw [Hw.out])
        go_ret2
        exact ⟨by rw [Hres.out]; rfl, hf1⟩
      · have Hw := Lib.hid hw
        clear hw
        go_upto_region 9 with (go_at_call 29; refine (refWord tx _ (by omega)).mono ?_; rintro e w6 ⟨rfl, rfl⟩; rw [Hw.out])
        obtain ⟨lb, hlb0⟩ : ∃ lb, big 2 op = lb := ⟨_, rfl⟩
        rw [hlb0] at hlb ⊢
        have Hlb0 := Lib.hid hlb0
        clear hlb0
        go_upto_block 1 with fail
        rw [show (⟨#[0, 111, 99, 116, 101, 116, 0]⟩ : ByteArray) = bs [0, 111, 99, 116, 101, 116, 0] from rfl]
        simp only [bs_append]
        refine wp_at (c := blockOf Tryd.f19 1) (by kernel_rfl) (rtLoop w.heap.size op bk n cap Ao tx dt fs w (lb ++ (tx ++ [0, 111, 99, 116, 101, 116, 0])) _ _ _ ⟨rfl, rfl⟩ rfl rfl rfl rfl rfl hpa1 hn hnc hA1 hwt (by simp [hlb]; omega) ?_ ?_)
        · intro a' w' s' e2 e3 hf' hno
          refine bodyPost_ret (results_tmp2 rfl _ _ _) s'.defers ?_
          have e2' : a'.tmps.getD 2 undef = _ := e2
          have e3' : a'.tmps.getD 3 undef = _ := e3
          rw [e2', e3']
          exact ⟨by rw [show r = ([], 2) from by rw [← Hr.out]; (unfold wrTFTP; rw [if_pos H1.out, if_pos Hw.out]); rw [hno]]; rfl, hf1.none hf'⟩
        · intro a' w' s' kp' e1 e4 hf' hyes
          rw [s'.eq]
          rw [show frN 125 (sl a') = ⟨(List.range 125).map (sl a') |>.toArray, []⟩ from rfl]
          simp only [show List.range 125 = [0, 1, 2, 3, 4, 5, 6, 7, 8, 9, 10, 11, 12, 13, 14, 15, 16, 17, 18, 19, 20, 21, 22, 23, 24, 25, 26, 27, 28, 29, 30, 31, 32, 33, 34, 35, 36, 37, 38, 39, 40, 41, 42, 43, 44, 45, 46, 47, 48, 49, 50, 51, 52, 53, 54, 55, 56, 57, 58, 59, 60, 61, 62, 63, 64, 65, 66, 67, 68, 69, 70, 71, 72, 73, 74, 75, 76, 77, 78, 79, 80, 81, 82, 83, 84, 85, 86, 87, 88, 89, 90, 91, 92, 93, 94, 95, 96, 97, 98, 99, 100, 101, 102, 103, 104, 105, 106, 107, 108, 109, 110, 111, 112, 113, 114, 115, 116, 117, 118, 119, 120, 121, 122, 123, 124] from rfl, List.map_cons, List.map_nil, e1, e4, kp' 0 (by decide)]
          generalize sl a' = z'
          have Hyes := Lib.hid hyes
          clear hyes kp' s' e1 e4
          have hfl := fldB_len fs
          go_wp2_with fail
          go_meet
          case rel => exact ⟨_, rfl, hf1.none hf', by rw [← Hr.out]; (unfold wrTFTP; rw [if_pos H1.out, if_pos Hw.out]); rw [Hyes.out]; simp [Hlb0.out], by simp [hlb]; omega⟩
    have j1 : ((op : Int) == 1) = false := by rw [beq_eq_false_iff_ne]; omega
    have H1 := Lib.hid h1
    clear h1
    by_cases h6 : op = 6
    · have hi6 : (op : Int) = 6 := by omega
      have H6 := Lib.hid h6
      clear h6 j1
      go_upto_block 1 with fail
      refine wp_at (c := blockOf Tryd.f19 1) (by kernel_rfl) (rtLoop w.heap.size op bk n cap Ao tx dt fs w (big 2 op) _ _ _ ⟨rfl, rfl⟩ rfl rfl rfl rfl rfl hpa1 hn hnc hA1 hwt (by simp [big_length]; try omega) ?_ ?_)
      · intro a' w' s' e2 e3 hf' hno
        refine bodyPost_ret (results_tmp2 rfl _ _ _) s'.defers ?_
        have e2' : a'.tmps.getD 2 undef = _ := e2
        have e3' : a'.tmps.getD 3 undef = _ := e3
        rw [e2', e3']
        exact ⟨by rw [show r = ([], 2) from by rw [← Hr.out]; (unfold wrTFTP; rw [if_neg H1.out, if_pos H6.out]); rw [hno]]; rfl, hf1.none hf'⟩
      · intro a' w' s' kp' e1 e4 hf' hyes
        rw [s'.eq]
        rw [show frN 125 (sl a') = ⟨(List.range 125).map (sl a') |>.toArray, []⟩ from rfl]
        simp only [show List.range 125 = [0, 1, 2, 3, 4, 5, 6, 7, 8, 9, 10, 11, 12, 13, 14, 15, 16, 17, 18, 19, 20, 21, 22, 23, 24, 25, 26, 27, 28, 29, 30, 31, 32, 33, 34, 35, 36, 37, 38, 39, 40, 41, 42, 43, 44, 45, 46, 47, 48, 49, 50, 51, 52, 53, 54, 55, 56, 57, 58, 59, 60, 61, 62, 63, 64, 65, 66, 67, 68, 69, 70, 71, 72, 73, 74, 75, 76, 77, 78, 79, 80, 81, 82, 83, 84, 85, 86, 87, 88, 89, 90, 91, 92, 93, 94, 95, 96, 97, 98, 99, 100, 101, 102, 103, 104, 105, 106, 107, 108, 109, 110, 111, 112, 113, 114, 115, 116, 117, 118, 119, 120, 121, 122, 123, 124] from rfl, List.map_cons, List.map_nil, e1, e4, kp' 0 (by decide)]
        generalize sl a' = z'
        have Hyes := Lib.hid hyes
        clear hyes kp' s' e1 e4
        have hfl := fldB_len fs
        go_wp2_with fail
        go_meet
        case rel => exact ⟨_, rfl, hf1.none hf', by rw [← Hr.out]; (unfold wrTFTP; rw [if_neg H1.out, if_pos H6.out]); rw [Hyes.out], by simp [big_length]; omega⟩
    have j6 : ((op : Int) == 6) = false := by rw [beq_eq_false_iff_ne]; omega
    have H6 := Lib.hid h6
    clear h6
    have hl2 : (big 2 bk).length = 2 := big_length _ _
    obtain ⟨lb, hlb0⟩ : ∃ lb, big 2 op = lb := ⟨_, rfl⟩
    rw [hlb0] at hlb ⊢
    have Hlb0 := Lib.hid hlb0
    clear hlb0
    obtain ⟨kb, hkb0⟩ : ∃ kb, big 2 bk = kb := ⟨_, rfl⟩
    have hbk2 := refBigI (bk : Int) 2
    rw [hkb0] at hl2
    have Hkb0 := Lib.hid hkb0
    clear hkb0 hbk2
    by_cases h3 : op = 3
    · have hi3 : (op : Int) = 3 := by omega
      have H3 := Lib.hid h3
      clear h3 j1 j6
      by_cases hlen : 1024 < dt.length
      · have hli : (1024 : Int) < (dt.length : Int) := by omega
        have Hres : Hid (r = ([], 7)) := Lib.hid (by rw [← Hr.out]; unfold wrTFTP; rw [if_neg H1.out, if_neg H6.out, if_pos H3.out, if_pos hlen])
        clear hlen
        go_wp2_with fail
        go_ret2
        exact ⟨by rw [Hres.out]; rfl, hf1⟩
      · have hli : ¬ (1024 : Int) < (dt.length : Int) := by omega
        have Hres : Hid (r = capT (lb ++ kb ++ dt)) := Lib.hid (by rw [← Hr.out, ← Hlb0.out, ← Hkb0.out]; unfold wrTFTP; rw [if_neg H1.out, if_neg H6.out, if_pos H3.out, if_neg hlen])
        have q1 : ¬ 9223372036854775807 < 2 + dt.length := by omega
        have q2 : ¬ 9223372036854775807 < 2 + (2 + dt.length) := by omega
        go_upto_region 20 with fail
        have hwb : IntKind.i64.wrap (bk : Int) = (bk : Int) := IntWalk.i64_in _ (by omega)
        refine wp_region_pls (by kernel_rfl) (fun w' => (∀ j, w'.cell? ⟨w.heap.size, j, none⟩ = (#[.int .u16 (op : Int), .int .u16 (bk : Int), .string (bs tx), .string (bs dt), .slice Ao n cap] : Array Value)[j]?) ∧ Fr noB w1 w') [] (.p 0 (.p 1 (.p 5 (.q 2 (.p 3 (.q 6 (.e 4 (.p 7 (.p 8 (.p 9 .nil)))))))))) (by kernel_rfl) (⟨hc1, (Fr.refl _ _).drew⟩) ?_
        intro ops Q' hO hQ' wr1 hR1
        iterate 3 (refine pl_p0 hO rfl rfl ?_ (fun w' => ?_) ?_; rotate_left 1; (focus (go_simp; ((try with_reducible rfl); done))); simp only [Act.put, List.setIfInBounds_toArray, List.set_cons_zero, List.set_cons_succ])
        refine pl_q0 hO rfl rfl ?_ (fun w' hS => ?_) ?_; rotate_left 1; (focus (obtain ⟨hS1, hS2⟩ := hS; go_simp; ((try with_reducible rfl); done))); simp only [Act.put, List.setIfInBounds_toArray, List.set_cons_zero, List.set_cons_succ]
        refine pl_p0 hO rfl rfl ?_ (fun w' => ?_) ?_; rotate_left 1; (focus (go_simp; ((try with_reducible rfl); done))); simp only [Act.put, List.setIfInBounds_toArray, List.set_cons_zero, List.set_cons_succ]
        refine pl_q0 hO rfl rfl ?_ (fun w' hS => ?_) ?_; rotate_left 1; (focus (obtain ⟨hS1, hS2⟩ := hS; go_simp; ((try with_reducible rfl); done))); simp only [Act.put, List.setIfInBounds_toArray, List.set_cons_zero, List.set_cons_succ]
        refine pl_e0 hO rfl rfl rfl (fun K hK => ?_)
        go_simp
        refine (refBigI (bk : Int) 2 _ (by omega) (by omega) (by omega)).mono ?_
        rintro e w16 ⟨rfl, f16⟩
        rw [Int.toNat_natCast]
        rw [Hkb0.out]
        refine hK _ _ (keepQ hpl hR1 f16) (fun hR_4 => ?_)
        clear hK K
        iterate 3 (refine pl_p0 hO rfl rfl ?_ (fun w' => ?_) ?_; rotate_left 1; (focus (go_simp; ((try with_reducible rfl); done))); simp only [Act.put, List.setIfInBounds_toArray, List.set_cons_zero, List.set_cons_succ])
        refine pl_nil (hQ' _ _ ?_)
        clear hwb
        go_wp2_with fail
        go_meet
        case rel => exact ⟨lb ++ (kb ++ dt), rfl, hf1.none hR_4.2, by rw [Hres.out, List.append_assoc], by simp [hlb, hl2]; omega⟩
    have j3 : ((op : Int) == 3) = false := by rw [beq_eq_false_iff_ne]; omega
    have H3 := Lib.hid h3
    clear h3
    by_cases h4 : op = 4
    · have hi4 : (op : Int) = 4 := by omega
      have H4 := Lib.hid h4
      clear h4 j1 j6 j3
      go_wp2_with fail
      have hb3 := refBigI (bk : Int) 2 w1 (by omega) (by omega) (by omega)
      rw [Int.toNat_natCast, Hkb0.out] at hb3
      refine hb3.mono ?_
      rintro e w16 ⟨rfl, f16⟩
      clear hb3
      go_wp2_with fail
      go_meet
      case rel => exact ⟨lb ++ kb, rfl, hf1.none f16, by rw [← Hr.out, ← Hlb0.out, ← Hkb0.out]; unfold wrTFTP; rw [if_neg H1.out, if_neg H6.out, if_neg H3.out, if_pos H4.out], by simp [hlb, hl2]⟩
    have j4 : ((op : Int) == 4) = false := by rw [beq_eq_false_iff_ne]; omega
    have H4 := Lib.hid h4
    clear h4
    by_cases h5 : op = 5
    · have hi5 : (op : Int) = 5 := by omega
      have H5 := Lib.hid h5
      clear h5 j1 j6 j3 j4
      go_wp2_with fail
      go_loop [7] (fun iv => ∃ i : Nat, i ≤ tx.length ∧ iv = .int .i64 (i : Int) ∧ ∀ j, j < i → tx[j]? ≠ some 0) (fun iv => tx.length - (intOf iv).toNat)
      case atStart => exact ⟨0, Nat.zero_le _, rfl, fun j h => absurd h (by omega)⟩
      case round =>
        obtain ⟨i, hi, rfl, hno⟩ := hrel
        by_cases hlt : i < tx.length
        · obtain ⟨c, hc⟩ : ∃ c, tx[i]? = some c := ⟨_, List.getElem?_eq_getElem hlt⟩
          have hcx : ∀ h : i < (bs tx).size, (bs tx)[i]'h = c := fun h => by rw [bs_get]; rw [List.getElem?_eq_getElem hlt] at hc; exact Option.some.inj hc
          by_cases hz : c = 0
          · have hzi : (c.toNat : Int) = 0 := by rw [hz]; rfl
            have Hres : Hid (r = ([], 2)) := Lib.hid (by
              rw [← Hr.out]; unfold wrTFTP; rw [if_neg H1.out, if_neg H6.out, if_neg H3.out, if_neg H4.out, if_pos H5.out, if_pos]
              rw [List.contains_iff_mem]; exact List.mem_of_getElem? (hz ▸ hc))
            have Hno := Lib.hid hno
            clear hno hz hc
            go_wp2_with fail
            go_ret2
            exact ⟨by rw [Hres.out]; rfl, hf1⟩
          · have hzi : ((c.toNat : Int) == 0) = false := by
              rw [beq_eq_false_iff_ne]; intro h; apply hz; apply UInt8.toNat_inj.1; simpa using h
            have Hno := Lib.hid hno
            have Hc := Lib.hid hc
            have Hz := Lib.hid hz
            clear hno hz hc
            go_wp2_with fail
            go_round
            case rel => exact ⟨i + 1, by omega, by go_num, fun j hj => by
              rcases Nat.lt_or_ge j i with h | h
              · exact Hno.out j h
              · obtain rfl : j = i := by omega
                rw [Hc.out]; intro h; exact Hz.out (Option.some.inj h)⟩
            case measure => simp [intOf]; omega
        · obtain rfl : i = tx.length := by omega
          have Hres : Hid (r = capT (lb ++ kb ++ tx ++ [0])) := Lib.hid (by
            rw [← Hr.out, ← Hlb0.out, ← Hkb0.out]; unfold wrTFTP; rw [if_neg H1.out, if_neg H6.out, if_neg H3.out, if_neg H4.out, if_pos H5.out, if_neg]
            rw [List.contains_iff_mem]; intro h
            obtain ⟨j, hj, e⟩ := List.getElem_of_mem h
            exact hno j hj (by rw [List.getElem?_eq_getElem hj, e]))
          have Hno := Lib.hid hno
          clear hno
          have q1 : ¬ 9223372036854775807 < 2 + tx.length := by omega
          have q2 : ¬ 9223372036854775807 < 2 + (2 + tx.length + 1) := by omega
          have q3 : ¬ 9223372036854775807 < 2 + tx.length + 1 := by omega
          have q4 : ¬ 9223372036854775807 < 2 + (2 + (tx.length + 1)) := by omega
          have q5 : ¬ 9223372036854775807 < 2 + (tx.length + 1) := by omega
          go_upto_region 29 with fail
          have hwb : IntKind.i64.wrap (bk : Int) = (bk : Int) := IntWalk.i64_in _ (by omega)
          refine wp_region_pls (by kernel_rfl) (fun w' => (∀ j, w'.cell? ⟨w.heap.size, j, none⟩ = (#[.int .u16 (op : Int), .int .u16 (bk : Int), .string (bs tx), .string (bs dt), .slice Ao n cap] : Array Value)[j]?) ∧ Fr noB w1 w') [] (.p 0 (.p 1 (.p 5 (.q 2 (.p 3 (.q 6 (.e 4 (.p 7 (.p 8 (.p 9 (.p 10 .nil))))))))))) (by kernel_rfl) (⟨hc1, (Fr.refl _ _).drew⟩) ?_
          intro ops Q' hO hQ' wr1 hR1
          iterate 3 (refine pl_p0 hO rfl rfl ?_ (fun w' => ?_) ?_; rotate_left 1; (focus (go_simp; ((try with_reducible rfl); done))); simp only [Act.put, List.setIfInBounds_toArray, List.set_cons_zero, List.set_cons_succ])
          refine pl_q0 hO rfl rfl ?_ (fun w' hS => ?_) ?_; rotate_left 1; (focus (obtain ⟨hS1, hS2⟩ := hS; go_simp; ((try with_reducible rfl); done))); simp only [Act.put, List.setIfInBounds_toArray, List.set_cons_zero, List.set_cons_succ]
          refine pl_p0 hO rfl rfl ?_ (fun w' => ?_) ?_; rotate_left 1; (focus (go_simp; ((try with_reducible rfl); done))); simp only [Act.put, List.setIfInBounds_toArray, List.set_cons_zero, List.set_cons_succ]
          refine pl_q0 hO rfl rfl ?_ (fun w' hS => ?_) ?_; rotate_left 1; (focus (obtain ⟨hS1, hS2⟩ := hS; go_simp; ((try with_reducible rfl); done))); simp only [Act.put, List.setIfInBounds_toArray, List.set_cons_zero, List.set_cons_succ]
          refine pl_e0 hO rfl rfl rfl (fun K hK => ?_)
          go_simp
          refine (refBigI (bk : Int) 2 _ (by omega) (by omega) (by omega)).mono ?_
          rintro e w16 ⟨rfl, f16⟩
          rw [Int.toNat_natCast]
          rw [Hkb0.out]
          refine hK _ _ (keepQ hpl hR1 f16) (fun hR_4 => ?_)
          clear hK K
          iterate 4 (refine pl_p0 hO rfl rfl ?_ (fun w' => ?_) ?_; rotate_left 1; (focus (go_simp; ((try with_reducible rfl); done))); simp only [Act.put, List.setIfInBounds_toArray, List.set_cons_zero, List.set_cons_succ])
          refine pl_nil (hQ' _ _ ?_)
          clear hwb
          rw [show (⟨#[0]⟩ : ByteArray) = bs [0] from rfl]
          simp only [bs_append]
          go_wp2_with fail
          go_meet
          case rel => exact ⟨lb ++ (kb ++ (tx ++ [0])), rfl, hf1.none hR_4.2, by rw [Hres.out]; simp, by simp [hlb, hl2]; omega⟩
    have j5 : ((op : Int) == 5) = false := by rw [beq_eq_false_iff_ne]; omega
    have Hres : Hid (r = ([], 2)) := Lib.hid (by rw [← Hr.out]; unfold wrTFTP; rw [if_neg H1.out, if_neg H6.out, if_neg H3.out, if_neg H4.out, if_neg h5])
    clear h5
    go_wp2_with fail
    go_ret2
    exact ⟨by rw [Hres.out]; rfl, hf1⟩
  case rest =>
    obtain ⟨l7, rfl, hf7, hr7, hl7⟩ := hcut
    have Hr7 := Lib.hid hr7
    clear hr7
    by_cases hlen : 1472 < l7.length
    · have hli : (1472 : Int) < (l7.length : Int) := by omega
      have Hres : Hid (r = ([], 7)) := Lib.hid (by rw [Hr7.out]; unfold capT; rw [if_pos hlen])
      clear hlen
      go_wp2_with fail
      go_ret2
      exact ⟨by rw [Hres.out]; rfl, hf7⟩
    · have hli : ¬ (1472 : Int) < (l7.length : Int) := by omega
      have Hres : Hid (r = (l7, 0)) := Lib.hid (by rw [Hr7.out]; unfold capT; rw [if_neg hlen])
      clear hlen
      go_wp2_with fail
      go_ret2
      exact ⟨by rw [Hres.out]; rfl, hf7⟩
end Go.Proofs.YtcbkaiakdhiloabDoor
