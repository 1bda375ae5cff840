/- Proves: for every string s the law netbootlaw.EtherReads(s) returns true (and s reads afterwards as before). No condition. -/
import Derived.Test.YtcbkaiakdhiloaaReadEther
import Derived.Test.YtcbkaiakdhiloaaRegU
import Derived.Test.YtcbkaiakdhiloaaRow
import Derived.Test.YtcbkaiakdhiloaaEq
set_option linter.unusedSimpArgs false
set_option linter.unusedVariables false
namespace Go.Proofs.Ytcbkaiakdhiloaa
open Go.RowKit Go.Proofs Go.ChangeShapes Go.WideShapes Go.ChangeAt
open Go.WideMaps Go.WideElems
open Go.ChangeMaps (open_string shut_string)
attribute [local go_sem] bs_size bs_append bs_sub bs_toList

theorem ethC_size (x : EthD) : (ethC x).size = zcEth.size := rfl
theorem ethC_one (x : EthD) : (ethC x).all (·.oneCell') = true := by kernel_rfl
theorem eth_info (x : EthD) : (Try.prog.info? 44).map (·.size) = some (ethC x).size := by rw [ethC_size]; kernel_rfl

theorem packetReadEther (l : List UInt8) (w : World) (hl : l.length ≤ 9223372036854775807) :
    Calls Try.prog 40 #[.string (bs l)] w (ethPost l w) := by
  go_enter Try.func40, Try.ntmps40
  go_wp2_with fail
  have hx0 := Bk.new w 44 zcEth
  have hf0 : Fr noB w (w.alloc (.cells zcEth 44)) := (Fr.refl _ _).alloc _
  unfold zcEth at hx0 hf0
  generalize w.alloc (.cells #[.int .u8 0, .int .u8 0, .int .u8 0, .int .u8 0, .int .u8 0, .int .u8 0, .int .u8 0, .int .u8 0, .int .u8 0, .int .u8 0, .int .u8 0, .int .u8 0, .int .u16 0, .string ⟨#[]⟩] 44) = w1 at *
  refine (ethRead l _ hl).mono ?_
  rintro e w2 ⟨rfl, hf1⟩
  have hx1 := hx0.keep hf1 (fun x => x)
  have hsz := Lib.hid (ethC_size (readEther l).1)
  have hin := Lib.hid (eth_info (readEther l).1)
  have hon := Lib.hid (ethC_one (readEther l).1)
  generalize hr : readEther l = r at *
  have Hr := Lib.hid hr
  clear hr
  generalize hc : ethC r.1 = c at *
  have Hc := Lib.hid hc
  clear hc
  go_wp2_with ((refine wpList_store_bk rfl 44 (.tmp 2) (.tmp 6) rfl w.heap.size _ _ c rfl rfl hx1 hsz.out hin.out hon.out ?_); intro w9 hx9 hf9)
  refine bodyPost_ret (results_row_tmp Try.results40 _ w9 w.heap.size _ c _ _ rfl rfl hx9 Try.underlying44 rfl hin.out) rfl ?_
  exact ⟨by rw [Hr.out, Hc.out]; rfl, (hf0.none hf1).trans' hf9 (fun b hb e => by unfold oneB at e; omega)⟩

theorem bootReadEther (l : List UInt8) (w : World) (hl : l.length ≤ 9223372036854775807) :
    Calls Try.prog 21 #[.string (bs l)] w (ethPost l w) := by
  go_enter Try.func21, Try.ntmps21
  go_wp2_with fail
  have hx0 := Bk.new w 44 zcEth
  have hf0 : Fr noB w (w.alloc (.cells zcEth 44)) := (Fr.refl _ _).alloc _
  unfold zcEth at hx0 hf0
  generalize w.alloc (.cells #[.int .u8 0, .int .u8 0, .int .u8 0, .int .u8 0, .int .u8 0, .int .u8 0, .int .u8 0, .int .u8 0, .int .u8 0, .int .u8 0, .int .u8 0, .int .u8 0, .int .u16 0, .string ⟨#[]⟩] 44) = w1 at *
  refine (packetReadEther l _ hl).mono ?_
  rintro e w2 ⟨rfl, hf1⟩
  have hx1 := hx0.keep hf1 (fun x => x)
  have hsz := Lib.hid (ethC_size (readEther l).1)
  have hin := Lib.hid (eth_info (readEther l).1)
  have hon := Lib.hid (ethC_one (readEther l).1)
  generalize hr : readEther l = r at *
  have Hr := Lib.hid hr
  clear hr
  generalize hc : ethC r.1 = c at *
  have Hc := Lib.hid hc
  clear hc
  go_wp2_with ((refine wpList_store_bk rfl 44 (.tmp 2) (.tmp 6) rfl w.heap.size _ _ c rfl rfl hx1 hsz.out hin.out hon.out ?_); intro w9 hx9 hf9)
  refine bodyPost_ret (results_row_tmp Try.results21 _ w9 w.heap.size _ c _ _ rfl rfl hx9 Try.underlying44 rfl hin.out) rfl ?_
  exact ⟨by rw [Hr.out, Hc.out]; rfl, (hf0.none hf1).trans' hf9 (fun b hb e => by unfold oneB at e; omega)⟩


set_option maxRecDepth 20000 in
set_option maxHeartbeats 1000000 in
theorem refReadEther (l : List UInt8) (w : World) (hl : l.length ≤ 9223372036854775807) :
    Calls Try.prog 22 #[.string (bs l)] w (ethPost l w) := by
  have hx0 := Bk.new w 44 zcEth
  have hf0 : Fr noB w (w.alloc (.cells zcEth 44)) := (Fr.refl _ _).alloc _
  unfold zcEth at hx0 hf0
  by_cases h14 : l.length < 14
  · have hs := Lib.hid (readEther_short l h14)
    go_enter Try.func22, Try.ntmps22
    go_wp2_with ((refine wpList_store_bk rfl 44 (.tmp 2) (.tmp 8) rfl w.heap.size _ _ zcEth rfl rfl hx0 rfl (by kernel_rfl) (by kernel_rfl) ?_); intro w9 hx9 hf9)
    refine bodyPost_ret (results_row_tmp Try.results22 _ w9 w.heap.size _ zcEth _ _ rfl rfl hx9 Try.underlying44 rfl (by kernel_rfl)) rfl ?_
    exact ⟨by rw [hs.out]; rfl, hf0.trans' hf9 (fun b hb e => by unfold oneB at e; omega)⟩
  · go_enter Try.func22, Try.ntmps22
    go_wp2_with fail
    generalize w.alloc (.cells #[.int .u8 0, .int .u8 0, .int .u8 0, .int .u8 0, .int .u8 0, .int .u8 0, .int .u8 0, .int .u8 0, .int .u8 0, .int .u8 0, .int .u8 0, .int .u8 0, .int .u16 0, .string ⟨#[]⟩] 44) = w1 at *
    have hspec : Hid (readEther l = if num (sub l 12 14) < 1536 then (eth0, 3) else if 1500 < (sub l 14 l.length).length then (eth0, 7)
      else (⟨macOf l, macOf (sub l 6 l.length), num (sub l 12 14), sub l 14 l.length⟩, 0)) := by
      unfold Hid readEther; rw [if_neg h14]
    have h14' : (14 : Int) ≤ l.length := by omega
    have n0 : num (sub l 12 14) < 65536 := by
      have h := num_le (sub l 12 14)
      rw [sub_length l 12 14 (by omega)] at h; exact h
    have e4 : IntKind.u16.wrap (num (sub l 12 14) : Int) = num (sub l 12 14) := by rw [IntKind.wrap_u16]; omega
    have hsz := Lib.hid (ethC_size ⟨macOf l, macOf (sub l 6 l.length), num (sub l 12 14), sub l 14 l.length⟩)
    have hin := Lib.hid (eth_info ⟨macOf l, macOf (sub l 6 l.length), num (sub l 12 14), sub l 14 l.length⟩)
    have hon := Lib.hid (ethC_one ⟨macOf l, macOf (sub l 6 l.length), num (sub l 12 14), sub l 14 l.length⟩)
    obtain ⟨V, hV⟩ : ∃ V : Nat → Value, V = (fun j => match j with | 0 => .string (bs l) | 1 => macV (macOf l) | 2 => .string (bs l) | 3 => .string (bs (sub l 6 l.length)) | 4 => macV (macOf (sub l 6 l.length)) | 5 => .string (bs l) | 6 => .string (bs (sub l 12 14)) | 7 => .int .i64 (num (sub l 12 14)) | 8 => .int .u16 (num (sub l 12 14)) | 9 => .string (bs l) | 10 => .string (bs (sub l 14 l.length)) | 11 => .agg (ethC ⟨macOf l, macOf (sub l 6 l.length), num (sub l 12 14), sub l 14 l.length⟩) | _ => undef) := ⟨_, rfl⟩
    have v0 : V 0 = .string (bs l) := congrFun hV 0
    have v1 : V 1 = macV (macOf l) := congrFun hV 1
    have v2 : V 2 = .string (bs l) := congrFun hV 2
    have v3 : V 3 = .string (bs (sub l 6 l.length)) := congrFun hV 3
    have v4 : V 4 = macV (macOf (sub l 6 l.length)) := congrFun hV 4
    have v5 : V 5 = .string (bs l) := congrFun hV 5
    have v6 : V 6 = .string (bs (sub l 12 14)) := congrFun hV 6
    have v7 : V 7 = .int .i64 (num (sub l 12 14)) := congrFun hV 7
    have v8 : V 8 = .int .u16 (num (sub l 12 14)) := congrFun hV 8
    have v9 : V 9 = .string (bs l) := congrFun hV 9
    have v10 : V 10 = .string (bs (sub l 14 l.length)) := congrFun hV 10
    have v11 : V 11 = .agg (ethC ⟨macOf l, macOf (sub l 6 l.length), num (sub l 12 14), sub l 14 l.length⟩) := congrFun hV 11
    clear hV
    refine wp_region_ssau (by kernel_rfl) (by kernel_rfl) (by kernel_rfl)
      (fun u => ⟨#[.string (bs l), undef, .pointer (some ⟨w.heap.size, 0, none⟩), .int .i64 0, u 12, .string (bs l), .int .i64 l.length, .bool (decide ((l.length : Int) < 14)), undef, u 0, u 1, u 2, u 3, u 4, u 5, u 6, u 7, u 8, u 9, u 10, u 11, undef, undef, undef, undef, undef, undef, undef, undef, undef, undef], []⟩)
      (fun j v w3 => if j = 12 then True else if j = 13 then True else v = V j)
      (fun L u w3 => Fr noB w1 w3 ∧ (L 12 = true → ∃ g, u 12 = .pointer (some ⟨g, 0, none⟩) ∧ w1.heap.size ≤ g ∧ Bk w3 g 44 (if L 13 = true then (ethC ⟨macOf l, macOf (sub l 6 l.length), num (sub l 12 14), sub l 14 l.length⟩) else zcEth)) ∧ (L 13 = true → L 12 = true)) (fun j => undef) ⟨(Fr.refl _ _).drew, (fun h => by cases h), fun h => by cases h⟩ ?_ ?_
    · rintro L u w3 i o hG hΦ ho hL hd K hK
      match i, ho with
      | 0, ho =>
        simp at ho; subst ho
        clear hΦ hd
        go_simp
        exact hK _ _ v0.symm hG (fun _ _ _ h => h)
      | 1, ho =>
        simp at ho; subst ho
        have hu0 : u 0 = V 0 := hΦ 0 (hd ⟨0, .data⟩ (by simp) (by rfl))
        rw [v0] at hu0
        clear hΦ hd
        have hx : ∃ x, u = (upd x 0 (.string (bs l))) := ⟨u, by rw [← upd_self hu0]⟩
        clear hu0
        obtain ⟨x, rfl⟩ := hx
        simp only [upd, reduceIte, Nat.reduceEqDiff]
        go_simp
        refine (refMacOf l _ (by omega) hl).mono ?_
        rintro e w4 ⟨rfl, hf4⟩
        exact hK _ _ v1.symm ⟨hG.1.none hf4, (fun h => by obtain ⟨g, h1, h2, h3⟩ := hG.2.1 h; exact ⟨g, h1, h2, h3.keep hf4 (fun x => x)⟩), hG.2.2⟩ (fun j x _ h => h)
      | 2, ho =>
        simp at ho; subst ho
        clear hΦ hd
        go_simp
        exact hK _ _ v2.symm hG (fun _ _ _ h => h)
      | 3, ho =>
        simp at ho; subst ho
        have hu2 : u 2 = V 2 := hΦ 2 (hd ⟨2, .data⟩ (by simp) (by rfl))
        rw [v2] at hu2
        clear hΦ hd
        have hx : ∃ x, u = (upd x 2 (.string (bs l))) := ⟨u, by rw [← upd_self hu2]⟩
        clear hu2
        obtain ⟨x, rfl⟩ := hx
        simp only [upd, reduceIte, Nat.reduceEqDiff]
        go_simp
        try (rw [if_pos (by omega)]; go_simp)
        exact hK _ _ v3.symm hG (fun _ _ _ h => h)
      | 4, ho =>
        simp at ho; subst ho
        have hu3 : u 3 = V 3 := hΦ 3 (hd ⟨3, .data⟩ (by simp) (by rfl))
        rw [v3] at hu3
        clear hΦ hd
        have hx : ∃ x, u = (upd x 3 (.string (bs (sub l 6 l.length)))) := ⟨u, by rw [← upd_self hu3]⟩
        clear hu3
        obtain ⟨x, rfl⟩ := hx
        simp only [upd, reduceIte, Nat.reduceEqDiff]
        go_simp
        refine (refMacOf (sub l 6 l.length) _ (by rw [sub_length l 6 l.length (by omega)]; omega) (by have := sub_le l 6 l.length; omega)).mono ?_
        rintro e w4 ⟨rfl, hf4⟩
        exact hK _ _ v4.symm ⟨hG.1.none hf4, (fun h => by obtain ⟨g, h1, h2, h3⟩ := hG.2.1 h; exact ⟨g, h1, h2, h3.keep hf4 (fun x => x)⟩), hG.2.2⟩ (fun j x _ h => h)
      | 5, ho =>
        simp at ho; subst ho
        clear hΦ hd
        go_simp
        exact hK _ _ v5.symm hG (fun _ _ _ h => h)
      | 6, ho =>
        simp at ho; subst ho
        have hu5 : u 5 = V 5 := hΦ 5 (hd ⟨5, .data⟩ (by simp) (by rfl))
        rw [v5] at hu5
        clear hΦ hd
        have hx : ∃ x, u = (upd x 5 (.string (bs l))) := ⟨u, by rw [← upd_self hu5]⟩
        clear hu5
        obtain ⟨x, rfl⟩ := hx
        simp only [upd, reduceIte, Nat.reduceEqDiff]
        go_simp
        try (rw [if_pos (by omega)]; go_simp)
        exact hK _ _ v6.symm hG (fun _ _ _ h => h)
      | 7, ho =>
        simp at ho; subst ho
        have hu6 : u 6 = V 6 := hΦ 6 (hd ⟨6, .data⟩ (by simp) (by rfl))
        rw [v6] at hu6
        clear hΦ hd
        have hx : ∃ x, u = (upd x 6 (.string (bs (sub l 12 14)))) := ⟨u, by rw [← upd_self hu6]⟩
        clear hu6
        obtain ⟨x, rfl⟩ := hx
        simp only [upd, reduceIte, Nat.reduceEqDiff]
        go_simp
        refine (refOf (sub l 12 14) _ (by have := sub_le l 12 14; omega)).mono ?_
        rintro e w4 ⟨rfl, rfl⟩
        exact hK _ _ v7.symm hG (fun _ _ _ h => h)
      | 8, ho =>
        simp at ho; subst ho
        have hu7 : u 7 = V 7 := hΦ 7 (hd ⟨7, .data⟩ (by simp) (by rfl))
        rw [v7] at hu7
        clear hΦ hd
        have hx : ∃ x, u = (upd x 7 (.int .i64 (num (sub l 12 14)))) := ⟨u, by rw [← upd_self hu7]⟩
        clear hu7
        obtain ⟨x, rfl⟩ := hx
        simp only [upd, reduceIte, Nat.reduceEqDiff]
        go_simp
        exact hK _ _ v8.symm hG (fun _ _ _ h => h)
      | 9, ho =>
        simp at ho; subst ho
        clear hΦ hd
        go_simp
        exact hK _ _ v9.symm hG (fun _ _ _ h => h)
      | 10, ho =>
        simp at ho; subst ho
        have hu9 : u 9 = V 9 := hΦ 9 (hd ⟨9, .data⟩ (by simp) (by rfl))
        rw [v9] at hu9
        clear hΦ hd
        have hx : ∃ x, u = (upd x 9 (.string (bs l))) := ⟨u, by rw [← upd_self hu9]⟩
        clear hu9
        obtain ⟨x, rfl⟩ := hx
        simp only [upd, reduceIte, Nat.reduceEqDiff]
        go_simp
        try (rw [if_pos (by omega)]; go_simp)
        exact hK _ _ v10.symm hG (fun _ _ _ h => h)
      | 11, ho =>
        simp at ho; subst ho
        have hu1 : u 1 = V 1 := hΦ 1 (hd ⟨1, .data⟩ (by simp) (by rfl))
        rw [v1] at hu1
        have hu4 : u 4 = V 4 := hΦ 4 (hd ⟨4, .data⟩ (by simp) (by rfl))
        rw [v4] at hu4
        have hu8 : u 8 = V 8 := hΦ 8 (hd ⟨8, .data⟩ (by simp) (by rfl))
        rw [v8] at hu8
        have hu10 : u 10 = V 10 := hΦ 10 (hd ⟨10, .data⟩ (by simp) (by rfl))
        rw [v10] at hu10
        clear hΦ hd
        have hx : ∃ x, u = (upd (upd (upd (upd x 1 (macV (macOf l))) 4 (macV (macOf (sub l 6 l.length)))) 8 (.int .u16 (num (sub l 12 14)))) 10 (.string (bs (sub l 14 l.length)))) := ⟨u, by rw [← upd_self hu1, ← upd_self hu4, ← upd_self hu8, ← upd_self hu10]⟩
        clear hu1 hu4 hu8 hu10
        obtain ⟨x, rfl⟩ := hx
        simp only [upd, reduceIte, Nat.reduceEqDiff]
        simp only [macV]
        go_simp
        exact hK _ _ v11.symm hG (fun _ _ _ h => h)
      | 12, ho =>
        simp at ho; subst ho
        clear hΦ hd
        go_simp
        refine hK _ _ trivial ⟨hG.1.alloc _, fun _ => ⟨w3.heap.size, rfl, hG.1.size, ?_⟩, fun _ => rfl⟩ (fun j x _ h => h)
        have hL13 : L 13 = false := by
          cases h : L 13 with
          | false => rfl
          | true => exact absurd (hG.2.2 h) (by rw [hL]; simp)
        show Bk _ _ _ (if L 13 = true then _ else _)
        rw [hL13]; exact Bk.new _ _ _
      | 13, ho =>
        simp at ho; subst ho
        have hu11 : u 11 = V 11 := hΦ 11 (hd ⟨11, .data⟩ (by simp) (by rfl))
        rw [v11] at hu11
        have hL12 : L 12 = true := hd ⟨12, .data⟩ (by simp) (by rfl)
        clear hΦ hd
        have hx : ∃ x, u = (upd x 11 (.agg (ethC ⟨macOf l, macOf (sub l 6 l.length), num (sub l 12 14), sub l 14 l.length⟩))) := ⟨u, by rw [← upd_self hu11]⟩
        clear hu11
        obtain ⟨x, rfl⟩ := hx
        simp only [upd, reduceIte, Nat.reduceEqDiff]
        obtain ⟨hG1, hG2, hG3⟩ := hG
        obtain ⟨g, h1, h2, h3⟩ := hG2 hL12
        have h1' : x 12 = .pointer (some ⟨g, 0, none⟩) := h1
        clear h1 hG2
        rw [hL] at h3
        obtain ⟨y, rfl⟩ : ∃ y, x = upd y 12 (.pointer (some ⟨g, 0, none⟩)) := ⟨x, upd_self h1'⟩
        clear h1'
        simp only [upd, reduceIte, Nat.reduceEqDiff]
        refine wp_store_bk 44 (.tmp 4) (.tmp 20) rfl g _ _ (ethC ⟨macOf l, macOf (sub l 6 l.length), num (sub l 12 14), sub l 14 l.length⟩) rfl rfl h3 hsz.out hin.out hon.out ?_
        intro w9 hx9 hf9
        exact hK undef _ trivial ⟨hG1.trans' hf9 (fun b hb e => by unfold oneB at e; omega), fun _ => ⟨g, rfl, h2, hx9⟩, fun _ => hL12⟩ (fun j x _ h => h)
    · rintro u w3 hu L hall hG
      obtain ⟨hG1, hG2, hG3⟩ := hG
      obtain ⟨g, h1, h2, h3⟩ := hG2 (hall 12 (by simp))
      rw [hall 13 (by simp)] at h3
      clear hG2 hG3 hu hall
      rw [h1]
      have hv : Bk w3 g 44 (ethC ⟨macOf l, macOf (sub l 6 l.length), num (sub l 12 14), sub l 14 l.length⟩) := h3
      clear h3
      unfold ethC at hv
      have hvc := hv.cells
      replace hx0 := hx0.keep hG1 (fun x => x)
      replace hf0 := hf0.none hG1
      generalize u 0 = z0, u 1 = z1, u 2 = z2, u 3 = z3, u 4 = z4, u 5 = z5, u 6 = z6, u 7 = z7, u 8 = z8, u 9 = z9, u 10 = z10, u 11 = z11
      clear hG1 h2 hv
      have hx0l := hx0.lt
      by_cases h1 : num (sub l 12 14) < 1536
      · have h1b : (num (sub l 12 14) : Int) < 1536 := by omega
        have H1 := Lib.hid h1
        clear h1
        go_wp2_with ((refine wpList_store_bk rfl 44 (.tmp 2) (.tmp 24) rfl w.heap.size _ _ zcEth rfl rfl hx0 rfl (by kernel_rfl) (by kernel_rfl) ?_); intro w9 hx9 hf9)
        refine bodyPost_ret (results_row_tmp Try.results22 _ w9 w.heap.size _ zcEth _ _ rfl rfl hx9 Try.underlying44 rfl (by kernel_rfl)) rfl ?_
        exact ⟨by rw [hspec.out, if_pos H1.out]; rfl, hf0.trans' hf9 (fun b hb e => by unfold oneB at e; omega)⟩
      · have h1b : ¬ (num (sub l 12 14) : Int) < 1536 := by omega
        have H1 := Lib.hid h1
        clear h1
        by_cases h2 : 1500 < (sub l 14 l.length).length
        · have h2b : 1500 < ((sub l 14 l.length).length : Int) := by omega
          have H2 := Lib.hid h2
          clear h2
          go_wp2_with ((refine wpList_store_bk rfl 44 (.tmp 2) (.tmp 29) rfl w.heap.size _ _ zcEth rfl rfl hx0 rfl (by kernel_rfl) (by kernel_rfl) ?_); intro w9 hx9 hf9)
          refine bodyPost_ret (results_row_tmp Try.results22 _ w9 w.heap.size _ zcEth _ _ rfl rfl hx9 Try.underlying44 rfl (by kernel_rfl)) rfl ?_
          exact ⟨by rw [hspec.out, if_neg H1.out, if_pos H2.out]; rfl, hf0.trans' hf9 (fun b hb e => by unfold oneB at e; omega)⟩
        · have h2b : ¬ 1500 < ((sub l 14 l.length).length : Int) := by omega
          have H2 := Lib.hid h2
          clear h2
          go_wp2_with ((refine wpList_store_bk rfl 44 (.tmp 2) (.tmp 30) rfl w.heap.size _ _ (ethC ⟨macOf l, macOf (sub l 6 l.length), num (sub l 12 14), sub l 14 l.length⟩) rfl rfl hx0 hsz.out hin.out hon.out ?_); intro w9 hx9 hf9)
          refine bodyPost_ret (results_row_tmp Try.results22 _ w9 w.heap.size _ (ethC ⟨macOf l, macOf (sub l 6 l.length), num (sub l 12 14), sub l 14 l.length⟩) _ _ rfl rfl hx9 Try.underlying44 rfl hin.out) rfl ?_
          exact ⟨by rw [hspec.out, if_neg H1.out, if_neg H2.out]; rfl, hf0.trans' hf9 (fun b hb e => by unfold oneB at e; omega)⟩
attribute [-go_sem] run_eql_struct run_equalIn_agg in
set_option maxRecDepth 20000 in
set_option maxHeartbeats 1000000 in
theorem lawEtherReads (l : List UInt8) (w : World) (hl : l.length ≤ 9223372036854775807) :
    Calls Try.prog 8 #[.string (bs l)] w (fun e w' => e = .returned (.bool true) ∧ Fr noB w w') := by
  by_cases hb : 262144 < l.length
  · have hb' : (262144 : Int) < l.length := by omega
    go_enter Try.func8, Try.ntmps8
    go_wp2_with fail
    go_ret
    exact ⟨rfl, Fr.refl _ _⟩
  have hb' : ¬ (262144 : Int) < l.length := by omega
  go_enter Try.func8, Try.ntmps8
  go_wp2_with fail
  refine (bootReadEther l _ hl).mono ?_
  rintro e w1 ⟨rfl, hf1⟩
  have href : ∀ w, Calls Try.prog 22 #[.string (bs l)] w (ethPost l w) := fun w => refReadEther l w hl
  unfold ethPost at href
  rcases hr : readEther l with ⟨⟨⟨m0, m1, m2, m3, m4, m5⟩, ⟨n0, n1, n2, n3, n4, n5⟩, ty, cr⟩, k⟩
  rw [hr] at href
  have Hr := Lib.hid hr
  clear hr
  simp only [ethC] at href ⊢
  go_wp2_with fail
  have hx1 := Bk.new w1 44 #[.int .u8 (m0.toNat : Int), .int .u8 (m1.toNat : Int), .int .u8 (m2.toNat : Int), .int .u8 (m3.toNat : Int), .int .u8 (m4.toNat : Int), .int .u8 (m5.toNat : Int), .int .u8 (n0.toNat : Int), .int .u8 (n1.toNat : Int), .int .u8 (n2.toNat : Int), .int .u8 (n3.toNat : Int), .int .u8 (n4.toNat : Int), .int .u8 (n5.toNat : Int), .int .u16 (ty : Int), .string (bs cr)]
  have hf2 := hf1.alloc (.cells #[.int .u8 (m0.toNat : Int), .int .u8 (m1.toNat : Int), .int .u8 (m2.toNat : Int), .int .u8 (m3.toNat : Int), .int .u8 (m4.toNat : Int), .int .u8 (m5.toNat : Int), .int .u8 (n0.toNat : Int), .int .u8 (n1.toNat : Int), .int .u8 (n2.toNat : Int), .int .u8 (n3.toNat : Int), .int .u8 (n4.toNat : Int), .int .u8 (n5.toNat : Int), .int .u16 (ty : Int), .string (bs cr)] 44)
  generalize w1.alloc (.cells #[.int .u8 (m0.toNat : Int), .int .u8 (m1.toNat : Int), .int .u8 (m2.toNat : Int), .int .u8 (m3.toNat : Int), .int .u8 (m4.toNat : Int), .int .u8 (m5.toNat : Int), .int .u8 (n0.toNat : Int), .int .u8 (n1.toNat : Int), .int .u8 (n2.toNat : Int), .int .u8 (n3.toNat : Int), .int .u8 (n4.toNat : Int), .int .u8 (n5.toNat : Int), .int .u16 (ty : Int), .string (bs cr)] 44) = w2 at *
  generalize w1.heap.size = g at *
  refine (href w2).mono ?_
  clear href
  rintro e w3 ⟨rfl, hf3⟩
  replace hx1 := hx1.keep hf3 (fun x => x)
  replace hf3 := hf2.none hf3
  have hlt := hx1.lt
  have hc := (hx1.alloc (.cells #[.int .u8 (m0.toNat : Int), .int .u8 (m1.toNat : Int), .int .u8 (m2.toNat : Int), .int .u8 (m3.toNat : Int), .int .u8 (m4.toNat : Int), .int .u8 (m5.toNat : Int), .int .u8 (n0.toNat : Int), .int .u8 (n1.toNat : Int), .int .u8 (n2.toNat : Int), .int .u8 (n3.toNat : Int), .int .u8 (n4.toNat : Int), .int .u8 (n5.toNat : Int), .int .u16 (ty : Int), .string (bs cr)] 44)).cells
  have hE : ∀ w, (binOp .eql 44 (.agg #[.int .u8 (m0.toNat : Int), .int .u8 (m1.toNat : Int), .int .u8 (m2.toNat : Int), .int .u8 (m3.toNat : Int), .int .u8 (m4.toNat : Int), .int .u8 (m5.toNat : Int), .int .u8 (n0.toNat : Int), .int .u8 (n1.toNat : Int), .int .u8 (n2.toNat : Int), .int .u8 (n3.toNat : Int), .int .u8 (n4.toNat : Int), .int .u8 (n5.toNat : Int), .int .u16 (ty : Int), .string (bs cr)]) (.agg #[.int .u8 (m0.toNat : Int), .int .u8 (m1.toNat : Int), .int .u8 (m2.toNat : Int), .int .u8 (m3.toNat : Int), .int .u8 (m4.toNat : Int), .int .u8 (m5.toNat : Int), .int .u8 (n0.toNat : Int), .int .u8 (n1.toNat : Int), .int .u8 (n2.toNat : Int), .int .u8 (n3.toNat : Int), .int .u8 (n4.toNat : Int), .int .u8 (n5.toNat : Int), .int .u16 (ty : Int), .string (bs cr)])).run Try.prog w = .ok (.bool true) w := fun w => eql_self w (by kernel_rfl)
  have hG : Try.prog.eqGuardType Try.prog.depth 44 = false := by kernel_rfl
  go_wp2_with fail
  go_ret
  exact ⟨rfl, hf3.alloc _⟩
set_option maxRecDepth 100000 in
theorem etherReads_lifted (os : Os) (started : os.Started) (H : Type) (enc : TypeId × Value → H) :
    ReturnsInHanded {} Try.checked os 8 .any (Rows.etherReadsSpec.pre6 enc Try.prog Try.f8 Rows.etherReadsRow.domain false) (Rows.etherReadsSpec.post enc Try.prog Try.f8 false true false false) := by
  refine returnsInHanded_of_change (C := Try.checked) own started (by kernel_rfl) Try.func8
    (ChangeSpec.witness6 (enc := enc) (C := Try.checked) false ⟨#[], #[.string ByteArray.empty], []⟩ 8 (by kernel_rfl) (by kernel_rfl) (by kernel_rfl) (by kernel_rfl)) ?_
  intro W base args ds gs before hval0 hW hcnd _
  have hval : ∀ (j : Nat) t v, Try.f8.params[j]? = some t → args[j]? = some v → Value.okWide Try.prog W .any base t v := hval0
  obtain ⟨p, q, hA0, hV, _, hfz, hnd⟩ := id hW
  have hA : DataW.TrodAll enc Try.prog W 0 (fun _ => true) true Try.f8.params.toList args.toList ds p := hA0
  rw [Try.params8] at hA hval
  obtain ⟨v0, d0, rfl, rfl, h0⟩ := trodAll_one hA
  obtain ⟨rfl, rfl⟩ := trodVars_none hV
  obtain ⟨s, rfl, hd, rfl, hs⟩ := open_string Try.underlying9 (hval 0 9 v0 rfl rfl) h0
  have hl : s.data.toList.length ≤ 9223372036854775807 := by
    have h := bs_size s.data.toList
    rw [bs_of] at h
    unfold maxLen at hs; omega
  have hw := lawEtherReads s.data.toList W hl
  rw [bs_of] at hw
  refine hw.mono fun e W' ⟨he, hf⟩ => ?_
  subst he
  exact ⟨_, rfl, law_post laidOut (by intro t ht; rw [Try.params8] at ht; simp at ht; subst ht; exact ⟨by kernel_rfl, of_decide_eq_true (by kernel_rfl)⟩) rfl hW rfl rfl rfl rfl Try.underlying4 hf.belowAll⟩

theorem etherReads_holds : Rows.EtherReadsSaid :=
  OpenClaim.holds_of_wide (p := Try.pinned) (s := Rows.etherReadsSpec) (c := Rows.etherReadsRow) 8 Try.f8 rfl rfl rfl rfl rfl rfl rfl ⟨rfl, rfl, rfl, rfl, rfl⟩ rfl rfl rfl rfl rfl (by kernel_rfl) Try.func8 (by kernel_rfl)
    (of_decide_eq_true (by kernel_rfl)) (by unfold Func.isWrapper; first | (rw [if_pos (by decide +kernel)]; kernel_rfl) | (rw [if_neg (by decide +kernel)]; exact ⟨rfl, rfl⟩))
    (fun os started H enc _ => etherReads_lifted os started H enc)
end Go.Proofs.Ytcbkaiakdhiloaa
