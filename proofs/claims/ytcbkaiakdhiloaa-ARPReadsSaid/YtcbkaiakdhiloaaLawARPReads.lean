/- Proves: for every string s the law netbootlaw.ARPReads(s) returns true (and s reads afterwards as before). No condition. -/
import Derived.Test.YtcbkaiakdhiloaaReadARP
import Derived.Test.YtcbkaiakdhiloaaRow
import Derived.Test.YtcbkaiakdhiloaaEq
set_option linter.unusedSimpArgs false
set_option linter.unusedVariables false
namespace Go.Proofs.Ytcbkaiakdhiloaa
open Go.RowKit Go.Proofs Go.ChangeShapes Go.WideShapes Go.ChangeAt
open Go.WideMaps Go.WideElems
open Go.ChangeMaps (open_string shut_string)
attribute [local go_sem] bs_size bs_append bs_sub bs_toList

theorem arpC_size (x : ArpD) : (arpC x).size = zcArp.size := rfl
theorem arpC_one (x : ArpD) : (arpC x).all (·.oneCell') = true := by kernel_rfl
theorem arp_info (x : ArpD) : (Try.prog.info? 39).map (·.size) = some (arpC x).size := by rw [arpC_size]; kernel_rfl

theorem packetReadARP (l : List UInt8) (w : World) (hl : l.length ≤ 9223372036854775807) :
    Calls Try.prog 36 #[.string (bs l)] w (arpPost l w) := by
  go_enter Try.func36, Try.ntmps36
  go_wp2_with fail
  have hx0 := Bk.new w 39 zcArp
  have hf0 : Fr noB w (w.alloc (.cells zcArp 39)) := (Fr.refl _ _).alloc _
  unfold zcArp at hx0 hf0
  generalize w.alloc (.cells #[.int .u16 0, .int .u8 0, .int .u8 0, .int .u8 0, .int .u8 0, .int .u8 0, .int .u8 0, .int .u32 0, .int .u8 0, .int .u8 0, .int .u8 0, .int .u8 0, .int .u8 0, .int .u8 0, .int .u32 0] 39) = w1 at *
  refine (arpRead l _ hl).mono ?_
  rintro e w2 ⟨rfl, hf1⟩
  have hx1 := hx0.keep hf1 (fun x => x)
  have hsz := Lib.hid (arpC_size (readARP l).1)
  have hin := Lib.hid (arp_info (readARP l).1)
  have hon := Lib.hid (arpC_one (readARP l).1)
  generalize hr : readARP l = r at *
  have Hr := Lib.hid hr
  clear hr
  generalize hc : arpC r.1 = c at *
  have Hc := Lib.hid hc
  clear hc
  go_wp2_with ((refine wpList_store_bk rfl 39 (.tmp 2) (.tmp 6) rfl w.heap.size _ _ c rfl rfl hx1 hsz.out hin.out hon.out ?_); intro w9 hx9 hf9)
  refine bodyPost_ret (results_row_tmp Try.results36 _ w9 w.heap.size _ c _ _ rfl rfl hx9 Try.underlying39 rfl hin.out) rfl ?_
  exact ⟨by rw [Hr.out, Hc.out]; rfl, (hf0.none hf1).trans' hf9 (fun b hb e => by unfold oneB at e; omega)⟩

theorem bootReadARP (l : List UInt8) (w : World) (hl : l.length ≤ 9223372036854775807) :
    Calls Try.prog 19 #[.string (bs l)] w (arpPost l w) := by
  go_enter Try.func19, Try.ntmps19
  go_wp2_with fail
  have hx0 := Bk.new w 39 zcArp
  have hf0 : Fr noB w (w.alloc (.cells zcArp 39)) := (Fr.refl _ _).alloc _
  unfold zcArp at hx0 hf0
  generalize w.alloc (.cells #[.int .u16 0, .int .u8 0, .int .u8 0, .int .u8 0, .int .u8 0, .int .u8 0, .int .u8 0, .int .u32 0, .int .u8 0, .int .u8 0, .int .u8 0, .int .u8 0, .int .u8 0, .int .u8 0, .int .u32 0] 39) = w1 at *
  refine (packetReadARP l _ hl).mono ?_
  rintro e w2 ⟨rfl, hf1⟩
  have hx1 := hx0.keep hf1 (fun x => x)
  have hsz := Lib.hid (arpC_size (readARP l).1)
  have hin := Lib.hid (arp_info (readARP l).1)
  have hon := Lib.hid (arpC_one (readARP l).1)
  generalize hr : readARP l = r at *
  have Hr := Lib.hid hr
  clear hr
  generalize hc : arpC r.1 = c at *
  have Hc := Lib.hid hc
  clear hc
  go_wp2_with ((refine wpList_store_bk rfl 39 (.tmp 2) (.tmp 6) rfl w.heap.size _ _ c rfl rfl hx1 hsz.out hin.out hon.out ?_); intro w9 hx9 hf9)
  refine bodyPost_ret (results_row_tmp Try.results19 _ w9 w.heap.size _ c _ _ rfl rfl hx9 Try.underlying39 rfl hin.out) rfl ?_
  exact ⟨by rw [Hr.out, Hc.out]; rfl, (hf0.none hf1).trans' hf9 (fun b hb e => by unfold oneB at e; omega)⟩

set_option maxRecDepth 20000 in
set_option maxHeartbeats 1000000 in
theorem refReadARP (l : List UInt8) (w : World) (hl : l.length ≤ 9223372036854775807) :
    Calls Try.prog 20 #[.string (bs l)] w (arpPost l w) := by
  have hx0 := Bk.new w 39 zcArp
  have hf0 : Fr noB w (w.alloc (.cells zcArp 39)) := (Fr.refl _ _).alloc _
  unfold zcArp at hx0 hf0
  by_cases h28 : l.length < 28
  · have hs := Lib.hid (readARP_short l h28)
    go_enter Try.func20, Try.ntmps20
    go_wp2_with ((refine wpList_store_bk rfl 39 (.tmp 2) (.tmp 8) rfl w.heap.size _ _ zcArp rfl rfl hx0 rfl (by kernel_rfl) (by kernel_rfl) ?_); intro w9 hx9 hf9)
    refine bodyPost_ret (results_row_tmp Try.results20 _ w9 w.heap.size _ zcArp _ _ rfl rfl hx9 Try.underlying39 rfl (by kernel_rfl)) rfl ?_
    exact ⟨by rw [hs.out]; rfl, hf0.trans' hf9 (fun b hb e => by unfold oneB at e; omega)⟩
  · go_enter Try.func20, Try.ntmps20
    go_wp2_with fail
    generalize w.alloc (.cells #[.int .u16 0, .int .u8 0, .int .u8 0, .int .u8 0, .int .u8 0, .int .u8 0, .int .u8 0, .int .u32 0, .int .u8 0, .int .u8 0, .int .u8 0, .int .u8 0, .int .u8 0, .int .u8 0, .int .u32 0] 39) = w1 at *
    have hspec : Hid (readARP l = if sub l 0 6 = [0, 1, 8, 0, 6, 4] ∧ (num (sub l 6 8) = 1 ∨ num (sub l 6 8) = 2) then
      (⟨num (sub l 6 8), macOf (sub l 8 l.length), num (sub l 14 18), macOf (sub l 18 l.length), num (sub l 24 28)⟩, 0) else (arp0, 2)) := by
      unfold Hid readARP; rw [if_neg h28]
    have n0 : num (sub l 6 8) < 65536 := by
      have h := num_le (sub l 6 8)
      rw [sub_length l 6 8 (by omega)] at h; exact h
    refine (refOf (sub l 6 8) _ (by have := sub_le l 6 8; omega)).mono ?_
    rintro e w2 ⟨rfl, rfl⟩
    by_cases h1 : sub l 0 6 = [0, 1, 8, 0, 6, 4] ∧ (num (sub l 6 8) = 1 ∨ num (sub l 6 8) = 2)
    · obtain ⟨h1a, h1b⟩ := h1
      have e1 : (sub l 0 6 == [0, 1, 8, 0, 6, 4]) = true := by simpa using h1a
      have e2 : ¬ ((num (sub l 6 8) : Int) < 1) := by omega
      have e3 : ¬ (2 < (num (sub l 6 8) : Int)) := by omega
      have e4 : IntKind.u16.wrap (num (sub l 6 8) : Int) = num (sub l 6 8) := by rw [IntKind.wrap_u16]; omega
      have Hc : Hid (sub l 0 6 = [0, 1, 8, 0, 6, 4] ∧ (num (sub l 6 8) = 1 ∨ num (sub l 6 8) = 2)) := ⟨h1a, h1b⟩
      clear h1a h1b
      have hsz := Lib.hid (arpC_size ⟨num (sub l 6 8), macOf (sub l 8 l.length), num (sub l 14 18), macOf (sub l 18 l.length), num (sub l 24 28)⟩)
      have hin := Lib.hid (arp_info ⟨num (sub l 6 8), macOf (sub l 8 l.length), num (sub l 14 18), macOf (sub l 18 l.length), num (sub l 24 28)⟩)
      have hon := Lib.hid (arpC_one ⟨num (sub l 6 8), macOf (sub l 8 l.length), num (sub l 14 18), macOf (sub l 18 l.length), num (sub l 24 28)⟩)
      have h28' : (28 : Int) ≤ l.length := by omega
      go_wp2_with fail
      obtain ⟨V, hV⟩ : ∃ V : Nat → Value, V = (fun j => match j with | 0 => .int .i64 (num (sub l 6 8)) | 1 => .int .u16 (num (sub l 6 8)) | 2 => .string (bs l) | 3 => .string (bs (sub l 8 l.length)) | 4 => macV (macOf (sub l 8 l.length)) | 5 => .string (bs l) | 6 => .string (bs (sub l 14 18)) | 7 => .int .u32 (num (sub l 14 18)) | 8 => .string (bs l) | 9 => .string (bs (sub l 18 l.length)) | 10 => macV (macOf (sub l 18 l.length)) | 11 => .string (bs l) | 12 => .string (bs (sub l 24 28)) | 13 => .int .u32 (num (sub l 24 28)) | 14 => .agg (arpC ⟨num (sub l 6 8), macOf (sub l 8 l.length), num (sub l 14 18), macOf (sub l 18 l.length), num (sub l 24 28)⟩) | 16 => .int .i64 0 | _ => undef) := ⟨_, rfl⟩
      have v0 : V 0 = .int .i64 (num (sub l 6 8)) := congrFun hV 0
      have v1 : V 1 = .int .u16 (num (sub l 6 8)) := congrFun hV 1
      have v2 : V 2 = .string (bs l) := congrFun hV 2
      have v3 : V 3 = .string (bs (sub l 8 l.length)) := congrFun hV 3
      have v4 : V 4 = macV (macOf (sub l 8 l.length)) := congrFun hV 4
      have v5 : V 5 = .string (bs l) := congrFun hV 5
      have v6 : V 6 = .string (bs (sub l 14 18)) := congrFun hV 6
      have v7 : V 7 = .int .u32 (num (sub l 14 18)) := congrFun hV 7
      have v8 : V 8 = .string (bs l) := congrFun hV 8
      have v9 : V 9 = .string (bs (sub l 18 l.length)) := congrFun hV 9
      have v10 : V 10 = macV (macOf (sub l 18 l.length)) := congrFun hV 10
      have v11 : V 11 = .string (bs l) := congrFun hV 11
      have v12 : V 12 = .string (bs (sub l 24 28)) := congrFun hV 12
      have v13 : V 13 = .int .u32 (num (sub l 24 28)) := congrFun hV 13
      have v14 : V 14 = .agg (arpC ⟨num (sub l 6 8), macOf (sub l 8 l.length), num (sub l 14 18), macOf (sub l 18 l.length), num (sub l 24 28)⟩) := congrFun hV 14
      have v16 : V 16 = .int .i64 0 := congrFun hV 16
      clear hV
      refine wp_region_ssa (by kernel_rfl) (by kernel_rfl) (by kernel_rfl)
        (fun u => ⟨#[.string (bs l), undef, .pointer (some ⟨w.heap.size, 0, none⟩), u 16, .int .i64 (num (sub l 6 8)), .string (bs l), .int .i64 l.length, .bool (decide ((l.length : Int) < 28)), undef, .string (bs l), .string (bs (sub l 6 8)), .int .i64 (num (sub l 6 8)), .string (bs l), .string (bs (sub l 0 6)), .bool false, .bool false, .int .i64 (num (sub l 6 8)), .bool (decide ((num (sub l 6 8) : Int) < 1)), .bool (decide ((num (sub l 6 8) : Int) < 1)), .bool (decide ((num (sub l 6 8) : Int) < 1)), .int .i64 (num (sub l 6 8)), .bool (decide (2 < (num (sub l 6 8) : Int))), .bool (decide ((num (sub l 6 8) : Int) < 1) || decide (2 < (num (sub l 6 8) : Int))), undef, u 0, u 1, u 2, u 3, u 4, u 5, u 6, u 7, u 8, u 9, u 10, u 11, u 12, u 13, u 14], []⟩)
        (fun j v w3 => if j = 15 then Bk w3 w.heap.size 39 (arpC ⟨num (sub l 6 8), macOf (sub l 8 l.length), num (sub l 14 18), macOf (sub l 18 l.length), num (sub l 24 28)⟩) else v = V j)
        (fun L w3 => Fr (oneB w.heap.size) w1 w3 ∧ (L 15 = false → Bk w3 w.heap.size 39 zcArp)) (fun j => if j = 16 then .int .i64 0 else undef) ⟨(Fr.refl _ _).drew, fun _ => hx0⟩ ?_ ?_
      · rintro L u w3 i o hG hΦ ho hL hd K hK
        match i, ho with
        | 0, ho =>
          simp at ho; subst ho
          clear hΦ hd
          go_simp
          exact hK _ _ v0.symm hG (fun _ _ _ h => h)
        | 1, ho =>
          simp at ho; subst ho
          have hu0 : u 0 = V 0 := hΦ 0 (hd ⟨0, .data⟩ (by simp) (by rfl))
          rw [v0] at hu0
          clear hΦ hd
          have hx : ∃ x, u = (upd x 0 (.int .i64 (num (sub l 6 8)))) := ⟨u, by rw [← upd_self hu0]⟩
          clear hu0
          obtain ⟨x, rfl⟩ := hx
          simp only [upd, reduceIte, Nat.reduceEqDiff]
          go_simp
          exact hK _ _ v1.symm hG (fun _ _ _ h => h)
        | 2, ho =>
          simp at ho; subst ho
          clear hΦ hd
          go_simp
          exact hK _ _ v2.symm hG (fun _ _ _ h => h)
        | 3, ho =>
          simp at ho; subst ho
          have hu2 : u 2 = V 2 := hΦ 2 (hd ⟨2, .data⟩ (by simp) (by rfl))
          rw [v2] at hu2
          clear hΦ hd
          have hx : ∃ x, u = (upd x 2 (.string (bs l))) := ⟨u, by rw [← upd_self hu2]⟩
          clear hu2
          obtain ⟨x, rfl⟩ := hx
          simp only [upd, reduceIte, Nat.reduceEqDiff]
          go_simp
          try (rw [if_pos (by omega)]; go_simp)
          exact hK _ _ v3.symm hG (fun _ _ _ h => h)
        | 4, ho =>
          simp at ho; subst ho
          have hu3 : u 3 = V 3 := hΦ 3 (hd ⟨3, .data⟩ (by simp) (by rfl))
          rw [v3] at hu3
          clear hΦ hd
          have hx : ∃ x, u = (upd x 3 (.string (bs (sub l 8 l.length)))) := ⟨u, by rw [← upd_self hu3]⟩
          clear hu3
          obtain ⟨x, rfl⟩ := hx
          simp only [upd, reduceIte, Nat.reduceEqDiff]
          go_simp
          refine (refMacOf (sub l 8 l.length) _ (by rw [sub_length l 8 l.length (by omega)]; omega) (by have := sub_le l 8 l.length; omega)).mono ?_
          rintro e w4 ⟨rfl, hf4⟩
          exact hK _ _ v4.symm ⟨hG.1.none hf4, fun h => (hG.2 h).keep hf4 (fun x => x)⟩ (fun j x _ h => by
            by_cases hj : j = 15
            · simp only [hj, if_true] at h ⊢; exact h.keep hf4 (fun x => x)
            · simp only [hj, if_false] at h ⊢; exact h)
        | 5, ho =>
          simp at ho; subst ho
          clear hΦ hd
          go_simp
          exact hK _ _ v5.symm hG (fun _ _ _ h => h)
        | 6, ho =>
          simp at ho; subst ho
          have hu5 : u 5 = V 5 := hΦ 5 (hd ⟨5, .data⟩ (by simp) (by rfl))
          rw [v5] at hu5
          clear hΦ hd
          have hx : ∃ x, u = (upd x 5 (.string (bs l))) := ⟨u, by rw [← upd_self hu5]⟩
          clear hu5
          obtain ⟨x, rfl⟩ := hx
          simp only [upd, reduceIte, Nat.reduceEqDiff]
          go_simp
          try (rw [if_pos (by omega)]; go_simp)
          exact hK _ _ v6.symm hG (fun _ _ _ h => h)
        | 7, ho =>
          simp at ho; subst ho
          have hu6 : u 6 = V 6 := hΦ 6 (hd ⟨6, .data⟩ (by simp) (by rfl))
          rw [v6] at hu6
          clear hΦ hd
          have hx : ∃ x, u = (upd x 6 (.string (bs (sub l 14 18)))) := ⟨u, by rw [← upd_self hu6]⟩
          clear hu6
          obtain ⟨x, rfl⟩ := hx
          simp only [upd, reduceIte, Nat.reduceEqDiff]
          go_simp
          refine (refIpOf (sub l 14 18) _ (by have := sub_le l 14 18; omega)).mono ?_
          rintro e w4 ⟨rfl, rfl⟩
          exact hK _ _ v7.symm hG (fun _ _ _ h => h)
        | 8, ho =>
          simp at ho; subst ho
          clear hΦ hd
          go_simp
          exact hK _ _ v8.symm hG (fun _ _ _ h => h)
        | 9, ho =>
          simp at ho; subst ho
          have hu8 : u 8 = V 8 := hΦ 8 (hd ⟨8, .data⟩ (by simp) (by rfl))
          rw [v8] at hu8
          clear hΦ hd
          have hx : ∃ x, u = (upd x 8 (.string (bs l))) := ⟨u, by rw [← upd_self hu8]⟩
          clear hu8
          obtain ⟨x, rfl⟩ := hx
          simp only [upd, reduceIte, Nat.reduceEqDiff]
          go_simp
          try (rw [if_pos (by omega)]; go_simp)
          exact hK _ _ v9.symm hG (fun _ _ _ h => h)
        | 10, ho =>
          simp at ho; subst ho
          have hu9 : u 9 = V 9 := hΦ 9 (hd ⟨9, .data⟩ (by simp) (by rfl))
          rw [v9] at hu9
          clear hΦ hd
          have hx : ∃ x, u = (upd x 9 (.string (bs (sub l 18 l.length)))) := ⟨u, by rw [← upd_self hu9]⟩
          clear hu9
          obtain ⟨x, rfl⟩ := hx
          simp only [upd, reduceIte, Nat.reduceEqDiff]
          go_simp
          refine (refMacOf (sub l 18 l.length) _ (by rw [sub_length l 18 l.length (by omega)]; omega) (by have := sub_le l 18 l.length; omega)).mono ?_
          rintro e w4 ⟨rfl, hf4⟩
          exact hK _ _ v10.symm ⟨hG.1.none hf4, fun h => (hG.2 h).keep hf4 (fun x => x)⟩ (fun j x _ h => by
            by_cases hj : j = 15
            · simp only [hj, if_true] at h ⊢; exact h.keep hf4 (fun x => x)
            · simp only [hj, if_false] at h ⊢; exact h)
        | 11, ho =>
          simp at ho; subst ho
          clear hΦ hd
          go_simp
          exact hK _ _ v11.symm hG (fun _ _ _ h => h)
        | 12, ho =>
          simp at ho; subst ho
          have hu11 : u 11 = V 11 := hΦ 11 (hd ⟨11, .data⟩ (by simp) (by rfl))
          rw [v11] at hu11
          clear hΦ hd
          have hx : ∃ x, u = (upd x 11 (.string (bs l))) := ⟨u, by rw [← upd_self hu11]⟩
          clear hu11
          obtain ⟨x, rfl⟩ := hx
          simp only [upd, reduceIte, Nat.reduceEqDiff]
          go_simp
          try (rw [if_pos (by omega)]; go_simp)
          exact hK _ _ v12.symm hG (fun _ _ _ h => h)
        | 13, ho =>
          simp at ho; subst ho
          have hu12 : u 12 = V 12 := hΦ 12 (hd ⟨12, .data⟩ (by simp) (by rfl))
          rw [v12] at hu12
          clear hΦ hd
          have hx : ∃ x, u = (upd x 12 (.string (bs (sub l 24 28)))) := ⟨u, by rw [← upd_self hu12]⟩
          clear hu12
          obtain ⟨x, rfl⟩ := hx
          simp only [upd, reduceIte, Nat.reduceEqDiff]
          go_simp
          refine (refIpOf (sub l 24 28) _ (by have := sub_le l 24 28; omega)).mono ?_
          rintro e w4 ⟨rfl, rfl⟩
          exact hK _ _ v13.symm hG (fun _ _ _ h => h)
        | 14, ho =>
          simp at ho; subst ho
          have hu1 : u 1 = V 1 := hΦ 1 (hd ⟨1, .data⟩ (by simp) (by rfl))
          rw [v1] at hu1
          have hu4 : u 4 = V 4 := hΦ 4 (hd ⟨4, .data⟩ (by simp) (by rfl))
          rw [v4] at hu4
          have hu7 : u 7 = V 7 := hΦ 7 (hd ⟨7, .data⟩ (by simp) (by rfl))
          rw [v7] at hu7
          have hu10 : u 10 = V 10 := hΦ 10 (hd ⟨10, .data⟩ (by simp) (by rfl))
          rw [v10] at hu10
          have hu13 : u 13 = V 13 := hΦ 13 (hd ⟨13, .data⟩ (by simp) (by rfl))
          rw [v13] at hu13
          clear hΦ hd
          have hx : ∃ x, u = (upd (upd (upd (upd (upd x 1 (.int .u16 (num (sub l 6 8)))) 4 (macV (macOf (sub l 8 l.length)))) 7 (.int .u32 (num (sub l 14 18)))) 10 (macV (macOf (sub l 18 l.length)))) 13 (.int .u32 (num (sub l 24 28)))) := ⟨u, by rw [← upd_self hu1, ← upd_self hu4, ← upd_self hu7, ← upd_self hu10, ← upd_self hu13]⟩
          clear hu1 hu4 hu7 hu10 hu13
          obtain ⟨x, rfl⟩ := hx
          simp only [upd, reduceIte, Nat.reduceEqDiff]
          simp only [macV]
          go_simp
          exact hK _ _ v14.symm hG (fun _ _ _ h => h)
        | 15, ho =>
          simp at ho; subst ho
          have hu14 : u 14 = V 14 := hΦ 14 (hd ⟨14, .data⟩ (by simp) (by rfl))
          rw [v14] at hu14
          clear hΦ hd
          have hx : ∃ x, u = (upd x 14 (.agg (arpC ⟨num (sub l 6 8), macOf (sub l 8 l.length), num (sub l 14 18), macOf (sub l 18 l.length), num (sub l 24 28)⟩))) := ⟨u, by rw [← upd_self hu14]⟩
          clear hu14
          obtain ⟨x, rfl⟩ := hx
          simp only [upd, reduceIte, Nat.reduceEqDiff]
          refine wp_store_bk 39 (.tmp 2) (.tmp 38) rfl w.heap.size _ _ (arpC ⟨num (sub l 6 8), macOf (sub l 8 l.length), num (sub l 14 18), macOf (sub l 18 l.length), num (sub l 24 28)⟩) rfl rfl (hG.2 hL) hsz.out hin.out hon.out ?_
          intro w9 hx9 hf9
          exact hK undef _ hx9 ⟨hG.1.trans hf9, fun h => by cases h⟩ (fun j x hj h => by
            by_cases hj : j = 15
            · subst hj; rw [hL] at *; contradiction
            · simp only [hj, if_false] at h ⊢; exact h)
        | 16, ho =>
          simp at ho; subst ho
          clear hΦ hd
          go_simp
          exact hK _ _ v16.symm hG (fun _ _ _ h => h)
      · rintro u w3 hu L hall hG
        have hx9 := hu 15 (by simp)
        have h16 : u 16 = V 16 := hu 16 (by simp)
        simp only [reduceIte] at hx9
        rw [v16] at h16
        clear hu
        rw [h16]
        go_wp2_with fail
        refine bodyPost_ret (results_row_tmp Try.results20 _ w3 w.heap.size _ _ _ _ rfl rfl hx9 Try.underlying39 rfl hin.out) rfl ?_
        exact ⟨by rw [hspec.out, if_pos Hc.out]; rfl, hf0.trans' hG.1 (fun b hb e => by unfold oneB at e; omega)⟩
    · have Hn : Hid (¬ (sub l 0 6 = [0, 1, 8, 0, 6, 4] ∧ (num (sub l 6 8) = 1 ∨ num (sub l 6 8) = 2))) := h1
      rcases hq : (sub l 0 6 == [0, 1, 8, 0, 6, 4]) with _ | _
      · clear h1
        go_wp2_with ((refine wpList_store_bk rfl 39 (.tmp 2) (.tmp 23) rfl w.heap.size _ _ zcArp rfl rfl hx0 rfl (by kernel_rfl) (by kernel_rfl) ?_); intro w9 hx9 hf9)
        refine bodyPost_ret (results_row_tmp Try.results20 _ w9 w.heap.size _ zcArp _ _ rfl rfl hx9 Try.underlying39 rfl (by kernel_rfl)) rfl ?_
        exact ⟨by rw [hspec.out, if_neg Hn.out]; rfl, hf0.trans' hf9 (fun b hb e => by unfold oneB at e; omega)⟩
      · have h1b : ¬ (num (sub l 6 8) = 1 ∨ num (sub l 6 8) = 2) := fun h => h1 ⟨by simpa using hq, h⟩
        clear h1
        by_cases e2 : (num (sub l 6 8) : Int) < 1
        · clear h1b
          go_wp2_with ((refine wpList_store_bk rfl 39 (.tmp 2) (.tmp 23) rfl w.heap.size _ _ zcArp rfl rfl hx0 rfl (by kernel_rfl) (by kernel_rfl) ?_); intro w9 hx9 hf9)
          refine bodyPost_ret (results_row_tmp Try.results20 _ w9 w.heap.size _ zcArp _ _ rfl rfl hx9 Try.underlying39 rfl (by kernel_rfl)) rfl ?_
          exact ⟨by rw [hspec.out, if_neg Hn.out]; rfl, hf0.trans' hf9 (fun b hb e => by unfold oneB at e; omega)⟩
        · have e3 : 2 < (num (sub l 6 8) : Int) := by omega
          clear h1b
          go_wp2_with ((refine wpList_store_bk rfl 39 (.tmp 2) (.tmp 23) rfl w.heap.size _ _ zcArp rfl rfl hx0 rfl (by kernel_rfl) (by kernel_rfl) ?_); intro w9 hx9 hf9)
          refine bodyPost_ret (results_row_tmp Try.results20 _ w9 w.heap.size _ zcArp _ _ rfl rfl hx9 Try.underlying39 rfl (by kernel_rfl)) rfl ?_
          exact ⟨by rw [hspec.out, if_neg Hn.out]; rfl, hf0.trans' hf9 (fun b hb e => by unfold oneB at e; omega)⟩

attribute [-go_sem] run_eql_struct run_equalIn_agg in
set_option maxRecDepth 20000 in
set_option maxHeartbeats 1000000 in
theorem lawARPReads (l : List UInt8) (w : World) (hl : l.length ≤ 9223372036854775807) :
    Calls Try.prog 7 #[.string (bs l)] w (fun e w' => e = .returned (.bool true) ∧ Fr noB w w') := by
  go_enter Try.func7, Try.ntmps7
  go_wp2_with fail
  refine (bootReadARP l _ hl).mono ?_
  rintro e w1 ⟨rfl, hf1⟩
  have href : ∀ w, Calls Try.prog 20 #[.string (bs l)] w (arpPost l w) := fun w => refReadARP l w hl
  unfold arpPost at href
  rcases hr : readARP l with ⟨⟨op, ⟨m0, m1, m2, m3, m4, m5⟩, fi, ⟨n0, n1, n2, n3, n4, n5⟩, ti⟩, k⟩
  rw [hr] at href
  have Hr := Lib.hid hr
  clear hr
  simp only [arpC] at href ⊢
  go_wp2_with fail
  have hx1 := Bk.new w1 39 #[.int .u16 (op : Int), .int .u8 (m0.toNat : Int), .int .u8 (m1.toNat : Int), .int .u8 (m2.toNat : Int), .int .u8 (m3.toNat : Int), .int .u8 (m4.toNat : Int), .int .u8 (m5.toNat : Int), .int .u32 (fi : Int), .int .u8 (n0.toNat : Int), .int .u8 (n1.toNat : Int), .int .u8 (n2.toNat : Int), .int .u8 (n3.toNat : Int), .int .u8 (n4.toNat : Int), .int .u8 (n5.toNat : Int), .int .u32 (ti : Int)]
  have hf2 := hf1.alloc (.cells #[.int .u16 (op : Int), .int .u8 (m0.toNat : Int), .int .u8 (m1.toNat : Int), .int .u8 (m2.toNat : Int), .int .u8 (m3.toNat : Int), .int .u8 (m4.toNat : Int), .int .u8 (m5.toNat : Int), .int .u32 (fi : Int), .int .u8 (n0.toNat : Int), .int .u8 (n1.toNat : Int), .int .u8 (n2.toNat : Int), .int .u8 (n3.toNat : Int), .int .u8 (n4.toNat : Int), .int .u8 (n5.toNat : Int), .int .u32 (ti : Int)] 39)
  generalize w1.alloc (.cells #[.int .u16 (op : Int), .int .u8 (m0.toNat : Int), .int .u8 (m1.toNat : Int), .int .u8 (m2.toNat : Int), .int .u8 (m3.toNat : Int), .int .u8 (m4.toNat : Int), .int .u8 (m5.toNat : Int), .int .u32 (fi : Int), .int .u8 (n0.toNat : Int), .int .u8 (n1.toNat : Int), .int .u8 (n2.toNat : Int), .int .u8 (n3.toNat : Int), .int .u8 (n4.toNat : Int), .int .u8 (n5.toNat : Int), .int .u32 (ti : Int)] 39) = w2 at *
  generalize w1.heap.size = g at *
  refine (href w2).mono ?_
  clear href
  rintro e w3 ⟨rfl, hf3⟩
  replace hx1 := hx1.keep hf3 (fun x => x)
  replace hf3 := hf2.none hf3
  have hlt := hx1.lt
  have hc := (hx1.alloc (.cells #[.int .u16 (op : Int), .int .u8 (m0.toNat : Int), .int .u8 (m1.toNat : Int), .int .u8 (m2.toNat : Int), .int .u8 (m3.toNat : Int), .int .u8 (m4.toNat : Int), .int .u8 (m5.toNat : Int), .int .u32 (fi : Int), .int .u8 (n0.toNat : Int), .int .u8 (n1.toNat : Int), .int .u8 (n2.toNat : Int), .int .u8 (n3.toNat : Int), .int .u8 (n4.toNat : Int), .int .u8 (n5.toNat : Int), .int .u32 (ti : Int)] 39)).cells
  have hE : ∀ w, (binOp .eql 39 (.agg #[.int .u16 (op : Int), .int .u8 (m0.toNat : Int), .int .u8 (m1.toNat : Int), .int .u8 (m2.toNat : Int), .int .u8 (m3.toNat : Int), .int .u8 (m4.toNat : Int), .int .u8 (m5.toNat : Int), .int .u32 (fi : Int), .int .u8 (n0.toNat : Int), .int .u8 (n1.toNat : Int), .int .u8 (n2.toNat : Int), .int .u8 (n3.toNat : Int), .int .u8 (n4.toNat : Int), .int .u8 (n5.toNat : Int), .int .u32 (ti : Int)]) (.agg #[.int .u16 (op : Int), .int .u8 (m0.toNat : Int), .int .u8 (m1.toNat : Int), .int .u8 (m2.toNat : Int), .int .u8 (m3.toNat : Int), .int .u8 (m4.toNat : Int), .int .u8 (m5.toNat : Int), .int .u32 (fi : Int), .int .u8 (n0.toNat : Int), .int .u8 (n1.toNat : Int), .int .u8 (n2.toNat : Int), .int .u8 (n3.toNat : Int), .int .u8 (n4.toNat : Int), .int .u8 (n5.toNat : Int), .int .u32 (ti : Int)])).run Try.prog w = .ok (.bool true) w := fun w => eql_self w (by kernel_rfl)
  have hG : Try.prog.eqGuardType Try.prog.depth 39 = false := by kernel_rfl
  go_wp2_with fail
  go_ret
  exact ⟨rfl, hf3.alloc _⟩
set_option maxRecDepth 100000 in
theorem aRPReads_lifted (os : Os) (started : os.Started) (H : Type) (enc : TypeId × Value → H) :
    ReturnsInHanded {} Try.checked os 7 .any (Rows.aRPReadsSpec.pre6 enc Try.prog Try.f7 Rows.aRPReadsRow.domain false) (Rows.aRPReadsSpec.post enc Try.prog Try.f7 false true false false) := by
  refine returnsInHanded_of_change (C := Try.checked) own started (by kernel_rfl) Try.func7
    (ChangeSpec.witness6 (enc := enc) (C := Try.checked) false ⟨#[], #[.string ByteArray.empty], []⟩ 8 (by kernel_rfl) (by kernel_rfl) (by kernel_rfl) (by kernel_rfl)) ?_
  intro W base args ds gs before hval0 hW hcnd _
  have hval : ∀ (j : Nat) t v, Try.f7.params[j]? = some t → args[j]? = some v → Value.okWide Try.prog W .any base t v := hval0
  obtain ⟨p, q, hA0, hV, _, hfz, hnd⟩ := id hW
  have hA : DataW.TrodAll enc Try.prog W 0 (fun _ => true) true Try.f7.params.toList args.toList ds p := hA0
  rw [Try.params7] at hA hval
  obtain ⟨v0, d0, rfl, rfl, h0⟩ := trodAll_one hA
  obtain ⟨rfl, rfl⟩ := trodVars_none hV
  obtain ⟨s, rfl, hd, rfl, hs⟩ := open_string Try.underlying9 (hval 0 9 v0 rfl rfl) h0
  have hl : s.data.toList.length ≤ 9223372036854775807 := by
    have h := bs_size s.data.toList
    rw [bs_of] at h
    unfold maxLen at hs; omega
  have hw := lawARPReads s.data.toList W hl
  rw [bs_of] at hw
  refine hw.mono fun e W' ⟨he, hf⟩ => ?_
  subst he
  exact ⟨_, rfl, law_post laidOut (by intro t ht; rw [Try.params7] at ht; simp at ht; subst ht; exact ⟨by kernel_rfl, of_decide_eq_true (by kernel_rfl)⟩) rfl hW rfl rfl rfl rfl Try.underlying4 hf.belowAll⟩

theorem aRPReads_holds : Rows.ARPReadsSaid :=
  OpenClaim.holds_of_wide (p := Try.pinned) (s := Rows.aRPReadsSpec) (c := Rows.aRPReadsRow) 7 Try.f7 rfl rfl rfl rfl rfl rfl rfl ⟨rfl, rfl, rfl, rfl, rfl⟩ rfl rfl rfl rfl rfl (by kernel_rfl) Try.func7 (by kernel_rfl)
    (of_decide_eq_true (by kernel_rfl)) (by unfold Func.isWrapper; first | (rw [if_pos (by decide +kernel)]; kernel_rfl) | (rw [if_neg (by decide +kernel)]; exact ⟨rfl, rfl⟩))
    (fun os started H enc _ => aRPReads_lifted os started H enc)
end Go.Proofs.Ytcbkaiakdhiloaa
