/- Parts of the walk; written by programs, merged. -/
import Derived.Test.YtcbkaiakdhiloabGreatDoorRau
set_option linter.unusedSimpArgs false
set_option linter.unusedVariables false
set_option maxRecDepth 20000
set_option maxHeartbeats 8000000
namespace Go.Proofs.YtcbkaiakdhiloabGreatDoor
open Go.RowKit Go.Proofs
attribute [local go_sem] bs_size bs_append bs_sub bs_toList
theorem macOf_sub (l : List UInt8) (h : 34 ≤ l.length) : macOf (sub l 28 l.length) = macOf (l.drop 28) := by rw [sub_rest]
theorem wrap_u32_num (x : Nat) (h : x < 4294967296) : IntKind.u32.wrap (x : Int) = (x : Int) := by exact IntWalk.u32_in _ ⟨by omega, by omega⟩
theorem refReadDHCP (l : List UInt8) (w : World) (hl : l.length ≤ 1099511000000) :
    Calls Tryz.prog 185 #[.string (bs l)] w (dhcPost l w) := by
  have hx0 := Bk.new w 75 #[.bool false, .int .u32 0, .int .u32 0, .int .u32 0, .int .u32 0, .int .u8 0, .int .u8 0, .int .u8 0, .int .u8 0, .int .u8 0, .int .u8 0, .slice none 0 0]
  have hf0 : Fr noB w (w.alloc (.cells #[.bool false, .int .u32 0, .int .u32 0, .int .u32 0, .int .u32 0, .int .u8 0, .int .u8 0, .int .u8 0, .int .u8 0, .int .u8 0, .int .u8 0, .slice none 0 0] 75)) := (Fr.refl _ _).alloc _
  have hsz : (w.alloc (.cells #[.bool false, .int .u32 0, .int .u32 0, .int .u32 0, .int .u32 0, .int .u8 0, .int .u8 0, .int .u8 0, .int .u8 0, .int .u8 0, .int .u8 0, .slice none 0 0] 75)).heap.size = w.heap.size + 1 := by simp
  have Hsz := Lib.hid hsz
  clear hsz
  go_enter Tryz.func185, Tryz.ntmps185
  by_cases h240 : l.length < 240
  · have h240i : (l.length : Int) < 240 := by omega
    have H240 := Lib.hid h240
    clear h240
    have hspec : Hid (readDHCP l = (dhc0, 1)) := Lib.hid (by unfold readDHCP; rw [if_pos H240.out])
    go_wp2_with ((refine wpList_store_bk rfl 75 (.tmp 2) (.tmp 17) rfl w.heap.size _ _ #[.bool false, .int .u32 0, .int .u32 0, .int .u32 0, .int .u32 0, .int .u8 0, .int .u8 0, .int .u8 0, .int .u8 0, .int .u8 0, .int .u8 0, .slice none 0 0] rfl rfl hx0 rfl (by kernel_rfl) (by kernel_rfl) ?_); intro w9 hx9 hf9)
    refine bodyPost_ret (results_row_tmp Tryz.results185 _ w9 w.heap.size _ _ _ _ rfl rfl hx9 Tryz.underlying75 rfl (by kernel_rfl)) rfl ?_
    refine ⟨⟨none, 0, by rw [hspec.out]; rfl, by rw [hspec.out]; exact SlR.nil⟩, hf0.trans' hf9 (fun b hb e => by unfold oneB at e; omega)⟩
  have h240i : ¬ (l.length : Int) < 240 := by omega
  obtain ⟨c0, hc0, hn0⟩ := sub_one l 0 (by omega)
  rw [Nat.zero_add] at hn0 hc0
  have hg0 : ∀ h : 0 < (bs l).size, (bs l)[0]'h = c0 := fun h => by
    rw [bs_get l 0 h]
    have h1 := hc0
    rw [← take_drop_sub l 0 1, List.drop_zero] at h1
    cases l with
    | nil => simp at h1
    | cons a r => simpa using h1
  go_upto_region 3 with fail
  generalize w.alloc (.cells #[.bool false, .int .u32 0, .int .u32 0, .int .u32 0, .int .u32 0, .int .u8 0, .int .u8 0, .int .u8 0, .int .u8 0, .int .u8 0, .int .u8 0, .slice none 0 0] 75) = w1 at *
  have Hc0 := Lib.hid hc0
  clear hc0 hn0
  have hbad : ¬ ((sub l 0 1 = [1] ∨ sub l 0 1 = [2]) ∧ sub l 1 3 = [1, 6] ∧ sub l 236 240 = [99, 130, 83, 99]) → readDHCP l = (dhc0, 2) := by
    intro hno; unfold readDHCP; rw [if_neg (by omega), if_pos hno]
  have Hbad := Lib.hid hbad
  clear hbad
  have h240' : 240 ≤ l.length := by omega
  go_cut [35] from 14 (fun s35 wx => ∃ b, s35 = .bool b ∧ (b = false → (c0 = 1 ∨ c0 = 2) ∧ sub l 1 3 = [1, 6] ∧ sub l 236 240 = [99, 130, 83, 99]) ∧ (b = true → readDHCP l = (dhc0, 2)) ∧ wx = w1)
  case first =>
    have hkind : c0 = 1 ∨ c0 = 2 ∨ (c0 ≠ 1 ∧ c0 ≠ 2) := by by_cases h1 : c0 = 1; exact .inl h1; by_cases h2 : c0 = 2; exact .inr (.inl h2); exact .inr (.inr ⟨h1, h2⟩)
    rcases hkind with rfl | rfl | ⟨h1, h2⟩
    · by_cases hk : sub l 1 3 = [1, 6]
      rotate_left
      · have hkb : (sub l 1 3 == [1, 6]) = false := by simpa using hk
        have Hno : Hid (readDHCP l = (dhc0, 2)) := Lib.hid (Hbad.out (by rintro ⟨_, h, _⟩; exact hk h))
        clear hk Hbad
        go_wp2_with fail
        go_meet
        case rel => exact ⟨true, rfl, (fun h => by cases h), (fun _ => Hno.out), rfl⟩
      by_cases hck : sub l 236 240 = [99, 130, 83, 99]
      rotate_left
      · have hkb : (sub l 1 3 == [1, 6]) = true := by simpa using hk
        have hckb : (sub l 236 240 == [99, 130, 83, 99]) = false := by simpa using hck
        have Hno : Hid (readDHCP l = (dhc0, 2)) := Lib.hid (Hbad.out (by rintro ⟨_, _, h⟩; exact hck h))
        clear hk hck Hbad
        go_wp2_with fail
        go_meet
        case rel => exact ⟨true, rfl, (fun h => by cases h), (fun _ => Hno.out), rfl⟩
      have hkb : (sub l 1 3 == [1, 6]) = true := by simpa using hk
      have hckb : (sub l 236 240 == [99, 130, 83, 99]) = true := by simpa using hck
      have Hk := Lib.hid hk
      have Hck := Lib.hid hck
      clear hk hck
      go_wp2_with fail
      go_meet
      case rel => exact ⟨false, rfl, (fun _ => ⟨by simp, Hk.out, Hck.out⟩), (fun h => by cases h), rfl⟩
    · by_cases hk : sub l 1 3 = [1, 6]
      rotate_left
      · have hkb : (sub l 1 3 == [1, 6]) = false := by simpa using hk
        have Hno : Hid (readDHCP l = (dhc0, 2)) := Lib.hid (Hbad.out (by rintro ⟨_, h, _⟩; exact hk h))
        clear hk Hbad
        go_wp2_with fail
        go_meet
        case rel => exact ⟨true, rfl, (fun h => by cases h), (fun _ => Hno.out), rfl⟩
      by_cases hck : sub l 236 240 = [99, 130, 83, 99]
      rotate_left
      · have hkb : (sub l 1 3 == [1, 6]) = true := by simpa using hk
        have hckb : (sub l 236 240 == [99, 130, 83, 99]) = false := by simpa using hck
        have Hno : Hid (readDHCP l = (dhc0, 2)) := Lib.hid (Hbad.out (by rintro ⟨_, _, h⟩; exact hck h))
        clear hk hck Hbad
        go_wp2_with fail
        go_meet
        case rel => exact ⟨true, rfl, (fun h => by cases h), (fun _ => Hno.out), rfl⟩
      have hkb : (sub l 1 3 == [1, 6]) = true := by simpa using hk
      have hckb : (sub l 236 240 == [99, 130, 83, 99]) = true := by simpa using hck
      have Hk := Lib.hid hk
      have Hck := Lib.hid hck
      clear hk hck
      go_wp2_with fail
      go_meet
      case rel => exact ⟨false, rfl, (fun _ => ⟨by simp, Hk.out, Hck.out⟩), (fun h => by cases h), rfl⟩
    · have Hno : Hid (readDHCP l = (dhc0, 2)) := Lib.hid (Hbad.out (by
        rintro ⟨h, _⟩
        rw [Hc0.out] at h
        rcases h with h | h
        · injection h with h; exact h1 h
        · injection h with h; exact h2 h))
      have n1 : ((c0.toNat : Int) != 1) = true := by have := u8_ne h1; simpa using this
      have n2 : ((c0.toNat : Int) != 2) = true := by have := u8_ne h2; simpa using this
      clear h1 h2 Hbad
      go_wp2_with fail
      go_meet
      case rel => exact ⟨true, rfl, (fun h => by cases h), (fun _ => Hno.out), rfl⟩
  case rest =>
  obtain ⟨b0, h35, hgood, hbad, hwc⟩ := hcut
  have hwc2 := hwc.symm
  clear hwc
  subst hwc2
  cases b0 with
  | true =>
    have Hno := Lib.hid (hbad rfl)
    clear hgood hbad Hbad
    go_wp2_with ((refine wpList_store_bk rfl 75 (.tmp 2) (.tmp 36) rfl w.heap.size _ _ #[.bool false, .int .u32 0, .int .u32 0, .int .u32 0, .int .u32 0, .int .u8 0, .int .u8 0, .int .u8 0, .int .u8 0, .int .u8 0, .int .u8 0, .slice none 0 0] rfl rfl hx0 rfl (by kernel_rfl) (by kernel_rfl) ?_); intro w9 hx9 hf9)
    refine bodyPost_ret (results_row_tmp Tryz.results185 _ w9 w.heap.size _ _ _ _ rfl rfl hx9 Tryz.underlying75 rfl (by kernel_rfl)) rfl ?_
    exact ⟨⟨none, 0, by rw [Hno.out]; rfl, by rw [Hno.out]; exact SlR.nil⟩, hf0.trans' hf9 (fun b hb e => by unfold oneB at e; omega)⟩
  | false =>
  obtain ⟨hcc, hck1, hck2⟩ := hgood rfl
  clear hbad Hbad hgood
  have Hcc := Lib.hid hcc
  have Hck1 := Lib.hid hck1
  have Hck2 := Lib.hid hck2
  clear hcc hck1 hck2
  subst h35
  go_upto_region 5 with fail
  obtain ⟨b, hb⟩ : ∃ b, ((c0.toNat : Int) == 2) = b := ⟨_, rfl⟩
  obtain ⟨x, hxx⟩ : ∃ x, num (sub l 4 8) = x := ⟨_, rfl⟩
  obtain ⟨x1, hx1⟩ : ∃ x, num (sub l 12 16) = x := ⟨_, rfl⟩
  obtain ⟨x2, hx2⟩ : ∃ x, num (sub l 16 20) = x := ⟨_, rfl⟩
  obtain ⟨x3, hx3⟩ : ∃ x, num (sub l 20 24) = x := ⟨_, rfl⟩
  obtain ⟨mm, hmm⟩ : ∃ x, macOf (sub l 28 l.length) = x := ⟨_, rfl⟩
  have hxw : IntKind.u32.wrap (x : Int) = (x : Int) := wrap_u32_num x (by
    have h := num_le (sub l 4 8)
    have h2 := sub_le l 4 8
    have h3 : 256 ^ (sub l 4 8).length ≤ 256 ^ 4 := Nat.pow_le_pow_right (by omega) h2
    omega)
  have Hb := Lib.hid hb
  have Hx := Lib.hid hxx
  have Hx1 := Lib.hid hx1
  have Hx2 := Lib.hid hx2
  have Hx3 := Lib.hid hx3
  have Hmm := Lib.hid hmm
  have Hxw := Lib.hid hxw
  clear hb hxx hx1 hx2 hx3 hmm hxw
  go_cut [4] from 14 (fun s4 wx => ∃ g, s4 = .pointer (some ⟨g, 0, none⟩) ∧ w1.heap.size ≤ g ∧ Bk wx g 75 #[.bool b, .int .u32 (x : Int), .int .u32 (x1 : Int), .int .u32 (x2 : Int), .int .u32 (x3 : Int), .int .u8 (mm.1.toNat : Int), .int .u8 (mm.2.1.toNat : Int), .int .u8 (mm.2.2.1.toNat : Int), .int .u8 (mm.2.2.2.1.toNat : Int), .int .u8 (mm.2.2.2.2.1.toNat : Int), .int .u8 (mm.2.2.2.2.2.toNat : Int), .slice none 0 0] ∧ Fr noB w1 wx)
  case first =>
    rename_i J K' hJ hK'
    obtain ⟨V, hV⟩ : ∃ V : Nat → Value, V = (fun j => match j with | 0 => .string (bs l) | 1 => .int .u8 (c0.toNat : Int) | 2 => .bool b | 3 => .string (bs l) | 4 => .string (bs (sub l 4 8)) | 5 => .int .i64 (x : Int) | 6 => .int .u32 (x : Int) | 7 => .string (bs l) | 8 => .string (bs (sub l 12 16)) | 9 => .int .u32 (x1 : Int) | 10 => .string (bs l) | 11 => .string (bs (sub l 16 20)) | 12 => .int .u32 (x2 : Int) | 13 => .string (bs l) | 14 => .string (bs (sub l 20 24)) | 15 => .int .u32 (x3 : Int) | 16 => .string (bs l) | 17 => .string (bs (sub l 28 l.length)) | 18 => macV mm | 19 => .agg #[.bool b, .int .u32 (x : Int), .int .u32 (x1 : Int), .int .u32 (x2 : Int), .int .u32 (x3 : Int), .int .u8 (mm.1.toNat : Int), .int .u8 (mm.2.1.toNat : Int), .int .u8 (mm.2.2.1.toNat : Int), .int .u8 (mm.2.2.2.1.toNat : Int), .int .u8 (mm.2.2.2.2.1.toNat : Int), .int .u8 (mm.2.2.2.2.2.toNat : Int), .slice none 0 0] | _ => undef) := ⟨_, rfl⟩
    have v0 : V 0 = .string (bs l) := congrFun hV 0
    have v1 : V 1 = .int .u8 (c0.toNat : Int) := congrFun hV 1
    have v2 : V 2 = .bool b := congrFun hV 2
    have v3 : V 3 = .string (bs l) := congrFun hV 3
    have v4 : V 4 = .string (bs (sub l 4 8)) := congrFun hV 4
    have v5 : V 5 = .int .i64 (x : Int) := congrFun hV 5
    have v6 : V 6 = .int .u32 (x : Int) := congrFun hV 6
    have v7 : V 7 = .string (bs l) := congrFun hV 7
    have v8 : V 8 = .string (bs (sub l 12 16)) := congrFun hV 8
    have v9 : V 9 = .int .u32 (x1 : Int) := congrFun hV 9
    have v10 : V 10 = .string (bs l) := congrFun hV 10
    have v11 : V 11 = .string (bs (sub l 16 20)) := congrFun hV 11
    have v12 : V 12 = .int .u32 (x2 : Int) := congrFun hV 12
    have v13 : V 13 = .string (bs l) := congrFun hV 13
    have v14 : V 14 = .string (bs (sub l 20 24)) := congrFun hV 14
    have v15 : V 15 = .int .u32 (x3 : Int) := congrFun hV 15
    have v16 : V 16 = .string (bs l) := congrFun hV 16
    have v17 : V 17 = .string (bs (sub l 28 l.length)) := congrFun hV 17
    have v18 : V 18 = macV mm := congrFun hV 18
    have v19 : V 19 = .agg #[.bool b, .int .u32 (x : Int), .int .u32 (x1 : Int), .int .u32 (x2 : Int), .int .u32 (x3 : Int), .int .u8 (mm.1.toNat : Int), .int .u8 (mm.2.1.toNat : Int), .int .u8 (mm.2.2.1.toNat : Int), .int .u8 (mm.2.2.2.1.toNat : Int), .int .u8 (mm.2.2.2.2.1.toNat : Int), .int .u8 (mm.2.2.2.2.2.toNat : Int), .slice none 0 0] := congrFun hV 19
    clear hV
    refine wp_region_ssau (by kernel_rfl) (by kernel_rfl) (by kernel_rfl)
      (fun u => ⟨List.toArray ((.string (bs l)) :: (undef) :: (.pointer (some ⟨w.heap.size, 0, none⟩)) :: (.int .i64 0) :: (u 20) :: (undef) :: (undef) :: (undef) :: (undef) :: (undef) :: (undef) :: (undef) :: (undef) :: (undef) :: (u14) :: (u15) :: (u16) :: (u17) :: (u18) :: (u19) :: (u20) :: (u21) :: (u22) :: (u23) :: (u24) :: (u25) :: (u26) :: (u27) :: (u28) :: (u29) :: (u30) :: (u31) :: (u32) :: (u33) :: (u34) :: (.bool false) :: (u36) :: (u 0) :: (u 1) :: (u 2) :: (u 3) :: (u 4) :: (u 5) :: (u 6) :: (u 7) :: (u 8) :: (u 9) :: (u 10) :: (u 11) :: (u 12) :: (u 13) :: (u 14) :: (u 15) :: (u 16) :: (u 17) :: (u 18) :: (u 19) :: (u57) :: (u58) :: (u59) :: (u60) :: (u61) :: (u62) :: (u63) :: (u64) :: (u65) :: (u66) :: (u67) :: (u68) :: (u69) :: (u70) :: (u71) :: (u72) :: (u73) :: (u74) :: (u75) :: (u76) :: (u77) :: (u78) :: (u79) :: (u80) :: (u81) :: (u82) :: (u83) :: (u84) :: (u85) :: (u86) :: (u87) :: (u88) :: (u89) :: (u90) :: (u91) :: (u92) :: (u93) :: (u94) :: (u95) :: (u96) :: (u97) :: (u98) :: (u99) :: (u100) :: (u101) :: (u102) :: (u103) :: (u104) :: (u105) :: (u106) :: (u107) :: (u108) :: (u109) :: (u110) :: (u111) :: (u112) :: (u113) :: (u114) :: (u115) :: (u116) :: (u117) :: (u118) :: (u119) :: (u120) :: (u121) :: (u122) :: (u123) :: (u124) :: (u125) :: (u126) :: (u127) :: (u128) :: (u129) :: (u130) :: (u131) :: (u132) :: (u133) :: (u134) :: (u135) :: (u136) :: (u137) :: (u138) :: (u139) :: (u140) :: []), []⟩)
      (fun j v w3 => if j = 20 then True else if j = 21 then True else v = V j)
      (fun L u w3 => Fr noB w1 w3 ∧ (L 20 = true → ∃ g, u 20 = .pointer (some ⟨g, 0, none⟩) ∧ w1.heap.size ≤ g ∧ Bk w3 g 75 (if L 21 = true then #[.bool b, .int .u32 (x : Int), .int .u32 (x1 : Int), .int .u32 (x2 : Int), .int .u32 (x3 : Int), .int .u8 (mm.1.toNat : Int), .int .u8 (mm.2.1.toNat : Int), .int .u8 (mm.2.2.1.toNat : Int), .int .u8 (mm.2.2.2.1.toNat : Int), .int .u8 (mm.2.2.2.2.1.toNat : Int), .int .u8 (mm.2.2.2.2.2.toNat : Int), .slice none 0 0] else #[.bool false, .int .u32 0, .int .u32 0, .int .u32 0, .int .u32 0, .int .u8 0, .int .u8 0, .int .u8 0, .int .u8 0, .int .u8 0, .int .u8 0, .slice none 0 0])) ∧ (L 21 = true → L 20 = true)) (fun j => if j = 0 then u37 else if j = 1 then u38 else if j = 2 then u39 else if j = 3 then u40 else if j = 4 then u41 else if j = 5 then u42 else if j = 6 then u43 else if j = 7 then u44 else if j = 8 then u45 else if j = 9 then u46 else if j = 10 then u47 else if j = 11 then u48 else if j = 12 then u49 else if j = 13 then u50 else if j = 14 then u51 else if j = 15 then u52 else if j = 16 then u53 else if j = 17 then u54 else if j = 18 then u55 else if j = 19 then u56 else undef) ⟨(Fr.refl _ _).drew, (fun h => by cases h), fun h => by cases h⟩ ?_ ?_
    · rintro L u w3 i o hG hΦ ho hL hd K hK
      match i, ho with
      | 0, ho =>
        simp at ho; subst ho
        clear hΦ hd
        go_simp
        exact hK _ _ v0.symm hG (fun _ _ _ h => h)
      | 1, ho =>
        simp at ho; subst ho
        have hu0 : u 0 = V 0 := hΦ 0 (hd ⟨0, .data⟩ (by simp) (by rfl))
        rw [v0] at hu0
        clear hΦ hd
        have hx : ∃ xx, u = (upd xx 0 (.string (bs l))) := ⟨u, by rw [← upd_self hu0]⟩
        clear hu0
        obtain ⟨xx, rfl⟩ := hx
        simp only [upd, reduceIte, Nat.reduceEqDiff]
        go_simp
        try (rw [if_pos (by omega)]; go_simp)
        exact hK _ _ v1.symm hG (fun _ _ _ h => h)
      | 2, ho =>
        simp at ho; subst ho
        have hu1 : u 1 = V 1 := hΦ 1 (hd ⟨1, .data⟩ (by simp) (by rfl))
        rw [v1] at hu1
        clear hΦ hd
        have hx : ∃ xx, u = (upd xx 1 (.int .u8 (c0.toNat : Int))) := ⟨u, by rw [← upd_self hu1]⟩
        clear hu1
        obtain ⟨xx, rfl⟩ := hx
        simp only [upd, reduceIte, Nat.reduceEqDiff]
        go_simp
        try rw [Hb.out]
        exact hK _ _ v2.symm hG (fun _ _ _ h => h)
      | 3, ho =>
        simp at ho; subst ho
        clear hΦ hd
        go_simp
        exact hK _ _ v3.symm hG (fun _ _ _ h => h)
      | 4, ho =>
        simp at ho; subst ho
        have hu3 : u 3 = V 3 := hΦ 3 (hd ⟨3, .data⟩ (by simp) (by rfl))
        rw [v3] at hu3
        clear hΦ hd
        have hx : ∃ xx, u = (upd xx 3 (.string (bs l))) := ⟨u, by rw [← upd_self hu3]⟩
        clear hu3
        obtain ⟨xx, rfl⟩ := hx
        simp only [upd, reduceIte, Nat.reduceEqDiff]
        go_simp
        try (rw [if_pos (by omega)]; go_simp)
        exact hK _ _ v4.symm hG (fun _ _ _ h => h)
      | 5, ho =>
        simp at ho; subst ho
        have hu4 : u 4 = V 4 := hΦ 4 (hd ⟨4, .data⟩ (by simp) (by rfl))
        rw [v4] at hu4
        clear hΦ hd
        have hx : ∃ xx, u = (upd xx 4 (.string (bs (sub l 4 8)))) := ⟨u, by rw [← upd_self hu4]⟩
        clear hu4
        obtain ⟨xx, rfl⟩ := hx
        simp only [upd, reduceIte, Nat.reduceEqDiff]
        go_simp
        refine (refOf (sub l 4 8) _ (by have := sub_le l 4 8; omega)).mono ?_
        rintro e w4 ⟨rfl, rfl⟩
        rw [Hx.out]
        exact hK _ _ v5.symm hG (fun _ _ _ h => h)
      | 6, ho =>
        simp at ho; subst ho
        have hu5 : u 5 = V 5 := hΦ 5 (hd ⟨5, .data⟩ (by simp) (by rfl))
        rw [v5] at hu5
        clear hΦ hd
        have hx : ∃ xx, u = (upd xx 5 (.int .i64 (x : Int))) := ⟨u, by rw [← upd_self hu5]⟩
        clear hu5
        obtain ⟨xx, rfl⟩ := hx
        simp only [upd, reduceIte, Nat.reduceEqDiff]
        go_simp
        try rw [Hxw.out]
        exact hK _ _ v6.symm hG (fun _ _ _ h => h)
      | 7, ho =>
        simp at ho; subst ho
        clear hΦ hd
        go_simp
        exact hK _ _ v7.symm hG (fun _ _ _ h => h)
      | 8, ho =>
        simp at ho; subst ho
        have hu7 : u 7 = V 7 := hΦ 7 (hd ⟨7, .data⟩ (by simp) (by rfl))
        rw [v7] at hu7
        clear hΦ hd
        have hx : ∃ xx, u = (upd xx 7 (.string (bs l))) := ⟨u, by rw [← upd_self hu7]⟩
        clear hu7
        obtain ⟨xx, rfl⟩ := hx
        simp only [upd, reduceIte, Nat.reduceEqDiff]
        go_simp
        try (rw [if_pos (by omega)]; go_simp)
        exact hK _ _ v8.symm hG (fun _ _ _ h => h)
      | 9, ho =>
        simp at ho; subst ho
        have hu8 : u 8 = V 8 := hΦ 8 (hd ⟨8, .data⟩ (by simp) (by rfl))
        rw [v8] at hu8
        clear hΦ hd
        have hx : ∃ xx, u = (upd xx 8 (.string (bs (sub l 12 16)))) := ⟨u, by rw [← upd_self hu8]⟩
        clear hu8
        obtain ⟨xx, rfl⟩ := hx
        simp only [upd, reduceIte, Nat.reduceEqDiff]
        go_simp
        refine (refIpOf (sub l 12 16) _ (by have := sub_le l 12 16; omega)).mono ?_
        rintro e w4 ⟨rfl, rfl⟩
        rw [Hx1.out]
        exact hK _ _ v9.symm hG (fun _ _ _ h => h)
      | 10, ho =>
        simp at ho; subst ho
        clear hΦ hd
        go_simp
        exact hK _ _ v10.symm hG (fun _ _ _ h => h)
      | 11, ho =>
        simp at ho; subst ho
        have hu10 : u 10 = V 10 := hΦ 10 (hd ⟨10, .data⟩ (by simp) (by rfl))
        rw [v10] at hu10
        clear hΦ hd
        have hx : ∃ xx, u = (upd xx 10 (.string (bs l))) := ⟨u, by rw [← upd_self hu10]⟩
        clear hu10
        obtain ⟨xx, rfl⟩ := hx
        simp only [upd, reduceIte, Nat.reduceEqDiff]
        go_simp
        try (rw [if_pos (by omega)]; go_simp)
        exact hK _ _ v11.symm hG (fun _ _ _ h => h)
      | 12, ho =>
        simp at ho; subst ho
        have hu11 : u 11 = V 11 := hΦ 11 (hd ⟨11, .data⟩ (by simp) (by rfl))
        rw [v11] at hu11
        clear hΦ hd
        have hx : ∃ xx, u = (upd xx 11 (.string (bs (sub l 16 20)))) := ⟨u, by rw [← upd_self hu11]⟩
        clear hu11
        obtain ⟨xx, rfl⟩ := hx
        simp only [upd, reduceIte, Nat.reduceEqDiff]
        go_simp
        refine (refIpOf (sub l 16 20) _ (by have := sub_le l 16 20; omega)).mono ?_
        rintro e w4 ⟨rfl, rfl⟩
        rw [Hx2.out]
        exact hK _ _ v12.symm hG (fun _ _ _ h => h)
      | 13, ho =>
        simp at ho; subst ho
        clear hΦ hd
        go_simp
        exact hK _ _ v13.symm hG (fun _ _ _ h => h)
      | 14, ho =>
        simp at ho; subst ho
        have hu13 : u 13 = V 13 := hΦ 13 (hd ⟨13, .data⟩ (by simp) (by rfl))
        rw [v13] at hu13
        clear hΦ hd
        have hx : ∃ xx, u = (upd xx 13 (.string (bs l))) := ⟨u, by rw [← upd_self hu13]⟩
        clear hu13
        obtain ⟨xx, rfl⟩ := hx
        simp only [upd, reduceIte, Nat.reduceEqDiff]
        go_simp
        try (rw [if_pos (by omega)]; go_simp)
        exact hK _ _ v14.symm hG (fun _ _ _ h => h)
      | 15, ho =>
        simp at ho; subst ho
        have hu14 : u 14 = V 14 := hΦ 14 (hd ⟨14, .data⟩ (by simp) (by rfl))
        rw [v14] at hu14
        clear hΦ hd
        have hx : ∃ xx, u = (upd xx 14 (.string (bs (sub l 20 24)))) := ⟨u, by rw [← upd_self hu14]⟩
        clear hu14
        obtain ⟨xx, rfl⟩ := hx
        simp only [upd, reduceIte, Nat.reduceEqDiff]
        go_simp
        refine (refIpOf (sub l 20 24) _ (by have := sub_le l 20 24; omega)).mono ?_
        rintro e w4 ⟨rfl, rfl⟩
        rw [Hx3.out]
        exact hK _ _ v15.symm hG (fun _ _ _ h => h)
      | 16, ho =>
        simp at ho; subst ho
        clear hΦ hd
        go_simp
        exact hK _ _ v16.symm hG (fun _ _ _ h => h)
      | 17, ho =>
        simp at ho; subst ho
        have hu16 : u 16 = V 16 := hΦ 16 (hd ⟨16, .data⟩ (by simp) (by rfl))
        rw [v16] at hu16
        clear hΦ hd
        have hx : ∃ xx, u = (upd xx 16 (.string (bs l))) := ⟨u, by rw [← upd_self hu16]⟩
        clear hu16
        obtain ⟨xx, rfl⟩ := hx
        simp only [upd, reduceIte, Nat.reduceEqDiff]
        go_simp
        try (rw [if_pos (by omega)]; go_simp)
        exact hK _ _ v17.symm hG (fun _ _ _ h => h)
      | 18, ho =>
        simp at ho; subst ho
        have hu17 : u 17 = V 17 := hΦ 17 (hd ⟨17, .data⟩ (by simp) (by rfl))
        rw [v17] at hu17
        clear hΦ hd
        have hx : ∃ xx, u = (upd xx 17 (.string (bs (sub l 28 l.length)))) := ⟨u, by rw [← upd_self hu17]⟩
        clear hu17
        obtain ⟨xx, rfl⟩ := hx
        simp only [upd, reduceIte, Nat.reduceEqDiff]
        go_simp
        refine (refMacOf (sub l 28 l.length) _ (by rw [sub_length l 28 l.length (by omega)]; omega) (by have := sub_le l 28 l.length; omega)).mono ?_
        rintro e w4 ⟨rfl, hf4⟩
        rw [Hmm.out]
        exact hK _ _ v18.symm ⟨hG.1.none hf4, (fun h => by obtain ⟨g, h1, h2, h3⟩ := hG.2.1 h; exact ⟨g, h1, h2, h3.keep hf4 (fun x => x)⟩), hG.2.2⟩ (fun j x _ h => h)
      | 19, ho =>
        simp at ho; subst ho
        have hu2 : u 2 = V 2 := hΦ 2 (hd ⟨2, .data⟩ (by simp) (by rfl))
        rw [v2] at hu2
        have hu6 : u 6 = V 6 := hΦ 6 (hd ⟨6, .data⟩ (by simp) (by rfl))
        rw [v6] at hu6
        have hu9 : u 9 = V 9 := hΦ 9 (hd ⟨9, .data⟩ (by simp) (by rfl))
        rw [v9] at hu9
        have hu12 : u 12 = V 12 := hΦ 12 (hd ⟨12, .data⟩ (by simp) (by rfl))
        rw [v12] at hu12
        have hu15 : u 15 = V 15 := hΦ 15 (hd ⟨15, .data⟩ (by simp) (by rfl))
        rw [v15] at hu15
        have hu18 : u 18 = V 18 := hΦ 18 (hd ⟨18, .data⟩ (by simp) (by rfl))
        rw [v18] at hu18
        clear hΦ hd
        have hx : ∃ xx, u = (upd (upd (upd (upd (upd (upd xx 2 (.bool b)) 6 (.int .u32 (x : Int))) 9 (.int .u32 (x1 : Int))) 12 (.int .u32 (x2 : Int))) 15 (.int .u32 (x3 : Int))) 18 (macV mm)) := ⟨u, by rw [← upd_self hu2, ← upd_self hu6, ← upd_self hu9, ← upd_self hu12, ← upd_self hu15, ← upd_self hu18]⟩
        clear hu2 hu6 hu9 hu12 hu15 hu18
        obtain ⟨xx, rfl⟩ := hx
        simp only [upd, reduceIte, Nat.reduceEqDiff]
        simp only [macV]
        go_simp
        exact hK _ _ v19.symm hG (fun _ _ _ h => h)
      | 20, ho =>
        simp at ho; subst ho
        clear hΦ hd
        go_simp
        refine hK _ _ trivial ⟨hG.1.alloc _, fun _ => ⟨w3.heap.size, rfl, hG.1.size, ?_⟩, fun _ => rfl⟩ (fun j x _ h => h)
        have hL21 : L 21 = false := by
          cases h : L 21 with
          | false => rfl
          | true => exact absurd (hG.2.2 h) (by rw [hL]; simp)
        show Bk _ _ _ (if L 21 = true then _ else _)
        rw [hL21]; exact Bk.new _ _ _
      | 21, ho =>
        simp at ho; subst ho
        have hu19 : u 19 = V 19 := hΦ 19 (hd ⟨19, .data⟩ (by simp) (by rfl))
        rw [v19] at hu19
        have hL20 : L 20 = true := hd ⟨20, .data⟩ (by simp) (by rfl)
        clear hΦ hd
        have hx : ∃ xx, u = (upd xx 19 (.agg #[.bool b, .int .u32 (x : Int), .int .u32 (x1 : Int), .int .u32 (x2 : Int), .int .u32 (x3 : Int), .int .u8 (mm.1.toNat : Int), .int .u8 (mm.2.1.toNat : Int), .int .u8 (mm.2.2.1.toNat : Int), .int .u8 (mm.2.2.2.1.toNat : Int), .int .u8 (mm.2.2.2.2.1.toNat : Int), .int .u8 (mm.2.2.2.2.2.toNat : Int), .slice none 0 0])) := ⟨u, by rw [← upd_self hu19]⟩
        clear hu19
        obtain ⟨xx, rfl⟩ := hx
        simp only [upd, reduceIte, Nat.reduceEqDiff]
        obtain ⟨hG1, hG2, hG3⟩ := hG
        obtain ⟨g, h1, h2, h3⟩ := hG2 hL20
        have h1' : xx 20 = .pointer (some ⟨g, 0, none⟩) := h1
        clear h1 hG2
        rw [hL] at h3
        obtain ⟨y, rfl⟩ : ∃ y, xx = upd y 20 (.pointer (some ⟨g, 0, none⟩)) := ⟨xx, upd_self h1'⟩
        clear h1'
        simp only [upd, reduceIte, Nat.reduceEqDiff]
        refine wp_store_bk 75 (.tmp 4) (.tmp 56) rfl g _ _ #[.bool b, .int .u32 (x : Int), .int .u32 (x1 : Int), .int .u32 (x2 : Int), .int .u32 (x3 : Int), .int .u8 (mm.1.toNat : Int), .int .u8 (mm.2.1.toNat : Int), .int .u8 (mm.2.2.1.toNat : Int), .int .u8 (mm.2.2.2.1.toNat : Int), .int .u8 (mm.2.2.2.2.1.toNat : Int), .int .u8 (mm.2.2.2.2.2.toNat : Int), .slice none 0 0] rfl rfl h3 rfl (by kernel_rfl) (by simp [Value.oneCell']) ?_
        intro w9 hx9 hf9
        exact hK undef _ trivial ⟨hG1.trans' hf9 (fun b hb e => by unfold oneB at e; omega), fun _ => ⟨g, rfl, h2, hx9⟩, fun _ => hL20⟩ (fun j x _ h => h)
    · rintro u w3 hu L hall hG
      obtain ⟨hG1, hG2, hG3⟩ := hG
      obtain ⟨g, h1, h2, h3⟩ := hG2 (hall 20 (by simp))
      rw [hall 21 (by simp)] at h3
      clear hG2 hG3 hu hall
      rw [h1]
      have hv : Bk w3 g 75 #[.bool b, .int .u32 (x : Int), .int .u32 (x1 : Int), .int .u32 (x2 : Int), .int .u32 (x3 : Int), .int .u8 (mm.1.toNat : Int), .int .u8 (mm.2.1.toNat : Int), .int .u8 (mm.2.2.1.toNat : Int), .int .u8 (mm.2.2.2.1.toNat : Int), .int .u8 (mm.2.2.2.2.1.toNat : Int), .int .u8 (mm.2.2.2.2.2.toNat : Int), .slice none 0 0] := h3
      clear h3
      generalize u 0 = z0, u 1 = z1, u 2 = z2, u 3 = z3, u 4 = z4, u 5 = z5, u 6 = z6, u 7 = z7, u 8 = z8, u 9 = z9, u 10 = z10, u 11 = z11, u 12 = z12, u 13 = z13, u 14 = z14, u 15 = z15, u 16 = z16, u 17 = z17, u 18 = z18, u 19 = z19
      refine hK' _ _ (Met.intro (hJ _ _ ?_))
      repeat apply Exists.intro
      exact ⟨⟨g, rfl, h2, hv, hG1⟩, rfl⟩
  case rest =>
  obtain ⟨gm, rfl, hgm, hm, hfc⟩ := hcut
  have hF := hf0.none hfc
  have hx := hx0.keep hfc (fun x => x)
  have hs1 := Hsz.out
  have hnl : gm ≠ w.heap.size := by omega
  have hsp : readDHCP l = match optRd [] (l.drop 240) with
      | none => (dhc0, 1)
      | some os => match overs os (sub l 44 108) (sub l 108 236) with
        | (a, 0) => (⟨b, x, x1, x2, x3, mm, a⟩, 0)
        | (_, e + 1) => (dhc0, e + 1) := by
    unfold readDHCP
    rw [if_neg h240, if_neg (not_not_intro ⟨by rw [Hc0.out]; rcases Hcc.out with h | h <;> rw [h] <;> simp, Hck1.out, Hck2.out⟩), ← Hx.out, ← Hx1.out, ← Hx2.out, ← Hx3.out, ← Hmm.out, macOf_sub l (by omega), ← Hb.out, Hc0.out]
    have e0 : (([c0] : List UInt8) == [2]) = ((c0.toNat : Int) == 2) := by
      by_cases h : c0 = 2
      · subst h; rfl
      · rw [show ((c0.toNat : Int) == 2) = false from u8_ne h]; simpa using h
    rw [e0]
    rfl
  have Hsp := Lib.hid hsp
  clear hsp hx0 hf0 hfc Hb Hx Hx1 Hx2 Hx3 Hmm Hxw Hcc Hck1 Hck2 Hc0 Hsz hg0 h240i
  have hwc : w.heap.size < wc.heap.size := hx.lt
  have hgl0 : gm + 1 ≤ wc.heap.size := hm.lt
  go_wp2_with fail
  rw [sub_rest]
  refine (refOptions (gm + 1) none 0 [] (l.drop 240) wc SlR.nil hgl0 (by simp only [wtO, List.length_drop]; omega)).mono ?_
  rintro e wd (⟨os1, A1, cap1, h1, rfl, hA1, hw1, hf1⟩ | ⟨h1, rfl, hf1⟩)
  rotate_left
  · have Hno : Hid (readDHCP l = (dhc0, 1)) := Lib.hid (by rw [Hsp.out, h1])
    have hxd := hx.keep hf1 (fun x => x)
    have hFd := hF.none hf1
    clear h1 Hsp
    go_wp2_with ((refine wpList_store_bk rfl 75 (.tmp 2) (.tmp 65) rfl w.heap.size _ _ #[.bool false, .int .u32 0, .int .u32 0, .int .u32 0, .int .u32 0, .int .u8 0, .int .u8 0, .int .u8 0, .int .u8 0, .int .u8 0, .int .u8 0, .slice none 0 0] rfl rfl hxd rfl (by kernel_rfl) (by kernel_rfl) ?_); intro w9 hx9 hf9)
    refine bodyPost_ret (results_row_tmp Tryz.results185 _ w9 w.heap.size _ _ _ _ rfl rfl hx9 Tryz.underlying75 rfl (by kernel_rfl)) rfl ?_
    exact ⟨⟨none, 0, by rw [Hno.out]; rfl, by rw [Hno.out]; exact SlR.nil⟩, hFd.trans' hf9 (fun b hb e => by unfold oneB at e; omega)⟩
  have H1 := Lib.hid h1
  clear h1
  have hl1 := wtO_len os1
  have hw1' : wtO os1 ≤ l.length - 240 := by simp only [wtO, List.length_drop] at hw1; omega
  have hxd := hx.keep hf1 (fun x => x)
  have hmd := hm.keep hf1 (fun x => x)
  have hFd := hF.none hf1
  clear hx hm hF hf1 hw1
  have hOf := dhcOf noB A1 os1.length cap1 os1 52 wd (hA1.sub (fun _ _ x => x.elim)) (by omega)
  clear hOf
  have hOp := refOption noB A1 os1.length cap1 os1 52 wd (hA1.sub (fun _ _ x => x.elim)) (by omega)
  rw [show (((52 : UInt8).toNat : Nat) : Int) = 52 by decide] at hOp
  go_wp2_with fail
  refine hOp.mono ?_
  clear hOp
  rintro e we ⟨rfl, hf2⟩
  have hA2 := hA1.keep (hf2.of_no _)
  have hxe := hxd.keep hf2 (fun x => x)
  have hme := hmd.keep hf2 (fun x => x)
  have hFe := hFd.none hf2
  have hgl := hme.lt
  clear hA1 hxd hmd hFd hf2
  cases ho : optOf os1 52 with
  | none =>
    simp only [Option.getD_none, Option.isSome_none]
    have Hfin : Hid (readDHCP l = (⟨b, x, x1, x2, x3, mm, os1⟩, 0)) := Lib.hid (by rw [Hsp.out, H1.out]; simp only [overs, ho])
    clear ho Hsp H1
    have hmc := hme.cells
    have hmz := hme.frees
    have hgl := hme.lt
    have hmg : Bk (we.setCell ⟨gm, 11, none⟩ (.slice A1 os1.length cap1)) gm 75 #[.bool b, .int .u32 (x : Int), .int .u32 (x1 : Int), .int .u32 (x2 : Int), .int .u32 (x3 : Int), .int .u8 (mm.1.toNat : Int), .int .u8 (mm.2.1.toNat : Int), .int .u8 (mm.2.2.1.toNat : Int), .int .u8 (mm.2.2.2.1.toNat : Int), .int .u8 (mm.2.2.2.2.1.toNat : Int), .int .u8 (mm.2.2.2.2.2.toNat : Int), .slice A1 os1.length cap1] := by simpa using hme.set 11 (.slice A1 os1.length cap1)
    have hxg := hxe.far (p := ⟨gm, 11, none⟩) (by simpa using fun e => hnl e.symm) (.slice A1 os1.length cap1)
    have hAg := hA2.keep ((Fr.refl (fun k => k < gm + 1) we).setCell (p := ⟨gm, 11, none⟩) (fun _ => Nat.lt_succ_self gm) (.slice A1 os1.length cap1))
    have hFg : Fr noB w (we.setCell ⟨gm, 11, none⟩ (.slice A1 os1.length cap1)) := hFe.setCell (p := ⟨gm, 11, none⟩) (fun h => absurd h (by simp; omega)) _
    have hmgc := hmg.cells
    go_wp2_with ((refine wpList_store_bk rfl 75 (.tmp 2) (.tmp 75) rfl w.heap.size _ _ #[.bool b, .int .u32 (x : Int), .int .u32 (x1 : Int), .int .u32 (x2 : Int), .int .u32 (x3 : Int), .int .u8 (mm.1.toNat : Int), .int .u8 (mm.2.1.toNat : Int), .int .u8 (mm.2.2.1.toNat : Int), .int .u8 (mm.2.2.2.1.toNat : Int), .int .u8 (mm.2.2.2.2.1.toNat : Int), .int .u8 (mm.2.2.2.2.2.toNat : Int), .slice A1 os1.length cap1] rfl rfl hxg rfl (by kernel_rfl) (by simp [Value.oneCell']) ?_); intro w9 hx9 hf9)
    refine bodyPost_ret (results_row_tmp Tryz.results185 _ w9 w.heap.size _ _ _ _ rfl rfl hx9 Tryz.underlying75 rfl (by kernel_rfl)) rfl ?_
    refine ⟨⟨A1, cap1, by rw [Hfin.out]; rfl, ?_⟩, hFg.trans' hf9 (fun b hb e => by unfold oneB at e; omega)⟩
    rw [Hfin.out]
    exact (hAg.keep (hf9.mono fun b hb e => by unfold oneB at e; omega)).sub (fun b hb h => by omega)
  | some d =>
    simp only [Option.getD_some, Option.isSome_some]
    by_cases hd : d.length = 1
    rotate_left
    · have Hno : Hid (readDHCP l = (dhc0, 2)) := Lib.hid (by rw [Hsp.out, H1.out]; simp only [overs_bad os1 _ _ d ho hd])
      clear ho Hsp H1
      have hdi : ((d.length : Int) != 1) = true := by simp; omega
      go_wp2_with ((refine wpList_store_bk rfl 75 (.tmp 2) (.tmp 89) rfl w.heap.size _ _ #[.bool false, .int .u32 0, .int .u32 0, .int .u32 0, .int .u32 0, .int .u8 0, .int .u8 0, .int .u8 0, .int .u8 0, .int .u8 0, .int .u8 0, .slice none 0 0] rfl rfl hxe rfl (by kernel_rfl) (by kernel_rfl) ?_); intro w9 hx9 hf9)
      refine bodyPost_ret (results_row_tmp Tryz.results185 _ w9 w.heap.size _ _ _ _ rfl rfl hx9 Tryz.underlying75 rfl (by kernel_rfl)) rfl ?_
      exact ⟨⟨none, 0, by rw [Hno.out]; rfl, by rw [Hno.out]; exact SlR.nil⟩, hFe.trans' hf9 (fun b hb e => by unfold oneB at e; omega)⟩
    match d, hd with
    | [y], _ =>
    have Hs := Lib.hid (overs_some os1 (sub l 44 108) (sub l 108 236) y ho)
    clear ho
    have hy := y.toNat_lt
    have hg0 : ∀ h : 0 < (bs [y]).size, (bs [y])[0]'h = y := fun h => by rw [bs_get]; rfl
    by_cases hy1 : y.toNat < 1
    · have Hno : Hid (readDHCP l = (dhc0, 2)) := Lib.hid (by rw [Hsp.out, H1.out]; simp only [Hs.out, if_pos (Or.inl hy1)])
      clear Hs Hsp H1
      have hyi : (y.toNat : Int) < 1 := by omega
      go_wp2_with ((refine wpList_store_bk rfl 75 (.tmp 2) (.tmp 89) rfl w.heap.size _ _ #[.bool false, .int .u32 0, .int .u32 0, .int .u32 0, .int .u32 0, .int .u8 0, .int .u8 0, .int .u8 0, .int .u8 0, .int .u8 0, .int .u8 0, .slice none 0 0] rfl rfl hxe rfl (by kernel_rfl) (by kernel_rfl) ?_); intro w9 hx9 hf9)
      refine bodyPost_ret (results_row_tmp Tryz.results185 _ w9 w.heap.size _ _ _ _ rfl rfl hx9 Tryz.underlying75 rfl (by kernel_rfl)) rfl ?_
      exact ⟨⟨none, 0, by rw [Hno.out]; rfl, by rw [Hno.out]; exact SlR.nil⟩, hFe.trans' hf9 (fun b hb e => by unfold oneB at e; omega)⟩
    have hyi : ¬ (y.toNat : Int) < 1 := by omega
    by_cases hy3 : 3 < y.toNat
    · have Hno : Hid (readDHCP l = (dhc0, 2)) := Lib.hid (by rw [Hsp.out, H1.out]; simp only [Hs.out, if_pos (Or.inr hy3)])
      clear Hs Hsp H1
      have hyj : (3 : Int) < (y.toNat : Int) := by omega
      go_wp2_with ((refine wpList_store_bk rfl 75 (.tmp 2) (.tmp 89) rfl w.heap.size _ _ #[.bool false, .int .u32 0, .int .u32 0, .int .u32 0, .int .u32 0, .int .u8 0, .int .u8 0, .int .u8 0, .int .u8 0, .int .u8 0, .int .u8 0, .slice none 0 0] rfl rfl hxe rfl (by kernel_rfl) (by kernel_rfl) ?_); intro w9 hx9 hf9)
      refine bodyPost_ret (results_row_tmp Tryz.results185 _ w9 w.heap.size _ _ _ _ rfl rfl hx9 Tryz.underlying75 rfl (by kernel_rfl)) rfl ?_
      exact ⟨⟨none, 0, by rw [Hno.out]; rfl, by rw [Hno.out]; exact SlR.nil⟩, hFe.trans' hf9 (fun b hb e => by unfold oneB at e; omega)⟩
    have hyj : ¬ (3 : Int) < (y.toNat : Int) := by omega
    have Hsp2 : Hid (readDHCP l = match (match ovAt y (sub l 44 108) (sub l 108 236) (os1.filter notO) 2 with
      | none => (([] : List OptD), 1)
      | some a => if (optOf a 52).isSome then ([], 2) else (a, 0)) with
        | (a, 0) => (⟨b, x, x1, x2, x3, mm, a⟩, 0)
        | (_, e + 1) => (dhc0, e + 1)) := Lib.hid (by
      rw [Hsp.out, H1.out]
      simp only [Hs.out, if_neg (show ¬ (y.toNat < 1 ∨ 3 < y.toNat) by omega)]
      rfl)
    clear Hs Hsp H1
    obtain ⟨n, hn⟩ : ∃ n, os1.length = n := ⟨_, rfl⟩
    rw [hn] at hA2 hl1
    rw [hn]
    obtain ⟨i0, hi0, hz0, hz1, hz2⟩ := info_parts opt_info
    have hA2n := hA2.sub (T := noB) (fun _ _ x => x.elim)
    go_wp2_with fail
    go_loopw [9, 92] (fun av iv wr => ∃ (i : Nat) (A : Option Addr) (m cap : Nat), i ≤ n ∧ iv = .int .i64 (i : Int) ∧ av = .slice A m cap ∧ ((os1.take i).filter notO).length = m ∧
        wr.ownsRow we.heap.size 72 2 (.slice A m cap) m (optC ((os1.take i).filter notO)) ∧ Fr noB we wr) (fun _ iv _ => n - (intOf iv).toNat)
    case atStart => exact ⟨0, none, 0, 0, by omega, rfl, rfl, rfl, ⟨rfl, .inl ⟨rfl, rfl⟩⟩, Fr.refl _ _⟩
    case round =>
      obtain ⟨i, A3, m, cap3, hi, rfl, rfl, hm3, hO, hw⟩ := hrel
      by_cases hlt : i < n
      · obtain ⟨o, ho⟩ : ∃ o, os1[i]? = some o := ⟨_, List.getElem?_eq_getElem (by omega)⟩
        obtain ⟨ad, rfl, c1, c2⟩ := (hA2n.keep hw).optAt ho
        have hft := Lib.hid (filter_take ho)
        clear ho
        have hne := Fr.alloc hw (.cells #[.int .u8 (o.code.toNat : Int), .string (bs o.data)] 72)
        have hO1 := own_keep hO ((Fr.refl noB wr).alloc (.cells #[.int .u8 (o.code.toNat : Int), .string (bs o.data)] 72)) (fun _ _ x => x)
        have Hm3 := Lib.hid hm3
        clear hm3
        by_cases he : o.code = 52
        · have hei : (o.code.toNat : Int) = 52 := by rw [he]; decide
          have Hft : Hid ((os1.take (i + 1)).filter notO = (os1.take i).filter notO) := Lib.hid (by
            rw [hft.out, if_neg (by unfold notO; rw [he]; decide), List.append_nil])
          clear hft he
          rw [hei] at hO1 hne
          have HO1 := Lib.hid hO1
          clear hO1 hO
          go_wp2_with fail
          exact ⟨⟨i + 1, A3, m, cap3, by omega, by rw [Int.natCast_add]; rfl, rfl, by rw [Hft.out]; exact Hm3.out, by rw [Hft.out]; exact HO1.out, hne⟩, by simp only [intOf]; omega⟩
        · have hei : ¬ (o.code.toNat : Int) = 52 := fun e => he (UInt8.toNat.inj (show o.code.toNat = 52 by omega))
          have Hft : Hid ((os1.take (i + 1)).filter notO = (os1.take i).filter notO ++ [o]) := Lib.hid (by
            rw [hft.out, if_pos (by unfold notO; simpa using he)])
          clear hft he
          have hlen1 : m ≤ i := by rw [← Hm3.out]; exact Nat.le_trans (List.length_filter_le _ _) (List.length_take_le i os1)
          have hsr : SlR ((wr.alloc (.cells #[.int .u8 (o.code.toNat : Int), .string (bs o.data)] 72)).alloc (.cells #[.int .u8 (o.code.toNat : Int), .string (bs o.data)] 72)) noB 2 (some ⟨wr.heap.size + 1, 0, none⟩) 1 (optC [o]) := by
            have h := SlR.of_bk (n := 1) (size := 2) (S := noB) (Bk.new (wr.alloc (.cells #[.int .u8 (o.code.toNat : Int), .string (bs o.data)] 72)) 72 #[.int .u8 (o.code.toNat : Int), .string (bs o.data)]) (fun x => x) rfl
            rw [show (wr.alloc (.cells #[.int .u8 (o.code.toNat : Int), .string (bs o.data)] 72)).heap.size = wr.heap.size + 1 by simp] at h
            exact h
          have hO2 := own_keep hO1 ((Fr.refl noB (wr.alloc (.cells #[.int .u8 (o.code.toNat : Int), .string (bs o.data)] 72))).alloc (.cells #[.int .u8 (o.code.toNat : Int), .string (bs o.data)] 72)) (fun _ _ x => x)
          obtain ⟨l0, hl0⟩ : ∃ l0, optC ((os1.take i).filter notO) = l0 := ⟨_, rfl⟩
          rw [hl0] at hO2
          have Hl0 := Lib.hid hl0
          clear hl0 hO hO1
          have hbz : we.heap.size ≤ wr.heap.size := hw.size
          go_wp2_with (at_builtin
                       go_must (refine wpList_app rfl (.tmp 99) (.tmp 101) _ rfl we.heap.size 72 i0 _ 2 24 Tryz.underlying73 hi0 hz0 hz1 hz2 rfl (by omega) A3 _ _ _ rfl hO2 noB _ 1 1 _ rfl hsr optC_one (by unfold maxLen; omega) (by omega) (by simp; omega) ?_)
                       intro A4 cap4 w4 hap)
          have hfn : Fr noB we w4 := (hne.alloc _).trans' hap.fr (by
            rintro b hb ⟨a, e, rfl⟩
            have h := own_blk hO2 a e
            omega)
          exact ⟨⟨i + 1, A4, m + 1, cap4, by omega, by rw [Int.natCast_add]; rfl, rfl, by rw [Hft.out, List.length_append, Hm3.out]; rfl, by rw [Hft.out, optC_append, Hl0.out]; exact hap.own, hfn⟩, by simp only [intOf]; omega⟩
      · obtain rfl : i = n := by omega
        have hO1 : wr.ownsRow we.heap.size 72 2 (.slice A3 m cap3) m (optC (os1.filter notO)) := by rw [List.take_of_length_le (by omega)] at hO; exact hO
        have hm4 : (os1.filter notO).length = m := by rw [List.take_of_length_le (by omega)] at hm3; exact hm3
        clear hO hm3
        have hAr : SlR wr (fun k => k < gm + 1) 2 A3 m (optC (os1.filter notO)) := own_slrS hO1 (fun a e h => by have := own_blk hO1 a e; omega)
        have hxr := hxe.keep hw (fun x => x)
        have hmr := hme.keep hw (fun x => x)
        have hFr := hFe.none hw
        have hgr := hmr.lt
        have hw0 := wtO_filter os1
        obtain ⟨a0, ha0⟩ : ∃ a0, os1.filter notO = a0 := ⟨_, rfl⟩
        rw [ha0] at hAr hw0 Hsp2 hm4
        clear ha0 hO1 hw hxe hme hFe
        subst hm4
        have hnf : (sub l 108 236).length = 128 := sub_length l 108 236 (by omega)
        have hnn : (sub l 44 108).length = 64 := sub_length l 44 108 (by omega)
        go_upto_if 107 with fail
        go_cut [6, 9] from 14 (fun s6 s9 wx => Fr noB wr wx ∧ ((∃ a A cap, ovAt y (sub l 44 108) (sub l 108 236) a0 1 = some a ∧ s6 = .bool true ∧ s9 = .slice A a.length cap ∧ SlR wx (fun k => k < gm + 1) 2 A a.length (optC a) ∧ wtO a ≤ wtO a0 + 128) ∨ (ovAt y (sub l 44 108) (sub l 108 236) a0 1 = none ∧ s6 = .bool false)))
        case first =>
          by_cases hbit : y.toNat % 2 = 1
          · have hb1 : (y.toNat : Int) % 2 = 1 := by omega
            have Hn : Hid (ovAt y (sub l 44 108) (sub l 108 236) a0 1 = optRd a0 (sub l 108 236)) := Lib.hid (by rw [ovAt, ovAt, Option.bind_some, ovStep, if_pos hbit])
            clear hbit
            go_wp2_with fail
            refine (refOptions (gm + 1) A3 cap3 a0 (sub l 108 236) wr hAr hgr (by omega)).mono ?_
            rintro e wf (⟨os2, A2, cap2, h1, rfl, hA2', hw2, hf2⟩ | ⟨h1, rfl, hf2⟩)
            · have Hn2 := Lib.hid (Hn.out.trans h1)
              clear h1 Hn
              go_wp2_with fail
              go_meet
              case rel => exact ⟨hf2, .inl ⟨os2, A2, cap2, Hn2.out, rfl, rfl, hA2', by omega⟩⟩
            · have Hn2 := Lib.hid (Hn.out.trans h1)
              clear h1 Hn
              go_wp2_with fail
              go_meet
              case rel => exact ⟨hf2, .inr ⟨Hn2.out, rfl⟩⟩
          · have hb1 : ¬ (y.toNat : Int) % 2 = 1 := by omega
            have Hn : Hid (ovAt y (sub l 44 108) (sub l 108 236) a0 1 = some a0) := Lib.hid (by rw [ovAt, ovAt, Option.bind_some, ovStep, if_neg hbit])
            clear hbit
            go_wp2_with fail
            go_meet
            case rel => exact ⟨Fr.refl _ _, .inl ⟨a0, A3, cap3, Hn.out, rfl, rfl, hAr, by omega⟩⟩
        case rest =>
        obtain ⟨hfx, hcase⟩ := hcut
        have hxx := hxr.keep hfx (fun x => x)
        have hmx := hmr.keep hfx (fun x => x)
        have hFx := hFr.none hfx
        have hgx := hmx.lt
        clear hAr hxr hmr hFr hfx hgr
        rcases hcase with ⟨os2, A2, cap2, hov1, rfl, rfl, hAx, hwx⟩ | ⟨hov1, rfl⟩
        rotate_left
        · have Hno : Hid (readDHCP l = (dhc0, 1)) := Lib.hid (by rw [Hsp2.out]; simp only [ovAt_none hov1])
          clear hov1
          clear Hsp2
          go_wp2_with ((refine wpList_store_bk rfl 75 (.tmp 2) (.tmp 130) rfl w.heap.size _ _ #[.bool false, .int .u32 0, .int .u32 0, .int .u32 0, .int .u32 0, .int .u8 0, .int .u8 0, .int .u8 0, .int .u8 0, .int .u8 0, .int .u8 0, .slice none 0 0] rfl rfl hxx rfl (by kernel_rfl) (by kernel_rfl) ?_); intro w9 hx9 hf9)
          refine bodyPost_ret (results_row_tmp Tryz.results185 _ w9 w.heap.size _ _ _ _ rfl rfl hx9 Tryz.underlying75 rfl (by kernel_rfl)) rfl ?_
          exact ⟨⟨none, 0, by rw [Hno.out]; rfl, by rw [Hno.out]; exact SlR.nil⟩, hFx.trans' hf9 (fun b hb e => by unfold oneB at e; omega)⟩
        have Hov1 := Lib.hid hov1
        clear hov1
        go_upto_if 120 with fail
        go_cut [6, 9] from 14 (fun s6 s9 wx => Fr noB wc wx ∧ ((∃ a A cap, ovAt y (sub l 44 108) (sub l 108 236) a0 2 = some a ∧ s6 = .bool true ∧ s9 = .slice A a.length cap ∧ SlR wx (fun k => k < gm + 1) 2 A a.length (optC a) ∧ wtO a ≤ wtO a0 + 256) ∨ (ovAt y (sub l 44 108) (sub l 108 236) a0 2 = none ∧ s6 = .bool false)))
        case first =>
          by_cases hbit : 2 ≤ y.toNat
          · have hb1 : (2 : Int) ≤ (y.toNat : Int) := by omega
            have Hn : Hid (ovAt y (sub l 44 108) (sub l 108 236) a0 2 = optRd os2 (sub l 44 108)) := Lib.hid (by rw [ovAt, Hov1.out, Option.bind_some, ovStep, if_pos hbit]; rintro h; cases h)
            clear hbit Hov1
            go_wp2_with fail
            refine (refOptions (gm + 1) A2 cap2 os2 (sub l 44 108) _ hAx hgx (by omega)).mono ?_
            rintro e wf (⟨os3, A3, cap3, h1, rfl, hA2', hw2, hf2⟩ | ⟨h1, rfl, hf2⟩)
            · have Hn2 := Lib.hid (Hn.out.trans h1)
              clear h1 Hn
              go_wp2_with fail
              go_meet
              case rel => exact ⟨hf2, .inl ⟨os3, A3, cap3, Hn2.out, rfl, rfl, hA2', by omega⟩⟩
            · have Hn2 := Lib.hid (Hn.out.trans h1)
              clear h1 Hn
              go_wp2_with fail
              go_meet
              case rel => exact ⟨hf2, .inr ⟨Hn2.out, rfl⟩⟩
          · have hb1 : ¬ (2 : Int) ≤ (y.toNat : Int) := by omega
            have Hn : Hid (ovAt y (sub l 44 108) (sub l 108 236) a0 2 = some os2) := Lib.hid (by rw [ovAt, Hov1.out, Option.bind_some, ovStep, if_neg hbit]; rintro h; cases h)
            clear hbit Hov1
            go_wp2_with fail
            go_meet
            case rel => exact ⟨Fr.refl _ _, .inl ⟨os2, A2, cap2, Hn.out, rfl, rfl, hAx, by omega⟩⟩
        case rest =>
        obtain ⟨hfy, hcase⟩ := hcut
        rename_i wy
        have hxy := hxx.keep hfy (fun x => x)
        have hmy := hmx.keep hfy (fun x => x)
        have hFy := hFx.none hfy
        clear hAx hxx hmx hFx hfy Hov1
        rcases hcase with ⟨os3, A3, cap3, hov2, rfl, rfl, hAy, hwy⟩ | ⟨hov2, rfl⟩
        rotate_left
        · have Hno : Hid (readDHCP l = (dhc0, 1)) := Lib.hid (by rw [Hsp2.out]; simp only [hov2])
          clear hov2
          clear Hsp2
          go_wp2_with ((refine wpList_store_bk rfl 75 (.tmp 2) (.tmp 130) rfl w.heap.size _ _ #[.bool false, .int .u32 0, .int .u32 0, .int .u32 0, .int .u32 0, .int .u8 0, .int .u8 0, .int .u8 0, .int .u8 0, .int .u8 0, .int .u8 0, .slice none 0 0] rfl rfl hxy rfl (by kernel_rfl) (by kernel_rfl) ?_); intro w9 hx9 hf9)
          refine bodyPost_ret (results_row_tmp Tryz.results185 _ w9 w.heap.size _ _ _ _ rfl rfl hx9 Tryz.underlying75 rfl (by kernel_rfl)) rfl ?_
          exact ⟨⟨none, 0, by rw [Hno.out]; rfl, by rw [Hno.out]; exact SlR.nil⟩, hFy.trans' hf9 (fun b hb e => by unfold oneB at e; omega)⟩
        have Hov2 := Lib.hid hov2
        clear hov2
        have Hs2 : Hid (readDHCP l = match (if (optOf os3 52).isSome then (([] : List OptD), 2) else (os3, 0)) with
            | (a, 0) => (⟨b, x, x1, x2, x3, mm, a⟩, 0)
            | (_, e + 1) => (dhc0, e + 1)) := Lib.hid (by rw [Hsp2.out]; simp only [Hov2.out])
        clear Hsp2 Hov2
        have hl2 := wtO_len os3
        have hOp := refOption noB A3 os3.length cap3 os3 52 _ (hAy.sub (fun _ _ x => x.elim)) (by omega)
        rw [show (((52 : UInt8).toNat : Nat) : Int) = 52 by decide] at hOp
        go_wp2_with fail
        refine hOp.mono ?_
        clear hOp
        rintro e wt ⟨rfl, hft⟩
        have hAt := hAy.keep (hft.of_no _)
        have hxt := hxy.keep hft (fun x => x)
        have hmt := hmy.keep hft (fun x => x)
        have hFt := hFy.none hft
        clear hft
        cases hos : (optOf os3 52).isSome with
        | true =>
          have Hno : Hid (readDHCP l = (dhc0, 2)) := Lib.hid (by rw [Hs2.out, hos]; rfl)
          clear Hs2
          go_wp2_with ((refine wpList_store_bk rfl 75 (.tmp 2) (.tmp 137) rfl w.heap.size _ _ #[.bool false, .int .u32 0, .int .u32 0, .int .u32 0, .int .u32 0, .int .u8 0, .int .u8 0, .int .u8 0, .int .u8 0, .int .u8 0, .int .u8 0, .slice none 0 0] rfl rfl hxt rfl (by kernel_rfl) (by kernel_rfl) ?_); intro w9 hx9 hf9)
          refine bodyPost_ret (results_row_tmp Tryz.results185 _ w9 w.heap.size _ _ _ _ rfl rfl hx9 Tryz.underlying75 rfl (by kernel_rfl)) rfl ?_
          exact ⟨⟨none, 0, by rw [Hno.out]; rfl, by rw [Hno.out]; exact SlR.nil⟩, hFt.trans' hf9 (fun b hb e => by unfold oneB at e; omega)⟩
        | false =>
          have Hfin : Hid (readDHCP l = (⟨b, x, x1, x2, x3, mm, os3⟩, 0)) := Lib.hid (by rw [Hs2.out, hos]; rfl)
          clear Hs2
          have hmc := hmt.cells
          have hmz := hmt.frees
          have hgl := hmt.lt
          have hmg : Bk (wt.setCell ⟨gm, 11, none⟩ (.slice A3 os3.length cap3)) gm 75 #[.bool b, .int .u32 (x : Int), .int .u32 (x1 : Int), .int .u32 (x2 : Int), .int .u32 (x3 : Int), .int .u8 (mm.1.toNat : Int), .int .u8 (mm.2.1.toNat : Int), .int .u8 (mm.2.2.1.toNat : Int), .int .u8 (mm.2.2.2.1.toNat : Int), .int .u8 (mm.2.2.2.2.1.toNat : Int), .int .u8 (mm.2.2.2.2.2.toNat : Int), .slice A3 os3.length cap3] := by simpa using hmt.set 11 (.slice A3 os3.length cap3)
          have hxg := hxt.far (p := ⟨gm, 11, none⟩) (by simpa using fun e => hnl e.symm) (.slice A3 os3.length cap3)
          have hAg := hAt.keep ((Fr.refl (fun k => k < gm + 1) wt).setCell (p := ⟨gm, 11, none⟩) (fun _ => Nat.lt_succ_self gm) (.slice A3 os3.length cap3))
          have hFg : Fr noB w (wt.setCell ⟨gm, 11, none⟩ (.slice A3 os3.length cap3)) := hFt.setCell (p := ⟨gm, 11, none⟩) (fun h => absurd h (by simp; omega)) _
          have hmgc := hmg.cells
          go_wp2_with ((refine wpList_store_bk rfl 75 (.tmp 2) (.tmp 140) rfl w.heap.size _ _ #[.bool b, .int .u32 (x : Int), .int .u32 (x1 : Int), .int .u32 (x2 : Int), .int .u32 (x3 : Int), .int .u8 (mm.1.toNat : Int), .int .u8 (mm.2.1.toNat : Int), .int .u8 (mm.2.2.1.toNat : Int), .int .u8 (mm.2.2.2.1.toNat : Int), .int .u8 (mm.2.2.2.2.1.toNat : Int), .int .u8 (mm.2.2.2.2.2.toNat : Int), .slice A3 os3.length cap3] rfl rfl hxg rfl (by kernel_rfl) (by simp [Value.oneCell']) ?_); intro w9 hx9 hf9)
          refine bodyPost_ret (results_row_tmp Tryz.results185 _ w9 w.heap.size _ _ _ _ rfl rfl hx9 Tryz.underlying75 rfl (by kernel_rfl)) rfl ?_
          refine ⟨⟨A3, cap3, by rw [Hfin.out]; rfl, ?_⟩, hFg.trans' hf9 (fun b hb e => by unfold oneB at e; omega)⟩
          rw [Hfin.out]
          exact (hAg.keep (hf9.mono fun b hb e => by unfold oneB at e; omega)).sub (fun b hb h => by omega)
end Go.Proofs.YtcbkaiakdhiloabGreatDoor
