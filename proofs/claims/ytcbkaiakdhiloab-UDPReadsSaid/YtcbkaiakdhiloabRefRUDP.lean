/- ReadUDP on both sides, and the walk of the law netbootlaw.UDPReads. -/
import Derived.Test.YtcbkaiakdhiloabReadUDP
import Derived.Test.YtcbkaiakdhiloabEq
set_option linter.unusedSimpArgs false
set_option linter.unusedVariables false
namespace Go.Proofs.Ytcbkaiakdhiloab
open Go.RowKit Go.Proofs
attribute [local go_sem] bs_size bs_append bs_sub bs_toList

theorem udpC_size (x : UdpD) : (udpC x).size = zcUdp.size := rfl
theorem udpC_one (x : UdpD) : (udpC x).all (·.oneCell') = true := by kernel_rfl
theorem udp_info (x : UdpD) : (Try.prog.info? 37).map (·.size) = some (udpC x).size := by rw [udpC_size]; kernel_rfl

set_option maxRecDepth 20000 in
theorem packetReadUDP (l : List UInt8) (fi ti : Nat) (w : World) (hfi : fi < 4294967296) (hti : ti < 4294967296) (hl : l.length ≤ 9223372036854775807) :
    Calls Try.prog 25 #[.string (bs l), .int .u32 (fi : Int), .int .u32 (ti : Int)] w (udpPost l fi ti w) := by
  go_enter Try.func25, Try.ntmps25
  have hmf : ∀ (fn : Fn) (first cap : Array Value) (w : World), (Instr.makeFunc fn first cap).run Try.prog w = .ok (.func fn first cap) w := fun _ _ _ _ => rfl
  go_wp2_with fail
  have hs0 := (((Bk.new w 9 #[.string (bs l)]).alloc (.cells #[.int .u32 (fi : Int)] 23)).alloc (.cells #[.int .u32 (ti : Int)] 23)).alloc (.cells zcUdp 37)
  have hi0 := ((Bk.new (w.alloc (.cells #[.string (bs l)] 9)) 23 #[.int .u32 (fi : Int)]).alloc (.cells #[.int .u32 (ti : Int)] 23)).alloc (.cells zcUdp 37)
  have ht0 := (Bk.new ((w.alloc (.cells #[.string (bs l)] 9)).alloc (.cells #[.int .u32 (fi : Int)] 23)) 23 #[.int .u32 (ti : Int)]).alloc (.cells zcUdp 37)
  have hx0 := Bk.new (((w.alloc (.cells #[.string (bs l)] 9)).alloc (.cells #[.int .u32 (fi : Int)] 23)).alloc (.cells #[.int .u32 (ti : Int)] 23)) 37 zcUdp
  simp only [World.size_alloc] at hs0 hi0 ht0 hx0
  have hf0 : Fr noB w ((((w.alloc (.cells #[.string (bs l)] 9)).alloc (.cells #[.int .u32 (fi : Int)] 23)).alloc (.cells #[.int .u32 (ti : Int)] 23)).alloc (.cells zcUdp 37)) := ((((Fr.refl _ _).alloc _).alloc _).alloc _).alloc _
  unfold zcUdp at hs0 hi0 ht0 hx0 hf0
  generalize (((w.alloc (.cells #[.string (bs l)] 9)).alloc (.cells #[.int .u32 (fi : Int)] 23)).alloc (.cells #[.int .u32 (ti : Int)] 23)).alloc (.cells #[.int .u16 0, .int .u16 0, .string ⟨#[]⟩] 37) = w1 at *
  refine (udpRead l fi ti w.heap.size (w.heap.size + 1) (w.heap.size + 1 + 1) _ hfi hti hs0 hi0 ht0 hl).mono ?_
  rintro e w2 ⟨rfl, hf1⟩
  have hx1 := hx0.keep hf1 (fun x => x)
  have hsz := Lib.hid (udpC_size (readUDP l fi ti).1)
  have hin := Lib.hid (udp_info (readUDP l fi ti).1)
  have hon := Lib.hid (udpC_one (readUDP l fi ti).1)
  generalize hr : readUDP l fi ti = r at *
  have Hr := Lib.hid hr
  clear hr
  generalize hc : udpC r.1 = c at *
  have Hc := Lib.hid hc
  clear hc
  go_wp2_with ((refine wpList_store_bk rfl 37 (.tmp 6) (.tmp 11) rfl (w.heap.size + 1 + 1 + 1) _ _ c rfl rfl hx1 hsz.out hin.out hon.out ?_); intro w9 hx9 hf9)
  refine bodyPost_ret (results_row_tmp Try.results25 _ w9 (w.heap.size + 1 + 1 + 1) _ c _ _ rfl rfl hx9 Try.underlying37 rfl hin.out) rfl ?_
  exact ⟨by rw [Hr.out, Hc.out]; rfl, (hf0.none hf1).trans' hf9 (fun b hb e => by unfold oneB at e; omega)⟩

theorem bootReadUDP (l : List UInt8) (fi ti : Nat) (w : World) (hfi : fi < 4294967296) (hti : ti < 4294967296) (hl : l.length ≤ 9223372036854775807) :
    Calls Try.prog 11 #[.string (bs l), .int .u32 (fi : Int), .int .u32 (ti : Int)] w (udpPost l fi ti w) := by
  go_enter Try.func11, Try.ntmps11
  go_wp2_with fail
  have hx0 := Bk.new w 37 zcUdp
  have hf0 : Fr noB w (w.alloc (.cells zcUdp 37)) := (Fr.refl _ _).alloc _
  unfold zcUdp at hx0 hf0
  generalize w.alloc (.cells #[.int .u16 0, .int .u16 0, .string ⟨#[]⟩] 37) = w1 at *
  refine (packetReadUDP l fi ti _ hfi hti hl).mono ?_
  rintro e w2 ⟨rfl, hf1⟩
  have hx1 := hx0.keep hf1 (fun x => x)
  have hsz := Lib.hid (udpC_size (readUDP l fi ti).1)
  have hin := Lib.hid (udp_info (readUDP l fi ti).1)
  have hon := Lib.hid (udpC_one (readUDP l fi ti).1)
  generalize hr : readUDP l fi ti = r at *
  have Hr := Lib.hid hr
  clear hr
  generalize hc : udpC r.1 = c at *
  have Hc := Lib.hid hc
  clear hc
  go_wp2_with ((refine wpList_store_bk rfl 37 (.tmp 6) (.tmp 12) rfl (w.heap.size) _ _ c rfl rfl hx1 hsz.out hin.out hon.out ?_); intro w9 hx9 hf9)
  refine bodyPost_ret (results_row_tmp Try.results11 _ w9 (w.heap.size) _ c _ _ rfl rfl hx9 Try.underlying37 rfl hin.out) rfl ?_
  exact ⟨by rw [Hr.out, Hc.out]; rfl, (hf0.none hf1).trans' hf9 (fun b hb e => by unfold oneB at e; omega)⟩

set_option maxRecDepth 20000 in
set_option maxHeartbeats 2000000 in
theorem refReadUDP (l : List UInt8) (fi ti : Nat) (w : World) (hfi : fi < 4294967296) (hti : ti < 4294967296) (hl : l.length ≤ 900000) :
    Calls Try.prog 12 #[.string (bs l), .int .u32 (fi : Int), .int .u32 (ti : Int)] w (udpPost l fi ti w) := by
  have hx0 := Bk.new w 37 zcUdp
  have hf0 : Fr noB w (w.alloc (.cells zcUdp 37)) := (Fr.refl _ _).alloc _
  unfold zcUdp at hx0 hf0
  by_cases h14 : l.length < 8
  · have hspec := Lib.hid (readUDP_short l fi ti h14)
    go_enter Try.func12, Try.ntmps12
    go_wp2_with ((refine wpList_store_bk rfl 37 (.tmp 6) (.tmp 12) rfl w.heap.size _ _ zcUdp rfl rfl hx0 rfl (by kernel_rfl) (by kernel_rfl) ?_); intro w9 hx9 hf9)
    refine bodyPost_ret (results_row_tmp Try.results12 _ w9 w.heap.size _ zcUdp _ _ rfl rfl hx9 Try.underlying37 rfl (by kernel_rfl)) rfl ?_
    exact ⟨by rw [hspec.out]; rfl, hf0.trans' hf9 (fun b hb e => by unfold oneB at e; omega)⟩
  · go_enter Try.func12, Try.ntmps12
    have h14' : ¬ (l.length : Int) < 8 := by omega
    have z6 : (6 : Int) ≤ l.length := by omega
    have z8 : (8 : Int) ≤ l.length := by omega
    have z2 : (2 : Int) ≤ l.length := by omega
    have z4 : (4 : Int) ≤ l.length := by omega
    have hspec : Hid (readUDP l fi ti = if num (sub l 4 6) < 8 then (udp0, 2)
      else if l.length < num (sub l 4 6) then (udp0, 1)
      else if num (sub l 6 8) ≠ 0 ∧ check (besideB fi ti (num (sub l 4 6)) ++ sub l 0 (num (sub l 4 6))) ≠ 0 then (udp0, 6)
      else (⟨num (sub l 0 2), num (sub l 2 4), sub l 8 (num (sub l 4 6))⟩, 0)) := by
      unfold Hid readUDP; rw [if_neg h14]
    go_upto_region 3 with fail
    generalize w.alloc (.cells #[.int .u16 0, .int .u16 0, .string ⟨#[]⟩] 37) = w1 at *
    go_wp2_with fail
    refine (refOf (sub l 4 6) _ (by have := sub_le l 4 6; omega)).mono ?_
    rintro e w2 ⟨rfl, rfl⟩
    have n2 : num (sub l 4 6) < 65536 := by have h := num_le (sub l 4 6); rw [sub_length l 4 6 (by omega)] at h; exact h
    generalize num (sub l 4 6) = n at *
    clear h14
    by_cases t4 : n < 8
    · have T4 := Lib.hid t4
      have b4 : (n : Int) < 8 := by omega
      clear t4
      go_wp2_with ((refine wpList_store_bk rfl 37 (.tmp 6) (.tmp 18) rfl w.heap.size _ _ zcUdp rfl rfl hx0 rfl (by kernel_rfl) (by kernel_rfl) ?_); intro w9 hx9 hf9)
      refine bodyPost_ret (results_row_tmp Try.results12 _ w9 w.heap.size _ zcUdp _ _ rfl rfl hx9 Try.underlying37 rfl (by kernel_rfl)) rfl ?_
      exact ⟨by rw [hspec.out, if_pos T4.out]; rfl, hf0.trans' hf9 (fun b hb e => by unfold oneB at e; omega)⟩
    have T4 := Lib.hid t4
    have b4 : ¬ (n : Int) < 8 := by omega
    clear t4
    by_cases t5 : l.length < n
    · have T5 := Lib.hid t5
      have b5 : (l.length : Int) < (n : Int) := by omega
      clear t5
      go_wp2_with ((refine wpList_store_bk rfl 37 (.tmp 6) (.tmp 23) rfl w.heap.size _ _ zcUdp rfl rfl hx0 rfl (by kernel_rfl) (by kernel_rfl) ?_); intro w9 hx9 hf9)
      refine bodyPost_ret (results_row_tmp Try.results12 _ w9 w.heap.size _ zcUdp _ _ rfl rfl hx9 Try.underlying37 rfl (by kernel_rfl)) rfl ?_
      exact ⟨by rw [hspec.out, if_neg T4.out, if_pos T5.out]; rfl, hf0.trans' hf9 (fun b hb e => by unfold oneB at e; omega)⟩
    have T5 := Lib.hid t5
    have b5 : ¬ (l.length : Int) < (n : Int) := by omega
    clear t5
    go_upto_if 22 with fail
    go_cut [6, 7] from 9 to 22 (fun a b wx => a = .pointer (some ⟨w.heap.size, 0, none⟩) ∧ b = .int .i64 0 ∧ wx = w1)
    case first =>
      go_wp2_with fail
      go_meet
      case rel => exact ⟨rfl, rfl, rfl⟩
    case rest =>
    obtain ⟨rfl, rfl, rfl⟩ := hcut
    have b50 : (n : Int) ≤ (l.length : Int) := by omega
    have b00 : (0 : Int) ≤ (n : Int) := by omega
    go_upto_region 8 with fail
    obtain ⟨w1, rfl⟩ : ∃ w1, w1 = wc := ⟨_, rfl⟩
    go_cut [39] from 9 to 38 (fun c wx => c = .bool (decide (num (sub l 6 8) ≠ 0 ∧ check (besideB fi ti n ++ sub l 0 n) ≠ 0)) ∧ Fr noB w1 wx)
    case first =>
      by_cases h0 : num (sub l 6 8) = 0
      · have B27 : ((num (sub l 6 8) : Int) != 0) = false := by simp; omega
        have H0 := Lib.hid h0
        clear h0
        obtain ⟨V, hV⟩ : ∃ V : Nat → Value, V = (fun j => match j with | 0 => .string (bs l) | 1 => .string (bs (sub l 6 8)) | 2 => .int .i64 (num (sub l 6 8) : Int) | 3 => .bool false | 4 => .bool false | 5 => undef | 6 => undef | 7 => undef | 8 => undef | 9 => undef | 10 => undef | 11 => undef | 12 => undef | 13 => undef | 14 => undef | 15 => .bool false | _ => undef) := ⟨_, rfl⟩
        have v0 : V 0 = .string (bs l) := congrFun hV 0
        have v1 : V 1 = .string (bs (sub l 6 8)) := congrFun hV 1
        have v2 : V 2 = .int .i64 (num (sub l 6 8) : Int) := congrFun hV 2
        have v3 : V 3 = .bool false := congrFun hV 3
        have v4 : V 4 = .bool false := congrFun hV 4
        have v5 : V 5 = undef := congrFun hV 5
        have v6 : V 6 = undef := congrFun hV 6
        have v7 : V 7 = undef := congrFun hV 7
        have v8 : V 8 = undef := congrFun hV 8
        have v9 : V 9 = undef := congrFun hV 9
        have v10 : V 10 = undef := congrFun hV 10
        have v11 : V 11 = undef := congrFun hV 11
        have v12 : V 12 = undef := congrFun hV 12
        have v13 : V 13 = undef := congrFun hV 13
        have v14 : V 14 = undef := congrFun hV 14
        have v15 : V 15 = .bool false := congrFun hV 15
        clear hV
        refine wp_region_ssag (by kernel_rfl) (by kernel_rfl)
          (fun u => ⟨#[.string (bs l), .int .u32 (fi : Int), .int .u32 (ti : Int), undef, undef, undef, .pointer (some ⟨w.heap.size, 0, none⟩), .int .i64 0, .int .i64 (n : Int), u9, u10, u11, u12, u13, u14, u15, u16, u17, u18, u19, u20, u21, u22, u23, u 0, u 1, u 2, u 3, u 4, u 5, u 6, u 7, u 8, u 9, u 10, u 11, u 12, u 13, u 14, u 15, undef, undef, undef, undef, undef, undef, undef, undef, undef, undef, undef, undef, undef], []⟩)
          (fun j v w3 => v = V j)
          (fun L u w3 => Fr noB w1 w3) (fun j => undef) ((Fr.refl _ _).drew) ?_ ?_
        · rintro L u w3 i o hG hΦ ho hL hd K hK
          match i, ho with
          | 0, ho =>
            simp at ho; subst ho
            clear hΦ hd
            refine .inl ⟨rfl, ?_⟩
            go_simp
            exact hK _ _ v0.symm hG (fun _ _ _ h => h)
          | 1, ho =>
            simp at ho; subst ho
            have hu0 : u 0 = V 0 := hΦ 0 (hd ⟨0, .data⟩ (by simp) (by rfl))
            rw [v0] at hu0
            clear hΦ hd
            have hx : ∃ x, u = (upd x 0 (.string (bs l))) := ⟨u, by rw [← upd_self hu0]⟩
            clear hu0
            obtain ⟨x, rfl⟩ := hx
            simp only [upd, reduceIte, Nat.reduceEqDiff]
            refine .inl ⟨rfl, ?_⟩
            go_simp
            exact hK _ _ v1.symm hG (fun _ _ _ h => h)
          | 2, ho =>
            simp at ho; subst ho
            have hu1 : u 1 = V 1 := hΦ 1 (hd ⟨1, .data⟩ (by simp) (by rfl))
            rw [v1] at hu1
            clear hΦ hd
            have hG0 := hG
            have hx : ∃ x, u = (upd x 1 (.string (bs (sub l 6 8)))) := ⟨u, by rw [← upd_self hu1]⟩
            clear hu1
            obtain ⟨x, rfl⟩ := hx
            simp only [upd, reduceIte, Nat.reduceEqDiff]
            refine .inl ⟨rfl, ?_⟩
            go_simp
            refine (refOf (sub l 6 8) w3 (by have := sub_le l 6 8; omega)).mono ?_
            rintro e w4 ⟨rfl, rfl⟩
            exact hK _ _ v2.symm hG0 (fun _ _ _ h => h)
          | 3, ho =>
            simp at ho; subst ho
            have hu2 : u 2 = V 2 := hΦ 2 (hd ⟨2, .data⟩ (by simp) (by rfl))
            rw [v2] at hu2
            clear hΦ hd
            have hx : ∃ x, u = (upd x 2 (.int .i64 (num (sub l 6 8) : Int))) := ⟨u, by rw [← upd_self hu2]⟩
            clear hu2
            obtain ⟨x, rfl⟩ := hx
            simp only [upd, reduceIte, Nat.reduceEqDiff]
            refine .inl ⟨rfl, ?_⟩
            go_simp
            exact hK _ _ v3.symm hG (fun _ _ _ h => h)
          | 4, ho =>
            simp at ho; subst ho
            have hu3 : u 3 = V 3 := hΦ 3 (hd ⟨3, .data⟩ (by simp) (by rfl))
            rw [v3] at hu3
            clear hΦ hd
            have hx : ∃ x, u = (upd x 3 (.bool false)) := ⟨u, by rw [← upd_self hu3]⟩
            clear hu3
            obtain ⟨x, rfl⟩ := hx
            simp only [upd, reduceIte, Nat.reduceEqDiff]
            refine .inl ⟨rfl, ?_⟩
            go_simp
            exact hK _ _ v4.symm hG (fun _ _ _ h => h)
          | 5, ho =>
            simp at ho; subst ho
            have hu4 : u 4 = V 4 := hΦ 4 (hd ⟨4, .guard⟩ (by simp) (by rfl))
            rw [v4] at hu4
            clear hΦ hd
            have hx : ∃ x, u = (upd x 4 (.bool false)) := ⟨u, by rw [← upd_self hu4]⟩
            clear hu4
            obtain ⟨x, rfl⟩ := hx
            simp only [upd, reduceIte, Nat.reduceEqDiff]
            exact .inr ⟨rfl, hK undef _ v5.symm hG (fun _ _ _ h => h)⟩
          | 6, ho =>
            simp at ho; subst ho
            have hu4 : u 4 = V 4 := hΦ 4 (hd ⟨4, .guard⟩ (by simp) (by rfl))
            rw [v4] at hu4
            clear hΦ hd
            have hx : ∃ x, u = (upd x 4 (.bool false)) := ⟨u, by rw [← upd_self hu4]⟩
            clear hu4
            obtain ⟨x, rfl⟩ := hx
            simp only [upd, reduceIte, Nat.reduceEqDiff]
            exact .inr ⟨rfl, hK undef _ v6.symm hG (fun _ _ _ h => h)⟩
          | 7, ho =>
            simp at ho; subst ho
            have hu4 : u 4 = V 4 := hΦ 4 (hd ⟨4, .guard⟩ (by simp) (by rfl))
            rw [v4] at hu4
            clear hΦ hd
            have hx : ∃ x, u = (upd x 4 (.bool false)) := ⟨u, by rw [← upd_self hu4]⟩
            clear hu4
            obtain ⟨x, rfl⟩ := hx
            simp only [upd, reduceIte, Nat.reduceEqDiff]
            exact .inr ⟨rfl, hK undef _ v7.symm hG (fun _ _ _ h => h)⟩
          | 8, ho =>
            simp at ho; subst ho
            have hu5 : u 5 = V 5 := hΦ 5 (hd ⟨5, .data⟩ (by simp) (by rfl))
            rw [v5] at hu5
            have hu6 : u 6 = V 6 := hΦ 6 (hd ⟨6, .data⟩ (by simp) (by rfl))
            rw [v6] at hu6
            have hu7 : u 7 = V 7 := hΦ 7 (hd ⟨7, .data⟩ (by simp) (by rfl))
            rw [v7] at hu7
            have hu4 : u 4 = V 4 := hΦ 4 (hd ⟨4, .guard⟩ (by simp) (by rfl))
            rw [v4] at hu4
            clear hΦ hd
            have hx : ∃ x, u = (upd (upd (upd (upd x 5 (undef)) 6 (undef)) 7 (undef)) 4 (.bool false)) := ⟨u, by rw [← upd_self hu5, ← upd_self hu6, ← upd_self hu7, ← upd_self hu4]⟩
            clear hu5 hu6 hu7 hu4
            obtain ⟨x, rfl⟩ := hx
            simp only [upd, reduceIte, Nat.reduceEqDiff]
            exact .inr ⟨rfl, hK undef _ v8.symm hG (fun _ _ _ h => h)⟩
          | 9, ho =>
            simp at ho; subst ho
            have hu4 : u 4 = V 4 := hΦ 4 (hd ⟨4, .guard⟩ (by simp) (by rfl))
            rw [v4] at hu4
            clear hΦ hd
            have hx : ∃ x, u = (upd x 4 (.bool false)) := ⟨u, by rw [← upd_self hu4]⟩
            clear hu4
            obtain ⟨x, rfl⟩ := hx
            simp only [upd, reduceIte, Nat.reduceEqDiff]
            exact .inr ⟨rfl, hK undef _ v9.symm hG (fun _ _ _ h => h)⟩
          | 10, ho =>
            simp at ho; subst ho
            have hu4 : u 4 = V 4 := hΦ 4 (hd ⟨4, .guard⟩ (by simp) (by rfl))
            rw [v4] at hu4
            clear hΦ hd
            have hx : ∃ x, u = (upd x 4 (.bool false)) := ⟨u, by rw [← upd_self hu4]⟩
            clear hu4
            obtain ⟨x, rfl⟩ := hx
            simp only [upd, reduceIte, Nat.reduceEqDiff]
            exact .inr ⟨rfl, hK undef _ v10.symm hG (fun _ _ _ h => h)⟩
          | 11, ho =>
            simp at ho; subst ho
            have hu9 : u 9 = V 9 := hΦ 9 (hd ⟨9, .data⟩ (by simp) (by rfl))
            rw [v9] at hu9
            have hu10 : u 10 = V 10 := hΦ 10 (hd ⟨10, .data⟩ (by simp) (by rfl))
            rw [v10] at hu10
            have hu4 : u 4 = V 4 := hΦ 4 (hd ⟨4, .guard⟩ (by simp) (by rfl))
            rw [v4] at hu4
            clear hΦ hd
            have hx : ∃ x, u = (upd (upd (upd x 9 (undef)) 10 (undef)) 4 (.bool false)) := ⟨u, by rw [← upd_self hu9, ← upd_self hu10, ← upd_self hu4]⟩
            clear hu9 hu10 hu4
            obtain ⟨x, rfl⟩ := hx
            simp only [upd, reduceIte, Nat.reduceEqDiff]
            exact .inr ⟨rfl, hK undef _ v11.symm hG (fun _ _ _ h => h)⟩
          | 12, ho =>
            simp at ho; subst ho
            have hu8 : u 8 = V 8 := hΦ 8 (hd ⟨8, .data⟩ (by simp) (by rfl))
            rw [v8] at hu8
            have hu11 : u 11 = V 11 := hΦ 11 (hd ⟨11, .data⟩ (by simp) (by rfl))
            rw [v11] at hu11
            have hu4 : u 4 = V 4 := hΦ 4 (hd ⟨4, .guard⟩ (by simp) (by rfl))
            rw [v4] at hu4
            clear hΦ hd
            have hx : ∃ x, u = (upd (upd (upd x 8 (undef)) 11 (undef)) 4 (.bool false)) := ⟨u, by rw [← upd_self hu8, ← upd_self hu11, ← upd_self hu4]⟩
            clear hu8 hu11 hu4
            obtain ⟨x, rfl⟩ := hx
            simp only [upd, reduceIte, Nat.reduceEqDiff]
            exact .inr ⟨rfl, hK undef _ v12.symm hG (fun _ _ _ h => h)⟩
          | 13, ho =>
            simp at ho; subst ho
            have hu12 : u 12 = V 12 := hΦ 12 (hd ⟨12, .data⟩ (by simp) (by rfl))
            rw [v12] at hu12
            have hu4 : u 4 = V 4 := hΦ 4 (hd ⟨4, .guard⟩ (by simp) (by rfl))
            rw [v4] at hu4
            clear hΦ hd
            have hx : ∃ x, u = (upd (upd x 12 (undef)) 4 (.bool false)) := ⟨u, by rw [← upd_self hu12, ← upd_self hu4]⟩
            clear hu12 hu4
            obtain ⟨x, rfl⟩ := hx
            simp only [upd, reduceIte, Nat.reduceEqDiff]
            exact .inr ⟨rfl, hK undef _ v13.symm hG (fun _ _ _ h => h)⟩
          | 14, ho =>
            simp at ho; subst ho
            have hu13 : u 13 = V 13 := hΦ 13 (hd ⟨13, .data⟩ (by simp) (by rfl))
            rw [v13] at hu13
            have hu4 : u 4 = V 4 := hΦ 4 (hd ⟨4, .guard⟩ (by simp) (by rfl))
            rw [v4] at hu4
            clear hΦ hd
            have hx : ∃ x, u = (upd (upd x 13 (undef)) 4 (.bool false)) := ⟨u, by rw [← upd_self hu13, ← upd_self hu4]⟩
            clear hu13 hu4
            obtain ⟨x, rfl⟩ := hx
            simp only [upd, reduceIte, Nat.reduceEqDiff]
            exact .inr ⟨rfl, hK undef _ v14.symm hG (fun _ _ _ h => h)⟩
          | 15, ho =>
            simp at ho; subst ho
            have hu4 : u 4 = V 4 := hΦ 4 (hd ⟨4, .data⟩ (by simp) (by rfl))
            rw [v4] at hu4
            have hu14 : u 14 = V 14 := hΦ 14 (hd ⟨14, .data⟩ (by simp) (by rfl))
            rw [v14] at hu14
            clear hΦ hd
            have hx : ∃ x, u = (upd (upd x 4 (.bool false)) 14 (undef)) := ⟨u, by rw [← upd_self hu4, ← upd_self hu14]⟩
            clear hu4 hu14
            obtain ⟨x, rfl⟩ := hx
            simp only [upd, reduceIte, Nat.reduceEqDiff]
            refine .inl ⟨rfl, ?_⟩
            go_simp
            exact hK _ _ v15.symm hG (fun _ _ _ h => h)
        · rintro u w3 hu L hall hG
          have hG0 := hG
          have h15 : u 15 = V 15 := hu 15 (by simp)
          rw [v15] at h15
          clear hu hall
          rw [h15]
          go_wp2_with fail
          go_meet
          case rel => exact ⟨by simp [H0.out], hG0⟩
      · have B27 : ((num (sub l 6 8) : Int) != 0) = true := by simp; omega
        have H0 := Lib.hid h0
        clear h0
        by_cases hc : check (besideB fi ti n ++ sub l 0 n) = 0
        · have HC := Lib.hid hc
          clear hc
          obtain ⟨x1, Hx1⟩ : ∃ s : List UInt8, Hid (s = besideB fi ti n) := ⟨besideB fi ti n, Lib.hid rfl⟩
          obtain ⟨x2, Hx2⟩ : ∃ s : List UInt8, Hid (s = sub l 0 n) := ⟨sub l 0 n, Lib.hid rfl⟩
          obtain ⟨x3, Hx3⟩ : ∃ s : List UInt8, Hid (s = x1 ++ x2) := ⟨x1 ++ x2, Lib.hid rfl⟩
          have Lx1 : Hid (x1.length ≤ 12) := by unfold Hid; rw [Hx1.out]; first | (rw [beside_length]; omega) | (have hsl := sub_le l 0 n; omega) | (simp <;> omega)
          have Lx2 : Hid (x2.length ≤ 65536) := by have l_x1 := Lx1.out; unfold Hid; rw [Hx2.out]; first | (rw [beside_length]; omega) | (have hsl := sub_le l 0 n; omega) | (simp <;> omega)
          have Lx3 : Hid (x3.length ≤ 65548) := by have l_x1 := Lx1.out; have l_x2 := Lx2.out; unfold Hid; rw [Hx3.out]; first | (rw [beside_length]; omega) | (have hsl := sub_le l 0 n; omega) | (simp <;> omega)
          obtain ⟨V, hV⟩ : ∃ V : Nat → Value, V = (fun j => match j with | 0 => .string (bs l) | 1 => .string (bs (sub l 6 8)) | 2 => .int .i64 (num (sub l 6 8) : Int) | 3 => .bool true | 4 => .bool true | 5 => .int .u32 (fi : Int) | 6 => .int .u32 (ti : Int) | 7 => .int .i64 (n : Int) | 8 => .string (bs x1) | 9 => .string (bs l) | 10 => .int .i64 (n : Int) | 11 => .string (bs x2) | 12 => .string (bs x3) | 13 => .int .i64 (check x3 : Int) | 14 => .bool false | 15 => .bool false | _ => undef) := ⟨_, rfl⟩
          have v0 : V 0 = .string (bs l) := congrFun hV 0
          have v1 : V 1 = .string (bs (sub l 6 8)) := congrFun hV 1
          have v2 : V 2 = .int .i64 (num (sub l 6 8) : Int) := congrFun hV 2
          have v3 : V 3 = .bool true := congrFun hV 3
          have v4 : V 4 = .bool true := congrFun hV 4
          have v5 : V 5 = .int .u32 (fi : Int) := congrFun hV 5
          have v6 : V 6 = .int .u32 (ti : Int) := congrFun hV 6
          have v7 : V 7 = .int .i64 (n : Int) := congrFun hV 7
          have v8 : V 8 = .string (bs x1) := congrFun hV 8
          have v9 : V 9 = .string (bs l) := congrFun hV 9
          have v10 : V 10 = .int .i64 (n : Int) := congrFun hV 10
          have v11 : V 11 = .string (bs x2) := congrFun hV 11
          have v12 : V 12 = .string (bs x3) := congrFun hV 12
          have v13 : V 13 = .int .i64 (check x3 : Int) := congrFun hV 13
          have v14 : V 14 = .bool false := congrFun hV 14
          have v15 : V 15 = .bool false := congrFun hV 15
          clear hV
          refine wp_region_ssag (by kernel_rfl) (by kernel_rfl)
            (fun u => ⟨#[.string (bs l), .int .u32 (fi : Int), .int .u32 (ti : Int), undef, undef, undef, .pointer (some ⟨w.heap.size, 0, none⟩), .int .i64 0, .int .i64 (n : Int), u9, u10, u11, u12, u13, u14, u15, u16, u17, u18, u19, u20, u21, u22, u23, u 0, u 1, u 2, u 3, u 4, u 5, u 6, u 7, u 8, u 9, u 10, u 11, u 12, u 13, u 14, u 15, undef, undef, undef, undef, undef, undef, undef, undef, undef, undef, undef, undef, undef], []⟩)
            (fun j v w3 => v = V j)
            (fun L u w3 => Fr noB w1 w3) (fun j => undef) ((Fr.refl _ _).drew) ?_ ?_
          · rintro L u w3 i o hG hΦ ho hL hd K hK
            match i, ho with
            | 0, ho =>
              simp at ho; subst ho
              clear hΦ hd
              refine .inl ⟨rfl, ?_⟩
              go_simp
              exact hK _ _ v0.symm hG (fun _ _ _ h => h)
            | 1, ho =>
              simp at ho; subst ho
              have hu0 : u 0 = V 0 := hΦ 0 (hd ⟨0, .data⟩ (by simp) (by rfl))
              rw [v0] at hu0
              clear hΦ hd
              have hx : ∃ x, u = (upd x 0 (.string (bs l))) := ⟨u, by rw [← upd_self hu0]⟩
              clear hu0
              obtain ⟨x, rfl⟩ := hx
              simp only [upd, reduceIte, Nat.reduceEqDiff]
              refine .inl ⟨rfl, ?_⟩
              go_simp
              exact hK _ _ v1.symm hG (fun _ _ _ h => h)
            | 2, ho =>
              simp at ho; subst ho
              have hu1 : u 1 = V 1 := hΦ 1 (hd ⟨1, .data⟩ (by simp) (by rfl))
              rw [v1] at hu1
              clear hΦ hd
              have hG0 := hG
              have hx : ∃ x, u = (upd x 1 (.string (bs (sub l 6 8)))) := ⟨u, by rw [← upd_self hu1]⟩
              clear hu1
              obtain ⟨x, rfl⟩ := hx
              simp only [upd, reduceIte, Nat.reduceEqDiff]
              refine .inl ⟨rfl, ?_⟩
              go_simp
              refine (refOf (sub l 6 8) w3 (by have := sub_le l 6 8; omega)).mono ?_
              rintro e w4 ⟨rfl, rfl⟩
              exact hK _ _ v2.symm hG0 (fun _ _ _ h => h)
            | 3, ho =>
              simp at ho; subst ho
              have hu2 : u 2 = V 2 := hΦ 2 (hd ⟨2, .data⟩ (by simp) (by rfl))
              rw [v2] at hu2
              clear hΦ hd
              have hx : ∃ x, u = (upd x 2 (.int .i64 (num (sub l 6 8) : Int))) := ⟨u, by rw [← upd_self hu2]⟩
              clear hu2
              obtain ⟨x, rfl⟩ := hx
              simp only [upd, reduceIte, Nat.reduceEqDiff]
              refine .inl ⟨rfl, ?_⟩
              go_simp
              exact hK _ _ v3.symm hG (fun _ _ _ h => h)
            | 4, ho =>
              simp at ho; subst ho
              have hu3 : u 3 = V 3 := hΦ 3 (hd ⟨3, .data⟩ (by simp) (by rfl))
              rw [v3] at hu3
              clear hΦ hd
              have hx : ∃ x, u = (upd x 3 (.bool true)) := ⟨u, by rw [← upd_self hu3]⟩
              clear hu3
              obtain ⟨x, rfl⟩ := hx
              simp only [upd, reduceIte, Nat.reduceEqDiff]
              refine .inl ⟨rfl, ?_⟩
              go_simp
              exact hK _ _ v4.symm hG (fun _ _ _ h => h)
            | 5, ho =>
              simp at ho; subst ho
              have hu4 : u 4 = V 4 := hΦ 4 (hd ⟨4, .guard⟩ (by simp) (by rfl))
              rw [v4] at hu4
              clear hΦ hd
              have hx : ∃ x, u = (upd x 4 (.bool true)) := ⟨u, by rw [← upd_self hu4]⟩
              clear hu4
              obtain ⟨x, rfl⟩ := hx
              simp only [upd, reduceIte, Nat.reduceEqDiff]
              refine .inl ⟨rfl, ?_⟩
              go_simp
              exact hK _ _ v5.symm hG (fun _ _ _ h => h)
            | 6, ho =>
              simp at ho; subst ho
              have hu4 : u 4 = V 4 := hΦ 4 (hd ⟨4, .guard⟩ (by simp) (by rfl))
              rw [v4] at hu4
              clear hΦ hd
              have hx : ∃ x, u = (upd x 4 (.bool true)) := ⟨u, by rw [← upd_self hu4]⟩
              clear hu4
              obtain ⟨x, rfl⟩ := hx
              simp only [upd, reduceIte, Nat.reduceEqDiff]
              refine .inl ⟨rfl, ?_⟩
              go_simp
              exact hK _ _ v6.symm hG (fun _ _ _ h => h)
            | 7, ho =>
              simp at ho; subst ho
              have hu4 : u 4 = V 4 := hΦ 4 (hd ⟨4, .guard⟩ (by simp) (by rfl))
              rw [v4] at hu4
              clear hΦ hd
              have hx : ∃ x, u = (upd x 4 (.bool true)) := ⟨u, by rw [← upd_self hu4]⟩
              clear hu4
              obtain ⟨x, rfl⟩ := hx
              simp only [upd, reduceIte, Nat.reduceEqDiff]
              refine .inl ⟨rfl, ?_⟩
              go_simp
              exact hK _ _ v7.symm hG (fun _ _ _ h => h)
            | 8, ho =>
              simp at ho; subst ho
              have hu5 : u 5 = V 5 := hΦ 5 (hd ⟨5, .data⟩ (by simp) (by rfl))
              rw [v5] at hu5
              have hu6 : u 6 = V 6 := hΦ 6 (hd ⟨6, .data⟩ (by simp) (by rfl))
              rw [v6] at hu6
              have hu7 : u 7 = V 7 := hΦ 7 (hd ⟨7, .data⟩ (by simp) (by rfl))
              rw [v7] at hu7
              have hu4 : u 4 = V 4 := hΦ 4 (hd ⟨4, .guard⟩ (by simp) (by rfl))
              rw [v4] at hu4
              clear hΦ hd
              have hG0 := hG
              have hx : ∃ x, u = (upd (upd (upd (upd x 5 (.int .u32 (fi : Int))) 6 (.int .u32 (ti : Int))) 7 (.int .i64 (n : Int))) 4 (.bool true)) := ⟨u, by rw [← upd_self hu5, ← upd_self hu6, ← upd_self hu7, ← upd_self hu4]⟩
              clear hu5 hu6 hu7 hu4
              obtain ⟨x, rfl⟩ := hx
              simp only [upd, reduceIte, Nat.reduceEqDiff]
              refine .inl ⟨rfl, ?_⟩
              go_simp
              refine (refBeside fi ti (n : Int) w3 hfi hti (by omega) (by omega)).mono ?_
              rintro e w4 ⟨rfl, hf4⟩
              rw [Int.toNat_natCast, ← Hx1.out]
              exact hK _ _ v8.symm (hG0.none hf4) (fun _ _ _ h => h)
            | 9, ho =>
              simp at ho; subst ho
              have hu4 : u 4 = V 4 := hΦ 4 (hd ⟨4, .guard⟩ (by simp) (by rfl))
              rw [v4] at hu4
              clear hΦ hd
              have hx : ∃ x, u = (upd x 4 (.bool true)) := ⟨u, by rw [← upd_self hu4]⟩
              clear hu4
              obtain ⟨x, rfl⟩ := hx
              simp only [upd, reduceIte, Nat.reduceEqDiff]
              refine .inl ⟨rfl, ?_⟩
              go_simp
              exact hK _ _ v9.symm hG (fun _ _ _ h => h)
            | 10, ho =>
              simp at ho; subst ho
              have hu4 : u 4 = V 4 := hΦ 4 (hd ⟨4, .guard⟩ (by simp) (by rfl))
              rw [v4] at hu4
              clear hΦ hd
              have hx : ∃ x, u = (upd x 4 (.bool true)) := ⟨u, by rw [← upd_self hu4]⟩
              clear hu4
              obtain ⟨x, rfl⟩ := hx
              simp only [upd, reduceIte, Nat.reduceEqDiff]
              refine .inl ⟨rfl, ?_⟩
              go_simp
              exact hK _ _ v10.symm hG (fun _ _ _ h => h)
            | 11, ho =>
              simp at ho; subst ho
              have hu9 : u 9 = V 9 := hΦ 9 (hd ⟨9, .data⟩ (by simp) (by rfl))
              rw [v9] at hu9
              have hu10 : u 10 = V 10 := hΦ 10 (hd ⟨10, .data⟩ (by simp) (by rfl))
              rw [v10] at hu10
              have hu4 : u 4 = V 4 := hΦ 4 (hd ⟨4, .guard⟩ (by simp) (by rfl))
              rw [v4] at hu4
              clear hΦ hd
              have hx : ∃ x, u = (upd (upd (upd x 9 (.string (bs l))) 10 (.int .i64 (n : Int))) 4 (.bool true)) := ⟨u, by rw [← upd_self hu9, ← upd_self hu10, ← upd_self hu4]⟩
              clear hu9 hu10 hu4
              obtain ⟨x, rfl⟩ := hx
              simp only [upd, reduceIte, Nat.reduceEqDiff]
              refine .inl ⟨rfl, ?_⟩
              go_simp
              rw [← Hx2.out]
              exact hK _ _ v11.symm hG (fun _ _ _ h => h)
            | 12, ho =>
              simp at ho; subst ho
              have hu8 : u 8 = V 8 := hΦ 8 (hd ⟨8, .data⟩ (by simp) (by rfl))
              rw [v8] at hu8
              have hu11 : u 11 = V 11 := hΦ 11 (hd ⟨11, .data⟩ (by simp) (by rfl))
              rw [v11] at hu11
              have hu4 : u 4 = V 4 := hΦ 4 (hd ⟨4, .guard⟩ (by simp) (by rfl))
              rw [v4] at hu4
              clear hΦ hd
              have hx : ∃ x, u = (upd (upd (upd x 8 (.string (bs x1))) 11 (.string (bs x2))) 4 (.bool true)) := ⟨u, by rw [← upd_self hu8, ← upd_self hu11, ← upd_self hu4]⟩
              clear hu8 hu11 hu4
              obtain ⟨x, rfl⟩ := hx
              simp only [upd, reduceIte, Nat.reduceEqDiff]
              refine .inl ⟨rfl, ?_⟩
              have hln : ¬ 9223372036854775807 < x1.length + x2.length := by have l1 := Lx1.out; have l2 := Lx2.out; omega
              go_simp
              rw [← Hx3.out]
              exact hK _ _ v12.symm hG (fun _ _ _ h => h)
            | 13, ho =>
              simp at ho; subst ho
              have hu12 : u 12 = V 12 := hΦ 12 (hd ⟨12, .data⟩ (by simp) (by rfl))
              rw [v12] at hu12
              have hu4 : u 4 = V 4 := hΦ 4 (hd ⟨4, .guard⟩ (by simp) (by rfl))
              rw [v4] at hu4
              clear hΦ hd
              have hG0 := hG
              have hx : ∃ x, u = (upd (upd x 12 (.string (bs x3))) 4 (.bool true)) := ⟨u, by rw [← upd_self hu12, ← upd_self hu4]⟩
              clear hu12 hu4
              obtain ⟨x, rfl⟩ := hx
              simp only [upd, reduceIte, Nat.reduceEqDiff]
              refine .inl ⟨rfl, ?_⟩
              go_simp
              refine (refCheck_any x3 w3 (by have := Lx3.out; omega)).mono ?_
              rintro e w4 ⟨rfl, hf4⟩
              exact hK _ _ v13.symm (hG0.none hf4) (fun _ _ _ h => h)
            | 14, ho =>
              simp at ho; subst ho
              have hu13 : u 13 = V 13 := hΦ 13 (hd ⟨13, .data⟩ (by simp) (by rfl))
              rw [v13] at hu13
              have hu4 : u 4 = V 4 := hΦ 4 (hd ⟨4, .guard⟩ (by simp) (by rfl))
              rw [v4] at hu4
              clear hΦ hd
              have hx : ∃ x, u = (upd (upd x 13 (.int .i64 (check x3 : Int))) 4 (.bool true)) := ⟨u, by rw [← upd_self hu13, ← upd_self hu4]⟩
              clear hu13 hu4
              obtain ⟨x, rfl⟩ := hx
              simp only [upd, reduceIte, Nat.reduceEqDiff]
              refine .inl ⟨rfl, ?_⟩
              have hck : ((check x3 : Int) != 0) = false := by rw [Hx3.out, Hx1.out, Hx2.out, HC.out]; rfl
              go_simp
              exact hK _ _ v14.symm hG (fun _ _ _ h => h)
            | 15, ho =>
              simp at ho; subst ho
              have hu4 : u 4 = V 4 := hΦ 4 (hd ⟨4, .data⟩ (by simp) (by rfl))
              rw [v4] at hu4
              have hu14 : u 14 = V 14 := hΦ 14 (hd ⟨14, .data⟩ (by simp) (by rfl))
              rw [v14] at hu14
              clear hΦ hd
              have hx : ∃ x, u = (upd (upd x 4 (.bool true)) 14 (.bool false)) := ⟨u, by rw [← upd_self hu4, ← upd_self hu14]⟩
              clear hu4 hu14
              obtain ⟨x, rfl⟩ := hx
              simp only [upd, reduceIte, Nat.reduceEqDiff]
              refine .inl ⟨rfl, ?_⟩
              go_simp
              exact hK _ _ v15.symm hG (fun _ _ _ h => h)
          · rintro u w3 hu L hall hG
            have hG0 := hG
            have h15 : u 15 = V 15 := hu 15 (by simp)
            rw [v15] at h15
            clear hu hall
            rw [h15]
            go_wp2_with fail
            go_meet
            case rel => exact ⟨by simp [HC.out], hG0⟩
        · have HC := Lib.hid hc
          clear hc
          obtain ⟨x1, Hx1⟩ : ∃ s : List UInt8, Hid (s = besideB fi ti n) := ⟨besideB fi ti n, Lib.hid rfl⟩
          obtain ⟨x2, Hx2⟩ : ∃ s : List UInt8, Hid (s = sub l 0 n) := ⟨sub l 0 n, Lib.hid rfl⟩
          obtain ⟨x3, Hx3⟩ : ∃ s : List UInt8, Hid (s = x1 ++ x2) := ⟨x1 ++ x2, Lib.hid rfl⟩
          have Lx1 : Hid (x1.length ≤ 12) := by unfold Hid; rw [Hx1.out]; first | (rw [beside_length]; omega) | (have hsl := sub_le l 0 n; omega) | (simp <;> omega)
          have Lx2 : Hid (x2.length ≤ 65536) := by have l_x1 := Lx1.out; unfold Hid; rw [Hx2.out]; first | (rw [beside_length]; omega) | (have hsl := sub_le l 0 n; omega) | (simp <;> omega)
          have Lx3 : Hid (x3.length ≤ 65548) := by have l_x1 := Lx1.out; have l_x2 := Lx2.out; unfold Hid; rw [Hx3.out]; first | (rw [beside_length]; omega) | (have hsl := sub_le l 0 n; omega) | (simp <;> omega)
          obtain ⟨V, hV⟩ : ∃ V : Nat → Value, V = (fun j => match j with | 0 => .string (bs l) | 1 => .string (bs (sub l 6 8)) | 2 => .int .i64 (num (sub l 6 8) : Int) | 3 => .bool true | 4 => .bool true | 5 => .int .u32 (fi : Int) | 6 => .int .u32 (ti : Int) | 7 => .int .i64 (n : Int) | 8 => .string (bs x1) | 9 => .string (bs l) | 10 => .int .i64 (n : Int) | 11 => .string (bs x2) | 12 => .string (bs x3) | 13 => .int .i64 (check x3 : Int) | 14 => .bool true | 15 => .bool true | _ => undef) := ⟨_, rfl⟩
          have v0 : V 0 = .string (bs l) := congrFun hV 0
          have v1 : V 1 = .string (bs (sub l 6 8)) := congrFun hV 1
          have v2 : V 2 = .int .i64 (num (sub l 6 8) : Int) := congrFun hV 2
          have v3 : V 3 = .bool true := congrFun hV 3
          have v4 : V 4 = .bool true := congrFun hV 4
          have v5 : V 5 = .int .u32 (fi : Int) := congrFun hV 5
          have v6 : V 6 = .int .u32 (ti : Int) := congrFun hV 6
          have v7 : V 7 = .int .i64 (n : Int) := congrFun hV 7
          have v8 : V 8 = .string (bs x1) := congrFun hV 8
          have v9 : V 9 = .string (bs l) := congrFun hV 9
          have v10 : V 10 = .int .i64 (n : Int) := congrFun hV 10
          have v11 : V 11 = .string (bs x2) := congrFun hV 11
          have v12 : V 12 = .string (bs x3) := congrFun hV 12
          have v13 : V 13 = .int .i64 (check x3 : Int) := congrFun hV 13
          have v14 : V 14 = .bool true := congrFun hV 14
          have v15 : V 15 = .bool true := congrFun hV 15
          clear hV
          refine wp_region_ssag (by kernel_rfl) (by kernel_rfl)
            (fun u => ⟨#[.string (bs l), .int .u32 (fi : Int), .int .u32 (ti : Int), undef, undef, undef, .pointer (some ⟨w.heap.size, 0, none⟩), .int .i64 0, .int .i64 (n : Int), u9, u10, u11, u12, u13, u14, u15, u16, u17, u18, u19, u20, u21, u22, u23, u 0, u 1, u 2, u 3, u 4, u 5, u 6, u 7, u 8, u 9, u 10, u 11, u 12, u 13, u 14, u 15, undef, undef, undef, undef, undef, undef, undef, undef, undef, undef, undef, undef, undef], []⟩)
            (fun j v w3 => v = V j)
            (fun L u w3 => Fr noB w1 w3) (fun j => undef) ((Fr.refl _ _).drew) ?_ ?_
          · rintro L u w3 i o hG hΦ ho hL hd K hK
            match i, ho with
            | 0, ho =>
              simp at ho; subst ho
              clear hΦ hd
              refine .inl ⟨rfl, ?_⟩
              go_simp
              exact hK _ _ v0.symm hG (fun _ _ _ h => h)
            | 1, ho =>
              simp at ho; subst ho
              have hu0 : u 0 = V 0 := hΦ 0 (hd ⟨0, .data⟩ (by simp) (by rfl))
              rw [v0] at hu0
              clear hΦ hd
              have hx : ∃ x, u = (upd x 0 (.string (bs l))) := ⟨u, by rw [← upd_self hu0]⟩
              clear hu0
              obtain ⟨x, rfl⟩ := hx
              simp only [upd, reduceIte, Nat.reduceEqDiff]
              refine .inl ⟨rfl, ?_⟩
              go_simp
              exact hK _ _ v1.symm hG (fun _ _ _ h => h)
            | 2, ho =>
              simp at ho; subst ho
              have hu1 : u 1 = V 1 := hΦ 1 (hd ⟨1, .data⟩ (by simp) (by rfl))
              rw [v1] at hu1
              clear hΦ hd
              have hG0 := hG
              have hx : ∃ x, u = (upd x 1 (.string (bs (sub l 6 8)))) := ⟨u, by rw [← upd_self hu1]⟩
              clear hu1
              obtain ⟨x, rfl⟩ := hx
              simp only [upd, reduceIte, Nat.reduceEqDiff]
              refine .inl ⟨rfl, ?_⟩
              go_simp
              refine (refOf (sub l 6 8) w3 (by have := sub_le l 6 8; omega)).mono ?_
              rintro e w4 ⟨rfl, rfl⟩
              exact hK _ _ v2.symm hG0 (fun _ _ _ h => h)
            | 3, ho =>
              simp at ho; subst ho
              have hu2 : u 2 = V 2 := hΦ 2 (hd ⟨2, .data⟩ (by simp) (by rfl))
              rw [v2] at hu2
              clear hΦ hd
              have hx : ∃ x, u = (upd x 2 (.int .i64 (num (sub l 6 8) : Int))) := ⟨u, by rw [← upd_self hu2]⟩
              clear hu2
              obtain ⟨x, rfl⟩ := hx
              simp only [upd, reduceIte, Nat.reduceEqDiff]
              refine .inl ⟨rfl, ?_⟩
              go_simp
              exact hK _ _ v3.symm hG (fun _ _ _ h => h)
            | 4, ho =>
              simp at ho; subst ho
              have hu3 : u 3 = V 3 := hΦ 3 (hd ⟨3, .data⟩ (by simp) (by rfl))
              rw [v3] at hu3
              clear hΦ hd
              have hx : ∃ x, u = (upd x 3 (.bool true)) := ⟨u, by rw [← upd_self hu3]⟩
              clear hu3
              obtain ⟨x, rfl⟩ := hx
              simp only [upd, reduceIte, Nat.reduceEqDiff]
              refine .inl ⟨rfl, ?_⟩
              go_simp
              exact hK _ _ v4.symm hG (fun _ _ _ h => h)
            | 5, ho =>
              simp at ho; subst ho
              have hu4 : u 4 = V 4 := hΦ 4 (hd ⟨4, .guard⟩ (by simp) (by rfl))
              rw [v4] at hu4
              clear hΦ hd
              have hx : ∃ x, u = (upd x 4 (.bool true)) := ⟨u, by rw [← upd_self hu4]⟩
              clear hu4
              obtain ⟨x, rfl⟩ := hx
              simp only [upd, reduceIte, Nat.reduceEqDiff]
              refine .inl ⟨rfl, ?_⟩
              go_simp
              exact hK _ _ v5.symm hG (fun _ _ _ h => h)
            | 6, ho =>
              simp at ho; subst ho
              have hu4 : u 4 = V 4 := hΦ 4 (hd ⟨4, .guard⟩ (by simp) (by rfl))
              rw [v4] at hu4
              clear hΦ hd
              have hx : ∃ x, u = (upd x 4 (.bool true)) := ⟨u, by rw [← upd_self hu4]⟩
              clear hu4
              obtain ⟨x, rfl⟩ := hx
              simp only [upd, reduceIte, Nat.reduceEqDiff]
              refine .inl ⟨rfl, ?_⟩
              go_simp
              exact hK _ _ v6.symm hG (fun _ _ _ h => h)
            | 7, ho =>
              simp at ho; subst ho
              have hu4 : u 4 = V 4 := hΦ 4 (hd ⟨4, .guard⟩ (by simp) (by rfl))
              rw [v4] at hu4
              clear hΦ hd
              have hx : ∃ x, u = (upd x 4 (.bool true)) := ⟨u, by rw [← upd_self hu4]⟩
              clear hu4
              obtain ⟨x, rfl⟩ := hx
              simp only [upd, reduceIte, Nat.reduceEqDiff]
              refine .inl ⟨rfl, ?_⟩
              go_simp
              exact hK _ _ v7.symm hG (fun _ _ _ h => h)
            | 8, ho =>
              simp at ho; subst ho
              have hu5 : u 5 = V 5 := hΦ 5 (hd ⟨5, .data⟩ (by simp) (by rfl))
              rw [v5] at hu5
              have hu6 : u 6 = V 6 := hΦ 6 (hd ⟨6, .data⟩ (by simp) (by rfl))
              rw [v6] at hu6
              have hu7 : u 7 = V 7 := hΦ 7 (hd ⟨7, .data⟩ (by simp) (by rfl))
              rw [v7] at hu7
              have hu4 : u 4 = V 4 := hΦ 4 (hd ⟨4, .guard⟩ (by simp) (by rfl))
              rw [v4] at hu4
              clear hΦ hd
              have hG0 := hG
              have hx : ∃ x, u = (upd (upd (upd (upd x 5 (.int .u32 (fi : Int))) 6 (.int .u32 (ti : Int))) 7 (.int .i64 (n : Int))) 4 (.bool true)) := ⟨u, by rw [← upd_self hu5, ← upd_self hu6, ← upd_self hu7, ← upd_self hu4]⟩
              clear hu5 hu6 hu7 hu4
              obtain ⟨x, rfl⟩ := hx
              simp only [upd, reduceIte, Nat.reduceEqDiff]
              refine .inl ⟨rfl, ?_⟩
              go_simp
              refine (refBeside fi ti (n : Int) w3 hfi hti (by omega) (by omega)).mono ?_
              rintro e w4 ⟨rfl, hf4⟩
              rw [Int.toNat_natCast, ← Hx1.out]
              exact hK _ _ v8.symm (hG0.none hf4) (fun _ _ _ h => h)
            | 9, ho =>
              simp at ho; subst ho
              have hu4 : u 4 = V 4 := hΦ 4 (hd ⟨4, .guard⟩ (by simp) (by rfl))
              rw [v4] at hu4
              clear hΦ hd
              have hx : ∃ x, u = (upd x 4 (.bool true)) := ⟨u, by rw [← upd_self hu4]⟩
              clear hu4
              obtain ⟨x, rfl⟩ := hx
              simp only [upd, reduceIte, Nat.reduceEqDiff]
              refine .inl ⟨rfl, ?_⟩
              go_simp
              exact hK _ _ v9.symm hG (fun _ _ _ h => h)
            | 10, ho =>
              simp at ho; subst ho
              have hu4 : u 4 = V 4 := hΦ 4 (hd ⟨4, .guard⟩ (by simp) (by rfl))
              rw [v4] at hu4
              clear hΦ hd
              have hx : ∃ x, u = (upd x 4 (.bool true)) := ⟨u, by rw [← upd_self hu4]⟩
              clear hu4
              obtain ⟨x, rfl⟩ := hx
              simp only [upd, reduceIte, Nat.reduceEqDiff]
              refine .inl ⟨rfl, ?_⟩
              go_simp
              exact hK _ _ v10.symm hG (fun _ _ _ h => h)
            | 11, ho =>
              simp at ho; subst ho
              have hu9 : u 9 = V 9 := hΦ 9 (hd ⟨9, .data⟩ (by simp) (by rfl))
              rw [v9] at hu9
              have hu10 : u 10 = V 10 := hΦ 10 (hd ⟨10, .data⟩ (by simp) (by rfl))
              rw [v10] at hu10
              have hu4 : u 4 = V 4 := hΦ 4 (hd ⟨4, .guard⟩ (by simp) (by rfl))
              rw [v4] at hu4
              clear hΦ hd
              have hx : ∃ x, u = (upd (upd (upd x 9 (.string (bs l))) 10 (.int .i64 (n : Int))) 4 (.bool true)) := ⟨u, by rw [← upd_self hu9, ← upd_self hu10, ← upd_self hu4]⟩
              clear hu9 hu10 hu4
              obtain ⟨x, rfl⟩ := hx
              simp only [upd, reduceIte, Nat.reduceEqDiff]
              refine .inl ⟨rfl, ?_⟩
              go_simp
              rw [← Hx2.out]
              exact hK _ _ v11.symm hG (fun _ _ _ h => h)
            | 12, ho =>
              simp at ho; subst ho
              have hu8 : u 8 = V 8 := hΦ 8 (hd ⟨8, .data⟩ (by simp) (by rfl))
              rw [v8] at hu8
              have hu11 : u 11 = V 11 := hΦ 11 (hd ⟨11, .data⟩ (by simp) (by rfl))
              rw [v11] at hu11
              have hu4 : u 4 = V 4 := hΦ 4 (hd ⟨4, .guard⟩ (by simp) (by rfl))
              rw [v4] at hu4
              clear hΦ hd
              have hx : ∃ x, u = (upd (upd (upd x 8 (.string (bs x1))) 11 (.string (bs x2))) 4 (.bool true)) := ⟨u, by rw [← upd_self hu8, ← upd_self hu11, ← upd_self hu4]⟩
              clear hu8 hu11 hu4
              obtain ⟨x, rfl⟩ := hx
              simp only [upd, reduceIte, Nat.reduceEqDiff]
              refine .inl ⟨rfl, ?_⟩
              have hln : ¬ 9223372036854775807 < x1.length + x2.length := by have l1 := Lx1.out; have l2 := Lx2.out; omega
              go_simp
              rw [← Hx3.out]
              exact hK _ _ v12.symm hG (fun _ _ _ h => h)
            | 13, ho =>
              simp at ho; subst ho
              have hu12 : u 12 = V 12 := hΦ 12 (hd ⟨12, .data⟩ (by simp) (by rfl))
              rw [v12] at hu12
              have hu4 : u 4 = V 4 := hΦ 4 (hd ⟨4, .guard⟩ (by simp) (by rfl))
              rw [v4] at hu4
              clear hΦ hd
              have hG0 := hG
              have hx : ∃ x, u = (upd (upd x 12 (.string (bs x3))) 4 (.bool true)) := ⟨u, by rw [← upd_self hu12, ← upd_self hu4]⟩
              clear hu12 hu4
              obtain ⟨x, rfl⟩ := hx
              simp only [upd, reduceIte, Nat.reduceEqDiff]
              refine .inl ⟨rfl, ?_⟩
              go_simp
              refine (refCheck_any x3 w3 (by have := Lx3.out; omega)).mono ?_
              rintro e w4 ⟨rfl, hf4⟩
              exact hK _ _ v13.symm (hG0.none hf4) (fun _ _ _ h => h)
            | 14, ho =>
              simp at ho; subst ho
              have hu13 : u 13 = V 13 := hΦ 13 (hd ⟨13, .data⟩ (by simp) (by rfl))
              rw [v13] at hu13
              have hu4 : u 4 = V 4 := hΦ 4 (hd ⟨4, .guard⟩ (by simp) (by rfl))
              rw [v4] at hu4
              clear hΦ hd
              have hx : ∃ x, u = (upd (upd x 13 (.int .i64 (check x3 : Int))) 4 (.bool true)) := ⟨u, by rw [← upd_self hu13, ← upd_self hu4]⟩
              clear hu13 hu4
              obtain ⟨x, rfl⟩ := hx
              simp only [upd, reduceIte, Nat.reduceEqDiff]
              refine .inl ⟨rfl, ?_⟩
              have hck : ((check x3 : Int) != 0) = true := by rw [Hx3.out, Hx1.out, Hx2.out]; simp; exact HC.out
              go_simp
              exact hK _ _ v14.symm hG (fun _ _ _ h => h)
            | 15, ho =>
              simp at ho; subst ho
              have hu4 : u 4 = V 4 := hΦ 4 (hd ⟨4, .data⟩ (by simp) (by rfl))
              rw [v4] at hu4
              have hu14 : u 14 = V 14 := hΦ 14 (hd ⟨14, .data⟩ (by simp) (by rfl))
              rw [v14] at hu14
              clear hΦ hd
              have hx : ∃ x, u = (upd (upd x 4 (.bool true)) 14 (.bool true)) := ⟨u, by rw [← upd_self hu4, ← upd_self hu14]⟩
              clear hu4 hu14
              obtain ⟨x, rfl⟩ := hx
              simp only [upd, reduceIte, Nat.reduceEqDiff]
              refine .inl ⟨rfl, ?_⟩
              go_simp
              exact hK _ _ v15.symm hG (fun _ _ _ h => h)
          · rintro u w3 hu L hall hG
            have hG0 := hG
            have h15 : u 15 = V 15 := hu 15 (by simp)
            rw [v15] at h15
            clear hu hall
            rw [h15]
            go_wp2_with fail
            go_meet
            case rel => exact ⟨by simp [H0.out, HC.out], hG0⟩
    case rest =>
    obtain ⟨rfl, hfc⟩ := hcut
    replace hx0 := hx0.keep hfc (fun x => x)
    replace hf0 := hf0.none hfc
    clear hfc
    by_cases t6 : num (sub l 6 8) ≠ 0 ∧ check (besideB fi ti n ++ sub l 0 n) ≠ 0
    · have T6 := Lib.hid t6
      rw [show decide (num (sub l 6 8) ≠ 0 ∧ check (besideB fi ti n ++ sub l 0 n) ≠ 0) = true by exact decide_eq_true t6]
      clear t6
      go_wp2_with ((refine wpList_store_bk rfl 37 (.tmp 6) (.tmp 40) rfl w.heap.size _ _ zcUdp rfl rfl hx0 rfl (by kernel_rfl) (by kernel_rfl) ?_); intro w9 hx9 hf9)
      refine bodyPost_ret (results_row_tmp Try.results12 _ w9 w.heap.size _ zcUdp _ _ rfl rfl hx9 Try.underlying37 rfl (by kernel_rfl)) rfl ?_
      exact ⟨by rw [hspec.out, if_neg T4.out, if_neg T5.out, if_pos T6.out]; rfl, hf0.trans' hf9 (fun b hb e => by unfold oneB at e; omega)⟩
    have T6 := Lib.hid t6
    rw [show decide (num (sub l 6 8) ≠ 0 ∧ check (besideB fi ti n ++ sub l 0 n) ≠ 0) = false by exact decide_eq_false t6]
    clear t6
    have n02 : num (sub l 0 2) < 65536 := by have h := num_le (sub l 0 2); rw [sub_length l 0 2 (by omega)] at h; exact h
    have n24 : num (sub l 2 4) < 65536 := by have h := num_le (sub l 2 4); rw [sub_length l 2 4 (by omega)] at h; exact h
    have e02 : IntKind.u16.wrap (num (sub l 0 2) : Int) = num (sub l 0 2) := by rw [IntKind.wrap_u16]; omega
    have e24 : IntKind.u16.wrap (num (sub l 2 4) : Int) = num (sub l 2 4) := by rw [IntKind.wrap_u16]; omega
    have q02 := sub_le l 0 2
    have q24 := sub_le l 2 4
    have b4' : (8 : Int) ≤ (n : Int) := by omega
    go_wp2_with fail
    refine wp_region_still_tail 12 (by kernel_rfl) (by kernel_rfl) ?_
    simp only [List.take_succ_cons, List.take_zero, List.drop_succ_cons, List.drop_zero]
    have hx1 := hx0.drew
    have hf1 := hf0.drew
    generalize hw2 : ({ wc with drawn := wc.drawn + 1 } : World) = w3
    rw [show wc.drew = w3 from hw2] at hx1 hf1
    clear hw2
    repeat still_step
    still_call ((refOf (sub l 0 2) _ (by omega)).mono fun e w' h => ⟨h.1, h.2.symm⟩)
    repeat still_step
    still_call ((refOf (sub l 2 4) _ (by omega)).mono fun e w' h => ⟨h.1, h.2.symm⟩)
    repeat still_step
    refine wpStill_nil ?_
    go_wp2_with ((refine wpList_store_bk rfl 37 (.tmp 6) (.tmp 52) rfl w.heap.size _ _ (udpC ⟨num (sub l 0 2), num (sub l 2 4), sub l 8 n⟩) rfl rfl hx1 rfl (by kernel_rfl) (by kernel_rfl) ?_); intro w9 hx9 hf9)
    refine bodyPost_ret (results_row_tmp Try.results12 _ w9 w.heap.size _ (udpC ⟨num (sub l 0 2), num (sub l 2 4), sub l 8 n⟩) _ _ rfl rfl hx9 Try.underlying37 rfl (by kernel_rfl)) rfl ?_
    exact ⟨by rw [hspec.out, if_neg T4.out, if_neg T5.out, if_neg T6.out]; rfl, hf1.trans' hf9 (fun b hb e => by unfold oneB at e; omega)⟩

attribute [-go_sem] run_eql_struct run_equalIn_agg in
set_option maxRecDepth 20000 in
set_option maxHeartbeats 1000000 in
theorem lawUDPReads (l : List UInt8) (fi ti : Nat) (w : World) (hfi : fi < 4294967296) (hti : ti < 4294967296) (hl : l.length ≤ 9223372036854775807) :
    Calls Try.prog 4 #[.string (bs l), .int .u32 (fi : Int), .int .u32 (ti : Int)] w (fun e w' => e = .returned (.bool true) ∧ Fr noB w w') := by
  by_cases hb : 262144 < l.length
  · have hb' : (262144 : Int) < l.length := by omega
    go_enter Try.func4, Try.ntmps4
    go_wp2_with fail
    go_ret
    exact ⟨rfl, Fr.refl _ _⟩
  have hb' : ¬ (262144 : Int) < l.length := by omega
  go_enter Try.func4, Try.ntmps4
  go_wp2_with fail
  refine (bootReadUDP l fi ti _ hfi hti hl).mono ?_
  rintro e w1 ⟨rfl, hf1⟩
  have href : ∀ w, Calls Try.prog 12 #[.string (bs l), .int .u32 (fi : Int), .int .u32 (ti : Int)] w (udpPost l fi ti w) := fun w => refReadUDP l fi ti w hfi hti (by omega)
  unfold udpPost at href
  rcases hr : readUDP l fi ti with ⟨⟨fm, tp, cr⟩, k⟩
  rw [hr] at href
  have Hr := Lib.hid hr
  clear hr hb
  simp only [udpC] at href ⊢
  go_wp2_with fail
  have hx1 := Bk.new w1 37 #[.int .u16 (fm : Int), .int .u16 (tp : Int), .string (bs cr)]
  have hf2 := hf1.alloc (.cells #[.int .u16 (fm : Int), .int .u16 (tp : Int), .string (bs cr)] 37)
  generalize w1.alloc (.cells #[.int .u16 (fm : Int), .int .u16 (tp : Int), .string (bs cr)] 37) = w2 at *
  generalize w1.heap.size = g at *
  refine (href w2).mono ?_
  clear href
  rintro e w3 ⟨rfl, hf3⟩
  replace hx1 := hx1.keep hf3 (fun x => x)
  replace hf3 := hf2.none hf3
  have hlt := hx1.lt
  have hc := (hx1.alloc (.cells #[.int .u16 (fm : Int), .int .u16 (tp : Int), .string (bs cr)] 37)).cells
  have hE : ∀ w, (binOp .eql 37 (.agg #[.int .u16 (fm : Int), .int .u16 (tp : Int), .string (bs cr)]) (.agg #[.int .u16 (fm : Int), .int .u16 (tp : Int), .string (bs cr)])).run Try.prog w = .ok (.bool true) w := fun w => eql_self w (by kernel_rfl)
  have hG : Try.prog.eqGuardType Try.prog.depth 37 = false := by kernel_rfl
  go_wp2_with fail
  go_ret
  exact ⟨rfl, hf3.alloc _⟩
end Go.Proofs.Ytcbkaiakdhiloab
