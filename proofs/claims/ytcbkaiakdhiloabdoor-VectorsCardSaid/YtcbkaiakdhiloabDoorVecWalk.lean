/- The walk of netbootkeep.Vectors. -/
import Derived.Test.YtcbkaiakdhiloabDoorVecR12
import Derived.Test.YtcbkaiakdhiloabDoorEq
import Derived.Test.YtcbkaiakdhiloabDoorRegU
import Derived.Deep.RegionHeld3
set_option linter.unusedSimpArgs false
set_option linter.unusedVariables false
namespace Go.Proofs.YtcbkaiakdhiloabDoor
open Go.RowKit Go.Proofs
attribute [local go_sem] bs_size bs_append bs_extract

/-- a row of bytes at block g can be read -/
def RY (w : World) (g : Nat) (l : List UInt8) : Prop := g < w.heap.size ∧ ∀ (k : Nat) (x : UInt8), l[k]? = some x → w.cell? ⟨g, k, none⟩ = some (.int .u8 (x.toNat : Int))
theorem RY.keep {S : Nat → Prop} {w w' : World} {g : Nat} {l : List UInt8} (h : RY w g l) (hf : Fr S w w') (hg : ¬ S g) : RY w' g l :=
  ⟨Nat.lt_of_lt_of_le h.1 hf.size, fun k x hx => (hf.cell (a := ⟨g, k, none⟩) h.1 hg).trans (h.2 k x hx)⟩

theorem keepSV {w15 wa wb : World} {gp : Nat} (hg : gp < w15.heap.size) (h : wa.cell? ⟨gp, 0, none⟩ = some (.int .u16 0) ∧ wa.cell? ⟨gp, 1, none⟩ = some (.int .u8 64) ∧ wa.cell? ⟨gp, 2, none⟩ = some (.int .u8 17) ∧ wa.cell? ⟨gp, 3, none⟩ = some (.int .u32 3232235521) ∧ wa.cell? ⟨gp, 4, none⟩ = some (.int .u32 3232235719) ∧ wa.cell? ⟨gp, 5, none⟩ = some (.string (bs (bytesN 95 95))) ∧ Fr noB w15 wa) (f : Fr noB wa wb) :
    wb.cell? ⟨gp, 0, none⟩ = some (.int .u16 0) ∧ wb.cell? ⟨gp, 1, none⟩ = some (.int .u8 64) ∧ wb.cell? ⟨gp, 2, none⟩ = some (.int .u8 17) ∧ wb.cell? ⟨gp, 3, none⟩ = some (.int .u32 3232235521) ∧ wb.cell? ⟨gp, 4, none⟩ = some (.int .u32 3232235719) ∧ wb.cell? ⟨gp, 5, none⟩ = some (.string (bs (bytesN 95 95))) ∧ Fr noB w15 wb := by
  obtain ⟨h0, h1, h2, h3, h4, h5, h6⟩ := h
  have hl : gp < wa.heap.size := Nat.lt_of_lt_of_le hg h6.size
  exact ⟨(f.cell (a := ⟨gp, 0, none⟩) hl id).trans h0, (f.cell (a := ⟨gp, 1, none⟩) hl id).trans h1, (f.cell (a := ⟨gp, 2, none⟩) hl id).trans h2, (f.cell (a := ⟨gp, 3, none⟩) hl id).trans h3, (f.cell (a := ⟨gp, 4, none⟩) hl id).trans h4, (f.cell (a := ⟨gp, 5, none⟩) hl id).trans h5, h6.trans f⟩

attribute [-go_sem] run_eql_struct run_equalIn_agg in
set_option maxRecDepth 100000 in
set_option maxHeartbeats 4000000 in
theorem vectors_any (w : World) (hRb : RU w 2 h0.list) (hRk : RU w 3 kTab)
    (hC : RY w 0 [2, 0, 0, 0, 0, 42]) (hO : RY w 1 [2, 0, 0, 0, 0, 7]) :
    Calls Tryd.prog 3 #[] w fun e w' => e = .returned (.bool true) ∧ Fr noB w w' := by
  have hEq : Tryd.prog.eqGuardType Tryd.prog.depth 28 = false := by kernel_rfl
  go_enter Tryd.func3, Tryd.ntmps3
  go_wp2_with fail
  have cc1 := bootHash [97, 98, 99] (by decide) w hRk hRb
  rw [← vec1] at cc1
  refine cc1.mono ?_
  rintro e w1 ⟨rfl, f1⟩
  clear cc1
  have F1 : Fr noB w w1 := f1
  go_wp2_with fail
  have cc2 := keepHex v_h1 w1 (by decide) v_h1_ok
  refine cc2.mono ?_
  rintro e w2 ⟨rfl, f2⟩
  clear cc2
  have F2 : Fr noB w w2 := F1.none f2
  clear f2 F1
  generalize hexL v_h1 = o1 at *
  go_wp2_with fail
  have cc3 := bootHash [] (by decide) w2 (hRk.keep F2 id) (hRb.keep F2 id)
  rw [← vec2] at cc3
  refine cc3.mono ?_
  rintro e w3 ⟨rfl, f3⟩
  clear cc3
  have F3 : Fr noB w w3 := F2.none f3
  clear f3 F2
  go_wp2_with fail
  have cc4 := keepHex v_h2 w3 (by decide) v_h2_ok
  refine cc4.mono ?_
  rintro e w4 ⟨rfl, f4⟩
  clear cc4
  have F4 : Fr noB w w4 := F3.none f4
  clear f4 F3
  generalize hexL v_h2 = o2 at *
  go_wp2_with fail
  have cc5 := bootHash [97, 98, 99, 100, 98, 99, 100, 101, 99, 100, 101, 102, 100, 101, 102, 103, 101, 102, 103, 104, 102, 103, 104, 105, 103, 104, 105, 106, 104, 105, 106, 107, 105, 106, 107, 108, 106, 107, 108, 109, 107, 108, 109, 110, 108, 109, 110, 111, 109, 110, 111, 112, 110, 111, 112, 113] (by decide) w4 (hRk.keep F4 id) (hRb.keep F4 id)
  rw [← vec3] at cc5
  refine cc5.mono ?_
  rintro e w5 ⟨rfl, f5⟩
  clear cc5
  have F5 : Fr noB w w5 := F4.none f5
  clear f5 F4
  go_wp2_with fail
  have cc6 := keepHex v_h3 w5 (by decide) v_h3_ok
  refine cc6.mono ?_
  rintro e w6 ⟨rfl, f6⟩
  clear cc6
  have F6 : Fr noB w w6 := F5.none f6
  clear f6 F5
  generalize hexL v_h3 = o3 at *
  go_wp2_with fail
  have cc7 := keepHex v_c4 w6 (by decide) v_c4_ok
  refine cc7.mono ?_
  rintro e w7 ⟨rfl, f7⟩
  clear cc7
  have F7 : Fr noB w w7 := F6.none f7
  clear f7 F6
  go_wp2_with fail
  have cc8 := bootCheck_any (hexL v_c4) w7 (by decide +kernel)
  rw [vec4] at cc8
  refine cc8.mono ?_
  rintro e w8 ⟨rfl, f8⟩
  clear cc8
  have F8 : Fr noB w w8 := F7.none f8
  clear f8 F7
  go_wp2_with fail
  have cc9 := bootCheck_any [] w8 (by decide)
  rw [vec5] at cc9
  refine cc9.mono ?_
  rintro e w9 ⟨rfl, f9⟩
  clear cc9
  have F9 : Fr noB w w9 := F8.none f9
  clear f9 F8
  go_wp2_with fail
  have cc10 := bootCheck_any [1] w9 (by decide)
  rw [vec6] at cc10
  refine cc10.mono ?_
  rintro e w10 ⟨rfl, f10⟩
  clear cc10
  have F10 : Fr noB w w10 := F9.none f10
  clear f10 F9
  go_wp2_with fail
  have cc11 := bootCheck_any [255, 255] w10 (by decide)
  rw [vec7] at cc11
  refine cc11.mono ?_
  rintro e w11 ⟨rfl, f11⟩
  clear cc11
  have F11 : Fr noB w w11 := F10.none f11
  clear f11 F10
  go_wp2_with fail
  have cc12 := keepHex v_hd w11 (by decide) v_hd_ok
  rw [vec8] at cc12
  refine cc12.mono ?_
  rintro e w12 ⟨rfl, f12⟩
  clear cc12
  have F12 : Fr noB w w12 := F11.none f12
  clear f12 F11
  go_wp2_with fail
  have cc13 := keepBytes1 95 w12 (by decide)
  refine cc13.mono ?_
  rintro e w13 ⟨rfl, f13⟩
  clear cc13
  have F13 : Fr noB w w13 := F12.none f13
  clear f13 F12
  have hbeh : (⟨#[98, 101, 104, 105, 110, 100]⟩ : ByteArray) = bs [98, 101, 104, 105, 110, 100] := rfl
  have hv1 : vHd.length = 20 := by decide
  have hv2 : (bytesN 95 95).length = 95 := bytesN_length 95 95 (by decide)
  have hbig1 : ¬ 9223372036854775807 < vHd.length + (bytesN 95 95).length := by omega
  have hbig2 : ¬ 9223372036854775807 < vHd.length + (bytesN 95 95).length + 6 := by omega
  go_wp2_with fail
  have cr : Calls Tryd.prog 9 #[.string (bs (vHd ++ bytesN 95 95 ++ [98, 101, 104, 105, 110, 100]))] w13 (fun e w' => e = .returned (.tuple #[.agg (ipC ⟨0, 64, 17, 3232235521, 3232235719, bytesN 95 95⟩), .int .i64 0]) ∧ Fr noB w13 w') := (bootReadIP _ w13 (by simp [hv1, hv2])).mono fun e w' h => by have h1 := h.1; rw [vec11, vec12] at h1; exact ⟨h1, h.2⟩
  refine cr.mono ?_
  rintro e w14 ⟨rfl, f14⟩
  clear cr
  have F14 : Fr noB w w14 := F13.none f14
  obtain ⟨cs, hcs⟩ : ∃ z, z = ipC ⟨0, 64, 17, 3232235521, 3232235719, bytesN 95 95⟩ := ⟨_, rfl⟩
  have hsz : (Tryd.prog.info? 28).map (·.size) = some cs.size := by rw [hcs]; exact ip_info _
  have hone : cs.all (·.oneCell') = true := by rw [hcs]; kernel_rfl
  have hcsz : cs.size = zcIp4.size := by rw [hcs]; rfl
  have hcs2 := hcs
  rw [← hcs]
  have Hcs := Lib.hid hcs
  clear hcs hcs2
  go_wp2_with (refine wpList_store_bk rfl 28 (.tmp 5) (.tmp 46) rfl w14.heap.size 28 zcIp4 cs rfl rfl (Bk.new w14 _ _) hcsz hsz hone ?_; intro w15 hx15 hf15)
  have F15 : Fr noB w w15 := (F14.alloc _).trans' hf15 fun b hb h => by unfold oneB at h; have := F14.size; omega
  clear hsz hone hcsz hf15 F14 f14
  obtain rfl := Hcs.out
  clear Hcs
  have b0 := hx15.cell 0
  have b1 := hx15.cell 1
  have b2 := hx15.cell 2
  have b3 := hx15.cell 3
  have b4 := hx15.cell 4
  have b5 := hx15.cell 5
  generalize w14.heap.size = gp at *
  have hgp := hx15.lt
  simp only [ipC] at b0 b1 b2 b3 b4 b5
  have hdr : Fr noB w15 w15.drew := (Fr.refl _ _).drew
  have hE : ∀ w, (binOp .eql 28 (.agg #[.int .u16 0, .int .u8 64, .int .u8 17, .int .u32 3232235521, .int .u32 3232235719, .string (bs (bytesN 95 95))]) (.agg #[.int .u16 0, .int .u8 64, .int .u8 17, .int .u32 3232235521, .int .u32 3232235719, .string (bs (bytesN 95 95))])).run Tryd.prog w = .ok (.bool true) w := fun w => eql_self w (by kernel_rfl)
  go_region_held3 (fun w' => w'.cell? ⟨gp, 0, none⟩ = some (.int .u16 0) ∧ w'.cell? ⟨gp, 1, none⟩ = some (.int .u8 64) ∧ w'.cell? ⟨gp, 2, none⟩ = some (.int .u8 17) ∧ w'.cell? ⟨gp, 3, none⟩ = some (.int .u32 3232235521) ∧ w'.cell? ⟨gp, 4, none⟩ = some (.int .u32 3232235719) ∧ w'.cell? ⟨gp, 5, none⟩ = some (.string (bs (bytesN 95 95))) ∧ Fr noB w15 w') (first | go_keep | exact keepSV hgp (by assumption) f16)
    (first | (go_at_call 10; refine (keepBytes1 95 _ (by decide)).mono ?_; rintro e w16 ⟨rfl, f16⟩))
  rename_i hH
  obtain ⟨d0, d1, d2, d3, d4, d5, hF⟩ := hH
  have F16 : Fr noB w w16 := F15.none hF
  clear f16 hF b0 b1 b2 b3 b4 b5 hx15 hdr F15 hE
  go_wp2_with fail
  have cw : Calls Tryd.prog 11 #[.agg #[.int .u16 0, .int .u8 64, .int .u8 17, .int .u32 3232235521, .int .u32 3232235719, .string (bs (bytesN 95 95))]] w16 (fun e w' => e = .returned (.tuple #[.string (bs (vHd ++ bytesN 95 95)), .int .i64 0]) ∧ Fr noB w16 w') :=
    (bootWriteIP 0 3232235521 3232235719 64 17 (bytesN 95 95) w16 (by decide) (by decide) (by decide) (by rw [hv2]; decide)).mono fun e w' h => by have h1 := h.1; rw [vec13] at h1; exact ⟨h1, h.2⟩
  refine cw.mono ?_
  rintro e w17 ⟨rfl, f17⟩
  clear cw
  have F17 : Fr noB w w17 := F16.none f17
  clear f17 F16
  go_wp2_with fail
  refine (keepBytes1 95 _ (by decide)).mono ?_
  rintro e w18 ⟨rfl, f18⟩
  have F18 : Fr noB w w18 := F17.none f18
  clear f18 F17 d0 d1 d2 d3 d4 d5
  have C18 := hC.keep F18 id
  have p0 := C18.2 0 _ rfl
  have p1 := C18.2 1 _ rfl
  have p2 := C18.2 2 _ rfl
  have p3 := C18.2 3 _ rfl
  have p4 := C18.2 4 _ rfl
  have p5 := C18.2 5 _ rfl
  clear C18
  go_wp2_with fail
  have ca : Calls Tryd.prog 12 #[.agg #[.int .u16 1, .int .u8 2, .int .u8 0, .int .u8 0, .int .u8 0, .int .u8 0, .int .u8 42, .int .u32 167772215, .int .u8 0, .int .u8 0, .int .u8 0, .int .u8 0, .int .u8 0, .int .u8 0, .int .u32 167772161]] w18 (fun e w' => e = .returned (.tuple #[.string (bs vAr), .int .i64 0]) ∧ Fr noB w18 w') :=
    (bootWriteARP 1 167772215 167772161 2 0 0 0 0 42 0 0 0 0 0 0 w18 (by decide) (by decide) (by decide)).mono fun e w' h => by have h1 := h.1; rw [vec14] at h1; exact ⟨h1, h.2⟩
  refine ca.mono ?_
  rintro e w19 ⟨rfl, f19⟩
  have F19 : Fr noB w w19 := F18.none f19
  clear ca f19 F18 p0 p1 p2 p3 p4 p5
  go_wp2_with fail
  have ch := keepHex v_ar w19 (by decide) v_ar_ok
  rw [vec9] at ch
  refine ch.mono ?_
  rintro e w20 ⟨rfl, f20⟩
  have F20 : Fr noB w w20 := F19.none f20
  clear ch f20 F19
  have C20 := hC.keep F20 id
  have p0 := C20.2 0 _ rfl
  have p1 := C20.2 1 _ rfl
  have p2 := C20.2 2 _ rfl
  have p3 := C20.2 3 _ rfl
  have p4 := C20.2 4 _ rfl
  have p5 := C20.2 5 _ rfl
  have O20 := hO.keep F20 id
  have q0 := O20.2 0 _ rfl
  have q1 := O20.2 1 _ rfl
  have q2 := O20.2 2 _ rfl
  have q3 := O20.2 3 _ rfl
  have q4 := O20.2 4 _ rfl
  have q5 := O20.2 5 _ rfl
  clear C20 O20
  go_wp2_with fail
  have ce : Calls Tryd.prog 13 #[.agg #[.int .u8 2, .int .u8 0, .int .u8 0, .int .u8 0, .int .u8 0, .int .u8 7, .int .u8 2, .int .u8 0, .int .u8 0, .int .u8 0, .int .u8 0, .int .u8 42, .int .u16 2054, .string (bs vAr)]] w20 (fun e w' => e = .returned (.tuple #[.string (bs (vEh ++ vAr ++ List.replicate 18 0)), .int .i64 0]) ∧ Fr noB w20 w') :=
    (bootWriteEther 2054 vAr 2 0 0 0 0 7 2 0 0 0 0 42 w20 (by decide) (by decide)).mono fun e w' h => by have h1 := h.1; rw [vec15] at h1; exact ⟨h1, h.2⟩
  refine ce.mono ?_
  rintro e w21 ⟨rfl, f21⟩
  have F21 : Fr noB w w21 := F20.none f21
  clear ce f21 F20 p0 p1 p2 p3 p4 p5 q0 q1 q2 q3 q4 q5
  go_wp2_with fail
  refine vecR12 (vEh ++ vAr ++ List.replicate 18 0) _ w21 _ ⟨rfl, rfl⟩ rfl rfl rfl rfl rfl rfl rfl rfl rfl rfl ?_
  intro a2 w22 hs2 k2 o0 f22
  have F22 : Fr noB w w22 := F21.none f22
  go_wp2_with fail
  refine bodyPost_ret (results_tmp rfl _ _ _) hs2.defers ?_
  exact ⟨congrArg Ending.returned o0, F22⟩
end Go.Proofs.YtcbkaiakdhiloabDoor
