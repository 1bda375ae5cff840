/- The walk of the law netbootkeep.Spoilt. -/
import Derived.Test.YtcbkaiakdhiloabRound
import Derived.Test.YtcbkaiakdhiloabBootRIP
import Derived.Test.YtcbkaiakdhiloabBootRUDP
import Derived.Test.YtcbkaiakdhiloabPick
import Derived.Deep.Cut
set_option linter.unusedSimpArgs false
set_option linter.unusedVariables false
namespace Go.Proofs.Ytcbkaiakdhiloab
open Go.RowKit Go.Proofs
attribute [local go_sem] bs_size bs_append bs_sub bs_toList

def spIP (l : List UInt8) : List UInt8 := ipBytes 7 64 17 167772161 167772215 l
theorem spIP_length (l : List UInt8) : (spIP l).length = 20 + l.length := by unfold spIP ipBytes; simp [ipHead_length]
theorem spW (l : List UInt8) (w : World) (hl : l.length ≤ 1000) :
    Calls Try.prog 16 #[.agg #[.int .u16 7, .int .u8 64, .int .u8 17, .int .u32 167772161, .int .u32 167772215, .string (bs l)]] w (fun e w' => e = .returned (.tuple #[.string (bs (spIP l)), .int .i64 0]) ∧ Fr noB w w') := by
  have h := bootWriteIP 7 167772161 167772215 64 17 l w (by omega) (by omega) (by omega) (by omega)
  have e : wrIP 7 64 17 167772161 167772215 l = (spIP l, 0) := by unfold wrIP; rw [if_neg (by decide), if_neg (by omega)]; rfl
  rw [e] at h
  exact h
theorem spR (l : List UInt8) (w : World) (hl : l.length ≤ 1000) :
    Calls Try.prog 17 #[.string (bs (spIP l))] w (fun e w' => e = .returned (.tuple #[.agg #[.int .u16 7, .int .u8 64, .int .u8 17, .int .u32 167772161, .int .u32 167772215, .string (bs l)], .int .i64 0]) ∧ Fr noB w w') := by
  have h := bootReadIP (spIP l) w (by rw [spIP_length]; omega)
  have e := readIP_written 7 64 17 167772161 167772215 l [] (by omega) (by omega) (by omega) (by decide) (by omega)
  rw [List.append_nil] at e
  unfold ipPost at h
  rw [show readIP (spIP l) = _ from e] at h
  exact h
theorem spR2 (l : List UInt8) (k : Nat) (b b' : UInt8) (w : World) (hl : l.length ≤ 1000) (hk : k < 20) (hb : (spIP l)[k]? = some b) (hne : b' ≠ b) :
    Calls Try.prog 17 #[.string (bs ((spIP l).set k b'))] w (fun e w' => (∃ id ttl pr fm tt : Nat, ∃ cr : List UInt8, ∃ er : Nat, er ≠ 0 ∧ e = .returned (.tuple #[.agg #[.int .u16 (id : Int), .int .u8 (ttl : Int), .int .u8 (pr : Int), .int .u32 (fm : Int), .int .u32 (tt : Int), .string (bs cr)], .int .i64 (er : Int)])) ∧ Fr noB w w') := by
  have hne2 := readIP_spoilt 7 64 17 167772161 167772215 l k b b' hk hb hne
  refine (bootReadIP ((spIP l).set k b') w (by rw [List.length_set, spIP_length]; omega)).mono ?_
  rintro e w' ⟨he, hf⟩
  refine ⟨?_, hf⟩
  unfold spIP at he
  rcases hr : readIP ((ipBytes 7 64 17 167772161 167772215 l).set k b') with ⟨⟨id, ttl, pr, fm, tt, cr⟩, er⟩
  rw [hr] at he hne2
  exact ⟨id, ttl, pr, fm, tt, cr, er, hne2, he⟩
def spUDP (l : List UInt8) : List UInt8 := udpWith 5 6 l (udpSum 5 6 167772161 167772215 l)
theorem spUDP_length (l : List UInt8) : (spUDP l).length = 8 + l.length := udpWith_length _ _ _ _
theorem spWU (l : List UInt8) (w : World) (hl : l.length ≤ 1000) :
    Calls Try.prog 19 #[.agg #[.int .u16 5, .int .u16 6, .string (bs l)], .int .u32 167772161, .int .u32 167772215] w (fun e w' => e = .returned (.tuple #[.string (bs (spUDP l)), .int .i64 0]) ∧ Fr noB w w') := by
  have h := bootWriteUDP 5 6 167772161 167772215 l w (by omega) (by omega) (by omega) (by omega) (by omega)
  have e : wrUDP 5 6 167772161 167772215 l = (spUDP l, 0) := by unfold wrUDP; rw [if_neg (by omega)]; rfl
  rw [e] at h
  exact h
theorem spRU (l : List UInt8) (w : World) (hl : l.length ≤ 1000) :
    Calls Try.prog 11 #[.string (bs (spUDP l)), .int .u32 167772161, .int .u32 167772215] w (fun e w' => e = .returned (.tuple #[.agg #[.int .u16 5, .int .u16 6, .string (bs l)], .int .i64 0]) ∧ Fr noB w w') := by
  have h := bootReadUDP (spUDP l) 167772161 167772215 w (by omega) (by omega) (by rw [spUDP_length]; omega)
  have e := readUDP_written 5 6 167772161 167772215 l [] (by omega) (by omega) (by omega)
  rw [List.append_nil] at e
  unfold udpPost at h
  rw [show readUDP (spUDP l) 167772161 167772215 = _ from e] at h
  exact h
theorem spRU2 (l : List UInt8) (k : Nat) (b b' x y : UInt8) (w : World) (hl : l.length ≤ 1000) (hk : k < 4 ∨ 6 ≤ k) (hb : (spUDP l)[k]? = some b) (hne : b' ≠ b)
    (h6 : ((spUDP l).set k b')[6]? = some x) (h7 : ((spUDP l).set k b')[7]? = some y) (hxy : ¬ (x = 0 ∧ y = 0)) :
    Calls Try.prog 11 #[.string (bs ((spUDP l).set k b')), .int .u32 167772161, .int .u32 167772215] w (fun e w' => e = .returned (.tuple #[.agg #[.int .u16 0, .int .u16 0, .string ⟨#[]⟩], .int .i64 6]) ∧ Fr noB w w') := by
  have h := bootReadUDP ((spUDP l).set k b') 167772161 167772215 w (by omega) (by omega) (by rw [List.length_set, spUDP_length]; omega)
  have e := readUDP_spoilt 5 6 167772161 167772215 l k b b' x y (by omega) hk hb hne h6 h7 hxy
  unfold udpPost at h
  rw [show readUDP ((spUDP l).set k b') 167772161 167772215 = _ from e] at h
  exact h
theorem spRU3 (l : List UInt8) (w : World) (hl : l.length ≤ 1000) :
    Calls Try.prog 11 #[.string (bs (spUDP l)), .int .u32 167772161, .int .u32 167772216] w (fun e w' => e = .returned (.tuple #[.agg #[.int .u16 0, .int .u16 0, .string ⟨#[]⟩], .int .i64 6]) ∧ Fr noB w w') := by
  have h := bootReadUDP (spUDP l) 167772161 167772216 w (by omega) (by omega) (by rw [spUDP_length]; omega)
  have e := readUDP_other 5 6 167772161 167772215 l (by omega) (by omega) (by omega) (by omega)
  unfold udpPost at h
  rw [show readUDP (spUDP l) 167772161 167772216 = _ from e] at h
  exact h
/-- a text's bytes in a slice of the call's own -/
def IsB (l : List UInt8) (w0 : World) (v : Value) (w : World) : Prop := ∃ g cap, v = .slice (some ⟨g, 0, none⟩) l.length cap ∧ ByB w g l ∧ w0.heap.size ≤ g ∧ Fr noB w0 w
theorem ByB.drew {w : World} {g : Nat} {l : List UInt8} (h : ByB w g l) : ByB w.drew g l := h.keep (S := noB) ((Fr.refl _ _).drew) (fun x => x)
theorem xor_val (b : UInt8) (m : Nat) (hm : m < 255) : ∃ v : UInt8, v ≠ 0 ∧ bits .xor .u8 (b.toNat : Int) (1 + (m : Int)) = ((b ^^^ v).toNat : Int) := by
  have hb := b.toNat_lt
  refine ⟨UInt8.ofNat (1 + m), ?_, ?_⟩
  · intro h
    have h1 := congrArg UInt8.toNat h
    rw [UInt8.toNat_ofNat'] at h1
    simp at h1
    omega
  · rw [show (1 + (m : Int)) = ((1 + m : Nat) : Int) by omega, u8_xor_nat _ _ (by omega) (by omega), UInt8.toNat_xor, UInt8.toNat_ofNat', Nat.mod_eq_of_lt (by omega : 1 + m < 2 ^ 8)]

set_option maxRecDepth 20000 in
set_option maxHeartbeats 2000000 in
theorem lawSpoilt (l : List UInt8) (i c : Int) (w : World) (hl : l.length ≤ 9223372036854775807) (i0 : -9223372036854775808 ≤ i) (i1 : i ≤ 9223372036854775807) (c0 : -9223372036854775808 ≤ c) (c1 : c ≤ 9223372036854775807) :
    Calls Try.prog 6 #[.string (bs l), .int .i64 i, .int .i64 c] w (fun e w' => e = .returned (.bool true) ∧ Fr noB w w') := by
  by_cases hb : 1000 < l.length
  · have hb' : (1000 : Int) < l.length := by omega
    go_enter Try.func6, Try.ntmps6
    go_wp2_with fail
    go_ret
    exact ⟨rfl, Fr.refl _ _⟩
  have hb' : ¬ (1000 : Int) < l.length := by omega
  have hl2 : l.length ≤ 1000 := by omega
  clear hb
  go_enter Try.func6, Try.ntmps6
  go_wp2_with fail
  refine (spW l _ hl2).mono ?_
  rintro e w1 ⟨rfl, hf1⟩
  have hBl := spIP_length l
  have hR := fun w => spR l w hl2
  have hR2 := fun k b b' w h1 h2 h3 => spR2 l k b b' w hl2 h1 h2 h3
  have HR := Lib.hid hR
  have HR2 := Lib.hid hR2
  clear hR hR2
  generalize spIP l = B at *
  have hBl' : (20 : Int) ≤ B.length := by omega
  have HBl := Lib.hid hBl
  clear hBl
  go_wp2_with fail
  refine (HR.out _).mono ?_
  rintro e w2 ⟨rfl, hf2⟩
  replace hf2 := (hf1.none hf2).alloc (.cells #[.int .u16 7, .int .u8 64, .int .u8 17, .int .u32 167772161, .int .u32 167772215, .string (bs l)] 47)
  clear hf1 HR
  go_upto_region 7 with fail
  generalize w2.alloc (.cells #[.int .u16 7, .int .u8 64, .int .u8 17, .int .u32 167772161, .int .u32 167772215, .string (bs l)] 47) = w3 at *
  have hsz3 := hf2.size
  go_cut [11] from 15 to 133 (fun s wx => IsB B w s wx)
  case first =>
    have hcv := fun w1 => Go.Lib.run_convert_string_bytes (P := Try.prog) w1 9 50 5 (bs B) Try.underlying9 Try.underlying50 Try.underlying5
    have hn := ByB.new w3 5 B
    have hfn := ByB.fr w3 5 B
    go_wp2_with fail
    go_meet
    case rel => exact ⟨_, _, rfl, hn, hsz3, hf2.none hfn⟩
  case rest =>
  obtain ⟨g, cap, rfl, hB, hg, hfc⟩ := hcut
  clear hf2 hsz3 w3
  generalize w2.heap.size = gx
  clear w2 w1
  go_upto_region 8 with fail
  obtain ⟨k, Hk⟩ : ∃ k, Hid (k = pickI i 20) := ⟨_, Lib.hid rfl⟩
  obtain ⟨m, Hm⟩ : ∃ m, Hid (m = pickI c 255) := ⟨_, Lib.hid rfl⟩
  have hk20 : k < 20 := by rw [Hk.out]; exact pickI_lt _ _ (by omega)
  have hm255 : m < 255 := by rw [Hm.out]; exact pickI_lt _ _ (by omega)
  have hkl : k < B.length := by have := HBl.out; omega
  obtain ⟨b, hbk⟩ : ∃ b, B[k]? = some b := ⟨B[k], List.getElem?_eq_getElem hkl⟩
  obtain ⟨v, hv0, hxv⟩ := xor_val b m hm255
  have hne := xor_ne b v hv0
  generalize b ^^^ v = b' at *
  have hB2 := hB.drew
  have hf2 := hfc.drew
  have hkI : (k : Int) < (B.length : Int) := by omega
  have hkI0 : (0 : Int) ≤ (k : Int) := by omega
  have e1 : IntKind.i64.wrap (1 + (m : Int)) = 1 + (m : Int) := IntWalk.i64_in _ (by omega)
  have e2 : IntKind.u8.wrap (1 + (m : Int)) = 1 + (m : Int) := by rw [IntKind.wrap_u8']; omega
  refine wp_region_still_tail 11 (by kernel_rfl) (by kernel_rfl) ?_
  simp only [List.take_succ_cons, List.take_zero, List.drop_succ_cons, List.drop_zero]
  generalize hw2 : ({ wc with drawn := wc.drawn + 1 } : World) = w3
  rw [show wc.drew = w3 from hw2] at hB2 hf2
  clear hw2
  have hcell := hB2.cell k b hbk
  have hfz := hB2.free k hkl
  have hset := hB2.set k b' hkl
  have hfs := hf2.setCell (p := ⟨g, k, none⟩) (fun h => absurd h (by simp; omega)) (.int .u8 (b'.toNat : Int))
  have Hset := Lib.hid hset
  have Hbk := Lib.hid hbk
  clear hset hbk hB hfc
  repeat still_step
  still_call (pickK i 20 k _ Hk.out (by omega) (by omega) i0 i1)
  repeat still_step
  still_call (pickK c 255 m _ Hm.out (by omega) (by omega) c0 c1)
  repeat still_step
  refine wpStill_nil ?_
  go_upto_region 9 with fail
  clear hcell hfz e1 e2 hxv
  generalize w3.setCell ⟨g, k, none⟩ (.int .u8 (b'.toNat : Int)) = w4 at *
  have hsl := Hset.out.slr (S := noB) (fun x => x)
  rw [List.length_set] at hsl
  have hcv2 := run_str_of (P := Try.prog) w4 50 9 5 Try.underlying50 Try.underlying5 Try.underlying9 noB (some ⟨g, 0, none⟩) B.length cap (B.set k b') hsl (.inr ⟨_, _, rfl⟩)
  go_wp2_with fail
  refine (HR2.out k b b' _ hk20 Hbk.out hne).mono ?_
  rintro e w5 ⟨⟨id, ttl, pr, fm, tt, cr, er, her, rfl⟩, hf5⟩
  have ber : ((er : Int) == 0) = false := by simp; omega
  have hf6 := (hfs.none hf5).alloc (.cells #[.int .u16 (id : Int), .int .u8 (ttl : Int), .int .u8 (pr : Int), .int .u32 (fm : Int), .int .u32 (tt : Int), .string (bs cr)] 47)
  clear hcv2 hsl her
  go_upto_region 12 with fail
  generalize w5.alloc (.cells #[.int .u16 (id : Int), .int .u8 (ttl : Int), .int .u8 (pr : Int), .int .u32 (fm : Int), .int .u32 (tt : Int), .string (bs cr)] 47) = w6 at *
  go_cut [7, 8] from 9 to 133 (fun s e wx => s = .string (bs (spUDP l)) ∧ e = .int .i64 0 ∧ Fr noB w wx)
  case first =>
    go_wp2_with fail
    refine (spWU l _ hl2).mono ?_
    rintro e w7 ⟨rfl, hf7⟩
    go_wp2_with fail
    go_meet
    case rel => exact ⟨rfl, rfl, hf6.none hf7⟩
  case rest =>
  obtain ⟨rfl, rfl, hfc2⟩ := hcut
  clear hf6 hfs hf5 hf2 ber hne hk20 hkl hkI hkI0 Hset Hbk hB2 HR2 HBl hBl' Hk
  have hDl := spUDP_length l
  have hRU := fun w => spRU l w hl2
  have hRU2 := fun k b b' x y w h1 h2 h3 h4 h5 h6 => spRU2 l k b b' x y w hl2 h1 h2 h3 h4 h5 h6
  have hRU3 := fun w => spRU3 l w hl2
  have HRU := Lib.hid hRU
  have HRU2 := Lib.hid hRU2
  have HRU3 := Lib.hid hRU3
  clear hRU hRU2 hRU3
  generalize spUDP l = D at *
  have hDl' : (8 : Int) ≤ D.length := by omega
  have HDl := Lib.hid hDl
  clear hDl
  rename_i wc0 wc1
  go_wp2_with fail
  refine (HRU.out _).mono ?_
  rintro e w7 ⟨rfl, hf7⟩
  replace hf7 := hfc2.none hf7
  have hsz7 := hf7.size
  clear HRU hfc2
  go_upto_region 16 with fail
  go_cut [11] from 12 to 133 (fun s wx => IsB D w s wx)
  case first =>
    have hcv := fun w1 => Go.Lib.run_convert_string_bytes (P := Try.prog) w1 9 50 5 (bs D) Try.underlying9 Try.underlying50 Try.underlying5
    have hn := ByB.new w7 5 D
    have hfn := ByB.fr w7 5 D
    go_wp2_with fail
    go_meet
    case rel => exact ⟨_, _, rfl, hn, hsz7, hf7.none hfn⟩
  case rest =>
  obtain ⟨g2, cap2, rfl, hB, hg2, hfc⟩ := hcut
  clear hf7 hsz7
  obtain ⟨k2, Hk2⟩ : ∃ k2, Hid (k2 = pickI i D.length) := ⟨_, Lib.hid rfl⟩
  have hk2l : k2 < D.length := by rw [Hk2.out]; exact pickI_lt _ _ (by have := HDl.out; omega)
  have hDs : D.length ≤ 1008 := by have := HDl.out; omega
  have hD8 : 8 ≤ D.length := by have := HDl.out; omega
  go_wp2_with fail
  refine (pickK i D.length k2 _ Hk2.out (by omega) (by omega) i0 i1).mono ?_
  rintro e w8 ⟨rfl, rfl⟩
  go_upto_region 18 with fail
  obtain ⟨b2, hbk⟩ : ∃ b, D[k2]? = some b := ⟨D[k2], List.getElem?_eq_getElem hk2l⟩
  obtain ⟨v2, hv0, hxv⟩ := xor_val b2 m hm255
  have hne := xor_ne b2 v2 hv0
  generalize b2 ^^^ v2 = b2' at *
  have hB2 := hB.drew
  have hf2 := hfc.drew
  have hkI : (k2 : Int) < (D.length : Int) := by omega
  have hkI0 : (0 : Int) ≤ (k2 : Int) := by omega
  have e1 : IntKind.i64.wrap (1 + (m : Int)) = 1 + (m : Int) := IntWalk.i64_in _ (by omega)
  have e2 : IntKind.u8.wrap (1 + (m : Int)) = 1 + (m : Int) := by rw [IntKind.wrap_u8']; omega
  refine wp_region_still_tail 10 (by kernel_rfl) (by kernel_rfl) ?_
  simp only [List.take_succ_cons, List.take_zero, List.drop_succ_cons, List.drop_zero]
  generalize hw2 : ({ w8 with drawn := w8.drawn + 1 } : World) = w3
  rw [show w8.drew = w3 from hw2] at hB2 hf2
  clear hw2
  have hcell := hB2.cell k2 b2 hbk
  have hfz := hB2.free k2 hk2l
  have hset := hB2.set k2 b2' hk2l
  have hfs := hf2.setCell (p := ⟨g2, k2, none⟩) (fun h => absurd h (by simp; omega)) (.int .u8 (b2'.toNat : Int))
  have Hset := Lib.hid hset
  have Hbk := Lib.hid hbk
  clear hset hbk hB hfc
  repeat still_step
  still_call (pickK c 255 m _ Hm.out (by omega) (by omega) c0 c1)
  repeat still_step
  refine wpStill_nil ?_
  go_upto_region 19 with fail
  clear hcell hfz e1 e2 hxv hB2 hf2
  generalize w3.setCell ⟨g2, k2, none⟩ (.int .u8 (b2'.toNat : Int)) = w4 at *
  obtain ⟨x, hx6⟩ : ∃ b, (D.set k2 b2')[6]? = some b := ⟨(D.set k2 b2')[6]'(by rw [List.length_set]; omega), List.getElem?_eq_getElem _⟩
  obtain ⟨y, hy7⟩ : ∃ b, (D.set k2 b2')[7]? = some b := ⟨(D.set k2 b2')[7]'(by rw [List.length_set]; omega), List.getElem?_eq_getElem _⟩
  have hc6 := Hset.out.cell 6 x hx6
  have hc7 := Hset.out.cell 7 y hy7
  have Hx6 := Lib.hid hx6
  have Hy7 := Lib.hid hy7
  clear hx6 hy7
  have z6 : (6 : Int) < (D.length : Int) := by omega
  have z7 : (7 : Int) < (D.length : Int) := by omega
  by_cases q4 : k2 = 4
  · have b4 : ((k2 : Int) == 4) = true := by simp; omega
    clear q4
    go_wp2_with fail
    go_ret
    exact ⟨rfl, hfs⟩
  have b4 : ((k2 : Int) == 4) = false := by simp; omega
  by_cases q5 : k2 = 5
  · have b5 : ((k2 : Int) == 5) = true := by simp; omega
    clear q4 q5
    go_wp2_with fail
    go_ret
    exact ⟨rfl, hfs⟩
  have b5 : ((k2 : Int) == 5) = false := by simp; omega
  have hk46 : k2 < 4 ∨ 6 ≤ k2 := by omega
  have Hk46 := Lib.hid hk46
  clear q4 q5 hk46
  by_cases qx : x = 0
  · have b6 : ((x.toNat : Int) == 0) = true := by subst qx; rfl
    by_cases qy : y = 0
    · have b7 : ((y.toNat : Int) == 0) = true := by subst qy; rfl
      clear qx qy
      go_wp2_with fail
      go_ret
      exact ⟨rfl, hfs⟩
    have b7 : ((y.toNat : Int) == 0) = false := by
      have : y.toNat ≠ 0 := fun e => qy (UInt8.toNat_inj.1 (by simpa using e))
      simp; omega
    have Hxy : Hid (¬ (x = 0 ∧ y = 0)) := by unfold Hid; rintro ⟨_, e⟩; exact qy e
    clear qx qy
    have hsl := Hset.out.slr (S := noB) (fun x => x)
    rw [List.length_set] at hsl
    have hcv2 := run_str_of (P := Try.prog) w4 50 9 5 Try.underlying50 Try.underlying5 Try.underlying9 noB (some ⟨g2, 0, none⟩) D.length cap2 (D.set k2 b2') hsl (.inr ⟨_, _, rfl⟩)
    go_wp2_with fail
    refine (HRU2.out k2 b2 b2' x y _ Hk46.out Hbk.out hne Hx6.out Hy7.out Hxy.out).mono ?_
    rintro e w9 ⟨rfl, hf9⟩
    go_wp2_with fail
    refine (HRU3.out _).mono ?_
    rintro e w10 ⟨rfl, hf10⟩
    go_wp2_with fail
    go_ret
    exact ⟨rfl, (hfs.none hf9).none hf10⟩
  · have b6 : ((x.toNat : Int) == 0) = false := by
      have : x.toNat ≠ 0 := fun e => qx (UInt8.toNat_inj.1 (by simpa using e))
      simp; omega
    have Hxy : Hid (¬ (x = 0 ∧ y = 0)) := by unfold Hid; rintro ⟨e, _⟩; exact qx e
    clear qx
    have hsl := Hset.out.slr (S := noB) (fun x => x)
    rw [List.length_set] at hsl
    have hcv2 := run_str_of (P := Try.prog) w4 50 9 5 Try.underlying50 Try.underlying5 Try.underlying9 noB (some ⟨g2, 0, none⟩) D.length cap2 (D.set k2 b2') hsl (.inr ⟨_, _, rfl⟩)
    go_wp2_with fail
    refine (HRU2.out k2 b2 b2' x y _ Hk46.out Hbk.out hne Hx6.out Hy7.out Hxy.out).mono ?_
    rintro e w9 ⟨rfl, hf9⟩
    go_wp2_with fail
    refine (HRU3.out _).mono ?_
    rintro e w10 ⟨rfl, hf10⟩
    go_wp2_with fail
    go_ret
    exact ⟨rfl, (hfs.none hf9).none hf10⟩
end Go.Proofs.Ytcbkaiakdhiloab
