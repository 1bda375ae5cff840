/- Parts of the walk; written by programs, merged. -/
import Derived.Test.YtcbkaiakdhiloacGreatDoorMap
set_option linter.unusedSimpArgs false
set_option linter.unusedVariables false
set_option maxRecDepth 20000
set_option maxHeartbeats 8000000
namespace Go.Proofs.YtcbkaiakdhiloacGreatDoor
open Go.RowKit Go.Proofs
attribute [local go_sem] bs_size bs_append bs_extract bs_toList
def dhcC (d : DhcD) (A : Option Addr) (cap : Nat) : Array Value :=
  #[.bool d.reply, .int .u32 (d.xid : Int), .int .u32 (d.client : Int), .int .u32 (d.yours : Int), .int .u32 (d.next : Int),
    .int .u8 (d.mac.1.toNat : Int), .int .u8 (d.mac.2.1.toNat : Int), .int .u8 (d.mac.2.2.1.toNat : Int), .int .u8 (d.mac.2.2.2.1.toNat : Int), .int .u8 (d.mac.2.2.2.2.1.toNat : Int), .int .u8 (d.mac.2.2.2.2.2.toNat : Int),
    .slice A d.os.length cap]
def DhcOk (B : Nat) (l : List UInt8) (x : Value) (w : World) : Prop :=
  ∃ d A cap, x = .agg (dhcC d A cap) ∧ readDHCP l = (d, 0) ∧ SlR w (fun k => k < B) 2 A d.os.length (optC d.os) ∧ wtO d.os ≤ l.length
def DhcBad (l : List UInt8) (er : Int) : Prop := ∃ k : Nat, er = ((k + 1 : Nat) : Int) ∧ readDHCP l = (dhc0, k + 1)
theorem sub_one (l : List UInt8) (i : Nat) (h : i < l.length) : ∃ c, sub l i (i + 1) = [c] ∧ num (sub l i (i + 1)) = c.toNat := by
  refine ⟨l[i], ?_, ?_⟩
  · rw [← take_drop_sub, List.drop_eq_getElem_cons h]; rfl
  · rw [← take_drop_sub, List.drop_eq_getElem_cons h, List.take_succ_cons, List.take_zero]; simp [num]
theorem dhcBy (B : Nat) (l : List UInt8) (hl : l.length ≤ 1099511000000) (p q : Nat) (w : World) (hR : Rd w p l) (hq : Bk w q 9 #[.string (bs l)]) (hpq : p ≠ q) (hB : B ≤ w.heap.size) :
    Calls Tryz.prog 98 #[.pointer (some ⟨p, 0, none⟩), .pointer (some ⟨q, 0, none⟩)] w (byPostW noB (DhcOk B l) (DhcBad l) p w) := by
  have hp := Bk.lt hR
  have hql := hq.lt
  go_enter Tryz.func98, Tryz.ntmps98
  have hr0 : Rd (w.alloc (.cells zcDhc 62)) p (l.drop 0) := by rw [List.drop_zero]; exact Bk.alloc hR _
  have hq0 := hq.alloc (.cells zcDhc 62)
  have hx0 := Bk.new w 62 zcDhc
  have hf0 : Fr noB w (w.alloc (.cells zcDhc 62)) := (Fr.refl _ _).alloc _
  have hqc := hq0.cells
  unfold zcDhc at hr0 hq0 hx0 hf0 hqc
  have hl63 : l.length ≤ 9223372036854775807 := by omega
  by_cases h240 : 240 ≤ l.length
  rotate_left
  · have h240i : ¬ (240 : Int) ≤ (l.length : Int) := by omega
    go_wp2_with fail
    refine (must_no 1 _).mono ?_
    rintro e w1 ⟨rfl, rfl⟩
    exact ⟨rfl, .inr ⟨1, ⟨0, rfl, by unfold readDHCP; rw [if_pos (by omega)]⟩, rfl⟩, hf0.of_no _⟩
  have h240i : (240 : Int) ≤ (l.length : Int) := by omega
  obtain ⟨c0, hc0, hn0⟩ := sub_one l 0 (by omega)
  rw [Nat.zero_add] at hn0 hc0
  go_wp2_with fail
  refine (must_yes 1 _).mono ?_
  rintro e w1 ⟨rfl, rfl⟩
  clear hqc h240i
  go_wp2_with fail
  generalize w.alloc (.cells #[.bool false, .int .u32 0, .int .u32 0, .int .u32 0, .int .u32 0, .int .u8 0, .int .u8 0, .int .u8 0, .int .u8 0, .int .u8 0, .int .u8 0, .slice none 0 0] 62) = v0 at *
  refine (aU8 0 p l _ hr0 hl63 (by omega)).mono ?_
  rintro e v1 ⟨rfl, hr1, g1⟩
  rw [Nat.zero_add, hn0]
  clear hr0 hn0
  go_wp2_with fail
  refine (aTake 1 p l _ hr1 hl63 2 (by omega)).mono ?_
  rintro e v2 ⟨rfl, hr2, f2⟩
  have g2 := g1.trans f2
  clear hr1 g1 f2
  go_wp2_with fail
  refine (aU8 3 p l _ hr2 hl63 (by omega)).mono ?_
  rintro e v3 ⟨rfl, hr3, f3⟩
  have g3 := g2.trans f3
  clear hr2 g2 f3
  go_wp2_with fail
  refine (aU32 4 p l _ hr3 hl63 (by omega)).mono ?_
  rintro e v4 ⟨rfl, hr4, f4⟩
  have g4 := g3.trans f4
  clear hr3 g3 f4
  go_wp2_with fail
  obtain ⟨b, hb⟩ : ∃ b, ((c0.toNat : Int) == 2) = b := ⟨_, rfl⟩
  rw [hb]
  obtain ⟨x, hxx⟩ : ∃ x, num (sub l 4 (4 + 4)) = x := ⟨_, rfl⟩
  rw [hxx]
  have Hb := Lib.hid hb
  have Hx := Lib.hid hxx
  clear hb hxx
  have hm5 := Bk.new v4 62 #[.bool b, .int .u32 (x : Int), .int .u32 0, .int .u32 0, .int .u32 0, .int .u8 0, .int .u8 0, .int .u8 0, .int .u8 0, .int .u8 0, .int .u8 0, .slice none 0 0]
  have hr5 := Bk.alloc hr4 (.cells #[.bool b, .int .u32 (x : Int), .int .u32 0, .int .u32 0, .int .u32 0, .int .u8 0, .int .u8 0, .int .u8 0, .int .u8 0, .int .u8 0, .int .u8 0, .slice none 0 0] 62)
  have g5 := g4.alloc (.cells #[.bool b, .int .u32 (x : Int), .int .u32 0, .int .u32 0, .int .u32 0, .int .u8 0, .int .u8 0, .int .u8 0, .int .u8 0, .int .u8 0, .int .u8 0, .slice none 0 0] 62)
  have hpm : p < v4.heap.size := Bk.lt hr4
  have hxm : w.heap.size < v4.heap.size := Nat.lt_of_lt_of_le hx0.lt g4.size
  have hvm : v0.heap.size ≤ v4.heap.size := g4.size
  obtain ⟨gm, hgm⟩ : ∃ gm, v4.heap.size = gm := ⟨_, rfl⟩
  rw [hgm] at hm5 hpm hxm hvm
  rw [hgm]
  have Hgm := Lib.hid hgm
  clear hgm g4 hr4
  generalize v4.alloc (.cells #[.bool b, .int .u32 (x : Int), .int .u32 0, .int .u32 0, .int .u32 0, .int .u8 0, .int .u8 0, .int .u8 0, .int .u8 0, .int .u8 0, .int .u8 0, .slice none 0 0] 62) = v5 at *
  refine (aTake 8 p l _ hr5 hl63 4 (by omega)).mono ?_
  rintro e v6 ⟨rfl, hr6, f6⟩
  have g6 := g5.trans f6
  have hm6 := hm5.keep f6 (by unfold oneB; omega)
  clear hr5 g5 f6 hm5
  go_wp2_with fail
  refine (aIP 12 p l _ hr6 hl63 (by omega)).mono ?_
  rintro e v7 ⟨rfl, hr7, f7⟩
  have g7 := g6.trans f7
  have hm7 := hm6.keep f7 (by unfold oneB; omega)
  clear hr6 g6 f7 hm6
  go_wp2_with fail
  refine (aIP 16 p l _ hr7 hl63 (by omega)).mono ?_
  rintro e v8 ⟨rfl, hr8, f8⟩
  have g8 := g7.trans f8
  have hm8 := hm7.keep f8 (by unfold oneB; omega)
  clear hr7 g7 f8 hm7
  go_wp2_with fail
  refine (aIP 20 p l _ hr8 hl63 (by omega)).mono ?_
  rintro e v9 ⟨rfl, hr9, f9⟩
  have g9 := g8.trans f9
  have hm9 := hm8.keep f9 (by unfold oneB; omega)
  clear hr8 g8 f9 hm8
  obtain ⟨x1, hx1⟩ : ∃ x, num (sub l 12 (12 + 4)) = x := ⟨_, rfl⟩
  obtain ⟨x2, hx2⟩ : ∃ x, num (sub l 16 (16 + 4)) = x := ⟨_, rfl⟩
  obtain ⟨x3, hx3⟩ : ∃ x, num (sub l 20 (20 + 4)) = x := ⟨_, rfl⟩
  rw [hx1, hx2, hx3]
  have Hx1 := Lib.hid hx1
  have Hx2 := Lib.hid hx2
  have Hx3 := Lib.hid hx3
  clear hx1 hx2 hx3
  have hm9c := hm9.cells
  have hm9f := hm9.frees
  go_wp2_with fail
  have hgn : ∀ {q : Prop}, gm < v0.heap.size → q := fun h => absurd h (by omega)
  have hm10 : Bk ((((v9).setCell ⟨gm, 2, none⟩ (.int .u32 (x1 : Int))).setCell ⟨gm, 3, none⟩ (.int .u32 (x2 : Int))).setCell ⟨gm, 4, none⟩ (.int .u32 (x3 : Int))) gm 62 #[.bool b, .int .u32 (x : Int), .int .u32 (x1 : Int), .int .u32 (x2 : Int), .int .u32 (x3 : Int), .int .u8 0, .int .u8 0, .int .u8 0, .int .u8 0, .int .u8 0, .int .u8 0, .slice none 0 0] := by simpa using (((hm9.set 2 (.int .u32 (x1 : Int))).set 3 (.int .u32 (x2 : Int))).set 4 (.int .u32 (x3 : Int)))
  have hr10 : Rd ((((v9).setCell ⟨gm, 2, none⟩ (.int .u32 (x1 : Int))).setCell ⟨gm, 3, none⟩ (.int .u32 (x2 : Int))).setCell ⟨gm, 4, none⟩ (.int .u32 (x3 : Int))) p (l.drop (20 + 4)) := (Bk.far (Bk.far (Bk.far hr9 (p := ⟨gm, 2, none⟩) (Nat.ne_of_lt hpm) _) (p := ⟨gm, 3, none⟩) (Nat.ne_of_lt hpm) _) (p := ⟨gm, 4, none⟩) (Nat.ne_of_lt hpm) _)
  have g10 : Fr (oneB p) v0 ((((v9).setCell ⟨gm, 2, none⟩ (.int .u32 (x1 : Int))).setCell ⟨gm, 3, none⟩ (.int .u32 (x2 : Int))).setCell ⟨gm, 4, none⟩ (.int .u32 (x3 : Int))) := (Fr.setCell (Fr.setCell (Fr.setCell g9 (p := ⟨gm, 2, none⟩) hgn _) (p := ⟨gm, 3, none⟩) hgn _) (p := ⟨gm, 4, none⟩) hgn _)
  clear hm9 hr9 g9 hm9c hm9f
  generalize (((v9).setCell ⟨gm, 2, none⟩ (.int .u32 (x1 : Int))).setCell ⟨gm, 3, none⟩ (.int .u32 (x2 : Int))).setCell ⟨gm, 4, none⟩ (.int .u32 (x3 : Int)) = v10 at *
  refine (aTake 24 p l _ hr10 hl63 4 (by omega)).mono ?_
  rintro e v11 ⟨rfl, hr11, f11⟩
  have g11 := g10.trans f11
  have hm11 := hm10.keep f11 (by unfold oneB; omega)
  clear hr10 g10 f11 hm10
  go_wp2_with fail
  refine (aMAC 28 p l _ hr11 hl63 (by omega)).mono ?_
  rintro e v12 ⟨rfl, hr12, f12⟩
  have g12 := g11.trans f12
  have hm12 := hm11.keep f12 (by unfold oneB; omega)
  clear hr11 g11 f12 hm11
  obtain ⟨mm, hmm⟩ : ∃ x, macOf (l.drop 28) = x := ⟨_, rfl⟩
  rw [hmm]
  have Hmm := Lib.hid hmm
  clear hmm
  have hm12c := hm12.cells
  have hm12f := hm12.frees
  unfold macV
  go_wp2_with fail
  have hm13 : Bk (((((((v12).setCell ⟨gm, 5, none⟩ (.int .u8 (mm.1.toNat : Int))).setCell ⟨gm, 6, none⟩ (.int .u8 (mm.2.1.toNat : Int))).setCell ⟨gm, 7, none⟩ (.int .u8 (mm.2.2.1.toNat : Int))).setCell ⟨gm, 8, none⟩ (.int .u8 (mm.2.2.2.1.toNat : Int))).setCell ⟨gm, 9, none⟩ (.int .u8 (mm.2.2.2.2.1.toNat : Int))).setCell ⟨gm, 10, none⟩ (.int .u8 (mm.2.2.2.2.2.toNat : Int))) gm 62 #[.bool b, .int .u32 (x : Int), .int .u32 (x1 : Int), .int .u32 (x2 : Int), .int .u32 (x3 : Int), .int .u8 (mm.1.toNat : Int), .int .u8 (mm.2.1.toNat : Int), .int .u8 (mm.2.2.1.toNat : Int), .int .u8 (mm.2.2.2.1.toNat : Int), .int .u8 (mm.2.2.2.2.1.toNat : Int), .int .u8 (mm.2.2.2.2.2.toNat : Int), .slice none 0 0] := by simpa using ((((((hm12.set 5 (.int .u8 (mm.1.toNat : Int))).set 6 (.int .u8 (mm.2.1.toNat : Int))).set 7 (.int .u8 (mm.2.2.1.toNat : Int))).set 8 (.int .u8 (mm.2.2.2.1.toNat : Int))).set 9 (.int .u8 (mm.2.2.2.2.1.toNat : Int))).set 10 (.int .u8 (mm.2.2.2.2.2.toNat : Int)))
  have hr13 : Rd (((((((v12).setCell ⟨gm, 5, none⟩ (.int .u8 (mm.1.toNat : Int))).setCell ⟨gm, 6, none⟩ (.int .u8 (mm.2.1.toNat : Int))).setCell ⟨gm, 7, none⟩ (.int .u8 (mm.2.2.1.toNat : Int))).setCell ⟨gm, 8, none⟩ (.int .u8 (mm.2.2.2.1.toNat : Int))).setCell ⟨gm, 9, none⟩ (.int .u8 (mm.2.2.2.2.1.toNat : Int))).setCell ⟨gm, 10, none⟩ (.int .u8 (mm.2.2.2.2.2.toNat : Int))) p (l.drop (28 + 6)) := (Bk.far (Bk.far (Bk.far (Bk.far (Bk.far (Bk.far hr12 (p := ⟨gm, 5, none⟩) (Nat.ne_of_lt hpm) _) (p := ⟨gm, 6, none⟩) (Nat.ne_of_lt hpm) _) (p := ⟨gm, 7, none⟩) (Nat.ne_of_lt hpm) _) (p := ⟨gm, 8, none⟩) (Nat.ne_of_lt hpm) _) (p := ⟨gm, 9, none⟩) (Nat.ne_of_lt hpm) _) (p := ⟨gm, 10, none⟩) (Nat.ne_of_lt hpm) _)
  have g13 : Fr (oneB p) v0 (((((((v12).setCell ⟨gm, 5, none⟩ (.int .u8 (mm.1.toNat : Int))).setCell ⟨gm, 6, none⟩ (.int .u8 (mm.2.1.toNat : Int))).setCell ⟨gm, 7, none⟩ (.int .u8 (mm.2.2.1.toNat : Int))).setCell ⟨gm, 8, none⟩ (.int .u8 (mm.2.2.2.1.toNat : Int))).setCell ⟨gm, 9, none⟩ (.int .u8 (mm.2.2.2.2.1.toNat : Int))).setCell ⟨gm, 10, none⟩ (.int .u8 (mm.2.2.2.2.2.toNat : Int))) := (Fr.setCell (Fr.setCell (Fr.setCell (Fr.setCell (Fr.setCell (Fr.setCell g12 (p := ⟨gm, 5, none⟩) hgn _) (p := ⟨gm, 6, none⟩) hgn _) (p := ⟨gm, 7, none⟩) hgn _) (p := ⟨gm, 8, none⟩) hgn _) (p := ⟨gm, 9, none⟩) hgn _) (p := ⟨gm, 10, none⟩) hgn _)
  clear hm12 hr12 g12 hm12c hm12f
  generalize ((((((v12).setCell ⟨gm, 5, none⟩ (.int .u8 (mm.1.toNat : Int))).setCell ⟨gm, 6, none⟩ (.int .u8 (mm.2.1.toNat : Int))).setCell ⟨gm, 7, none⟩ (.int .u8 (mm.2.2.1.toNat : Int))).setCell ⟨gm, 8, none⟩ (.int .u8 (mm.2.2.2.1.toNat : Int))).setCell ⟨gm, 9, none⟩ (.int .u8 (mm.2.2.2.2.1.toNat : Int))).setCell ⟨gm, 10, none⟩ (.int .u8 (mm.2.2.2.2.2.toNat : Int)) = v13 at *
  refine (aTake 34 p l _ hr13 hl63 10 (by omega)).mono ?_
  rintro e v14 ⟨rfl, hr14, f14⟩
  have g14 := g13.trans f14
  have hm14 := hm13.keep f14 (by unfold oneB; omega)
  clear hr13 g13 f14 hm13
  go_wp2_with fail
  refine (aTake 44 p l _ hr14 hl63 64 (by omega)).mono ?_
  rintro e v15 ⟨rfl, hr15, f15⟩
  have g15 := g14.trans f15
  have hm15 := hm14.keep f15 (by unfold oneB; omega)
  clear hr14 g14 f15 hm14
  go_wp2_with fail
  refine (aTake 108 p l _ hr15 hl63 128 (by omega)).mono ?_
  rintro e v16 ⟨rfl, hr16, f16⟩
  have g16 := g15.trans f16
  have hm16 := hm15.keep f16 (by unfold oneB; omega)
  clear hr15 g15 f16 hm15
  go_upto_region 12 with fail
  have Hx0 := Lib.hid (hx0.keep g16 (by unfold oneB; omega))
  have Hf0 := Lib.hid ((hf0.of_no (oneB p)).trans g16)
  clear hx0 hf0 hq0 hq g16
  have Hc0 := Lib.hid hc0
  clear hc0
  have hbad : ¬ ((sub l 0 1 = [1] ∨ sub l 0 1 = [2]) ∧ sub l 1 3 = [1, 6] ∧ sub l 236 240 = [99, 130, 83, 99]) → ∀ w', Fr (oneB p) v16 w' → byPostW noB (DhcOk B l) (DhcBad l) p w (.panicked (faultC 2)) w' := by
    intro hno w' hf
    refine ⟨.inr ⟨2, ⟨1, rfl, by unfold readDHCP; rw [if_neg (by omega), if_pos hno]⟩, rfl⟩, (Hf0.out.trans hf).mono fun b _ e => .inl e⟩
  have Hbad := Lib.hid hbad
  clear hbad
  go_cut [] from 10 (fun wx => (c0 = 1 ∨ c0 = 2) ∧ sub l 1 3 = [1, 6] ∧ sub l 236 240 = [99, 130, 83, 99] ∧ Rd wx p (l.drop 240) ∧ Fr (oneB p) v16 wx)
  case first =>
    have hkind : c0 = 1 ∨ c0 = 2 ∨ (c0 ≠ 1 ∧ c0 ≠ 2) := by by_cases h1 : c0 = 1; exact .inl h1; by_cases h2 : c0 = 2; exact .inr (.inl h2); exact .inr (.inr ⟨h1, h2⟩)
    by_cases hk : sub l 1 3 = [1, 6]
    rotate_left
    · have hkb : (sub l 1 3 == [1, 6]) = false := by simpa using hk
      have Hno : Hid (∀ w', Fr (oneB p) v16 w' → byPostW noB (DhcOk B l) (DhcBad l) p w (.panicked (faultC 2)) w') := Lib.hid (Hbad.out (by rintro ⟨_, h, _⟩; exact hk h))
      clear hk Hbad
      rcases hkind with rfl | rfl | ⟨h1, h2⟩
      · go_wp2_with fail
        refine (must_no 2 _).mono ?_
        rintro e w' ⟨rfl, rfl⟩
        exact ⟨rfl, Hno.out _ (Fr.refl _ _)⟩
      · go_wp2_with fail
        refine (must_no 2 _).mono ?_
        rintro e w' ⟨rfl, rfl⟩
        exact ⟨rfl, Hno.out _ (Fr.refl _ _)⟩
      · have b1 : ((c0.toNat : Int) == 1) = false := u8_ne h1
        have b2 : ((c0.toNat : Int) == 2) = false := u8_ne h2
        clear h1 h2
        go_wp2_with fail
        refine (must_no 2 _).mono ?_
        rintro e w' ⟨rfl, rfl⟩
        exact ⟨rfl, Hno.out _ (Fr.refl _ _)⟩
    · have hkb : (sub l 1 3 == [1, 6]) = true := by simpa using hk
      have Hk := Lib.hid hk
      clear hk
      rcases hkind with rfl | rfl | ⟨h1, h2⟩
      · go_wp2_with fail
        refine (aTake 236 p l _ hr16 hl63 4 (by omega)).mono ?_
        rintro e v17 ⟨rfl, hr17, f17⟩
        by_cases hck : sub l 236 240 = [99, 130, 83, 99]
        · have hckb : (sub l 236 (236 + 4) == [99, 130, 83, 99]) = true := by simpa using hck
          have Hck := Lib.hid hck
          clear hck
          go_wp2_with fail
          refine (must_yes 2 _).mono ?_
          rintro e w' ⟨rfl, rfl⟩
          go_wp2_with fail
          go_meet
          case rel => exact ⟨by simp, Hk.out, Hck.out, hr17, f17⟩
        · have hckb : (sub l 236 (236 + 4) == [99, 130, 83, 99]) = false := by simpa using hck
          have Hno : Hid (∀ w', Fr (oneB p) v16 w' → byPostW noB (DhcOk B l) (DhcBad l) p w (.panicked (faultC 2)) w') := Lib.hid (Hbad.out (by rintro ⟨_, _, h⟩; exact hck h))
          clear hck Hbad
          go_wp2_with fail
          refine (must_no 2 _).mono ?_
          rintro e w' ⟨rfl, rfl⟩
          exact ⟨rfl, Hno.out _ f17⟩
      · go_wp2_with fail
        refine (aTake 236 p l _ hr16 hl63 4 (by omega)).mono ?_
        rintro e v17 ⟨rfl, hr17, f17⟩
        by_cases hck : sub l 236 240 = [99, 130, 83, 99]
        · have hckb : (sub l 236 (236 + 4) == [99, 130, 83, 99]) = true := by simpa using hck
          have Hck := Lib.hid hck
          clear hck
          go_wp2_with fail
          refine (must_yes 2 _).mono ?_
          rintro e w' ⟨rfl, rfl⟩
          go_wp2_with fail
          go_meet
          case rel => exact ⟨by simp, Hk.out, Hck.out, hr17, f17⟩
        · have hckb : (sub l 236 (236 + 4) == [99, 130, 83, 99]) = false := by simpa using hck
          have Hno : Hid (∀ w', Fr (oneB p) v16 w' → byPostW noB (DhcOk B l) (DhcBad l) p w (.panicked (faultC 2)) w') := Lib.hid (Hbad.out (by rintro ⟨_, _, h⟩; exact hck h))
          clear hck Hbad
          go_wp2_with fail
          refine (must_no 2 _).mono ?_
          rintro e w' ⟨rfl, rfl⟩
          exact ⟨rfl, Hno.out _ f17⟩
      · have b1 : ((c0.toNat : Int) == 1) = false := u8_ne h1
        have b2 : ((c0.toNat : Int) == 2) = false := u8_ne h2
        have Hno : Hid (∀ w', Fr (oneB p) v16 w' → byPostW noB (DhcOk B l) (DhcBad l) p w (.panicked (faultC 2)) w') := Lib.hid (Hbad.out (by
          rintro ⟨h, _⟩
          rw [Hc0.out] at h
          rcases h with h | h
          · injection h with h; exact h1 h
          · injection h with h; exact h2 h))
        clear h1 h2 Hbad
        go_wp2_with fail
        refine (must_no 2 _).mono ?_
        rintro e w' ⟨rfl, rfl⟩
        exact ⟨rfl, Hno.out _ (Fr.refl _ _)⟩
  case rest =>
  obtain ⟨hcc, hck1, hck2, hrc, hfc⟩ := hcut
  have hspec : ¬ ¬ ((sub l 0 1 = [1] ∨ sub l 0 1 = [2]) ∧ sub l 1 3 = [1, 6] ∧ sub l 236 240 = [99, 130, 83, 99]) := by
    refine not_not_intro ⟨?_, hck1, hck2⟩
    rw [Hc0.out]
    rcases hcc with rfl | rfl
    · exact .inl rfl
    · exact .inr rfl
  have Hsp : Hid (readDHCP l = match optRd [] (l.drop 240) with
      | none => (dhc0, 1)
      | some os => match overs os (sub l 44 108) (sub l 108 236) with
        | (a, 0) => (⟨b, x, x1, x2, x3, mm, a⟩, 0)
        | (_, e + 1) => (dhc0, e + 1)) := Lib.hid (by
    unfold readDHCP
    rw [if_neg (by omega), if_neg hspec, ← Hx.out, ← Hx1.out, ← Hx2.out, ← Hx3.out, ← Hmm.out, ← Hb.out, Hc0.out]
    have e0 : (([c0] : List UInt8) == [2]) = ((c0.toNat : Int) == 2) := by
      by_cases h : c0 = 2
      · subst h; rfl
      · rw [show ((c0.toNat : Int) == 2) = false from u8_ne h]; simpa using h
    rw [e0]
    rfl)
  have hF0 := Hf0.out.trans hfc
  have hxc := Hx0.out.keep hfc (by unfold oneB; omega)
  have hmc := hm16.keep hfc (by unfold oneB; omega)
  clear hck1 hck2 hspec hcc Hbad hm16 Hx0 Hf0 Hc0 Hb Hx Hx1 Hx2 Hx3 Hmm hr16
  have hwl : w.heap.size ≤ wc.heap.size := hF0.size
  have hxl := hxc.lt
  have hml := hmc.lt
  have hrl := Bk.lt hrc
  have hL0 : LsA (wc.alloc (.cells #[.slice none 0 0] 184)) wc.heap.size (fromB wc.heap.size) [] :=
    ⟨Nat.le_refl _, none, 0, Bk.new _ _ _, ⟨rfl, .inl ⟨rfl, rfl⟩⟩, fun a h => by cases h⟩
  have hxa := hxc.alloc (.cells #[.slice none 0 0] 184)
  have hma := hmc.alloc (.cells #[.slice none 0 0] 184)
  have hra : Rd (wc.alloc (.cells #[.slice none 0 0] 184)) p (l.drop 240) := Bk.alloc hrc _
  have hFa := hF0.alloc (.cells #[.slice none 0 0] 184)
  have hsa : (wc.alloc (.cells #[.slice none 0 0] 184)).heap.size = wc.heap.size + 1 := by simp
  have Hsa := Lib.hid hsa
  clear hsa
  go_wp2_with fail
  obtain ⟨pl, hpl⟩ : ∃ pl, wc.heap.size = pl := ⟨_, rfl⟩
  rw [hpl] at hL0 hwl hxl hml hrl Hsa
  rw [hpl]
  clear hpl hmc hxc hrc hF0 hfc
  generalize wc.alloc (.cells #[.slice none 0 0] 184) = wd at *
  refine (dhcFrom pl (fromB pl) p [] (l.drop 240) wd hL0 hra (by unfold fromB; omega) (fun k hk => by unfold fromB; have := Hsa.out; omega) (by simp only [wtO, List.length_drop]; omega)).mono ?_
  rintro e we (⟨os1, r, h1, rfl, hL1, hR1, hw1, hf1⟩ | ⟨h1, rfl, hf1⟩)
  rotate_left
  · refine ⟨rfl, .inr ⟨1, ⟨0, rfl, by rw [Hsp.out, h1]⟩, rfl⟩, hFa.trans' hf1 ?_ |>.mono fun b _ e => .inl e⟩
    rintro b hb (e | e)
    · exact e
    · unfold fromB at e; omega
  have H1 := Lib.hid h1
  clear h1
  have hxe := hxa.keep hf1 (by rintro (e | e); omega; unfold fromB at e; omega)
  have hme := hma.keep hf1 (by rintro (e | e); omega; unfold fromB at e; omega)
  have hFe : Fr (oneB p) w we := hFa.trans' hf1 (by
    rintro b hb (e | e)
    · exact e
    · unfold fromB at e; omega)
  obtain ⟨hbp, A1, cap1, hB1, hO1, hAF1⟩ := hL1
  have hc1 := hB1.cells
  have hA1 : SlR we (fun k => k < pl) 2 A1 os1.length (optC os1) := own_slrS hO1 (fun a e => by have := hAF1 a e; unfold fromB at this; omega)
  have hel : pl < we.heap.size := hB1.lt
  go_wp2_with fail
  refine (dhcOver (fun k => k < pl) A1 cap1 os1 (sub l 44 (44 + 64)) (sub l 108 (108 + 128)) we hA1 (fun k hk => by omega) ?_).mono ?_
  · have a1 := sub_le l 44 (44 + 64)
    have a2 := sub_le l 108 (108 + 128)
    simp only [wtO, List.length_drop] at hw1
    omega
  rintro e wf ⟨⟨os2, A2, cap2, h2, rfl, hA2, hw2⟩ | ⟨k, h2, rfl⟩, hf2⟩
  rotate_left
  · refine ⟨rfl, .inr ⟨((k + 1 : Nat) : Int), ⟨k, rfl, ?_⟩, rfl⟩, (hFe.none hf2).mono fun b _ e => .inl e⟩
    rw [Hsp.out, H1.out]
    simp only [show (44 + 64 : Nat) = 108 from rfl, show (108 + 128 : Nat) = 236 from rfl] at h2
    obtain ⟨a, h3⟩ : ∃ a, overs os1 (sub l 44 108) (sub l 108 236) = (a, k + 1) := ⟨_, Prod.ext rfl h2⟩
    simp only [h3]
  have Hfin : Hid (readDHCP l = (⟨b, x, x1, x2, x3, mm, os2⟩, 0)) := Lib.hid (by
    rw [Hsp.out, H1.out]
    simp only [show (44 + 64 : Nat) = 108 from rfl, show (108 + 128 : Nat) = 236 from rfl] at h2
    simp only [h2])
  have hwt2 : wtO os2 ≤ l.length := by
    have a1 := sub_length l 44 (44 + 64) (by omega)
    have a2 := sub_length l 108 (108 + 128) (by omega)
    simp only [wtO, List.length_drop] at hw1
    omega
  clear h2 H1 Hsp
  have hxf := hxe.keep hf2 (fun x => x)
  have hmf := hme.keep hf2 (fun x => x)
  have hFf : Fr (oneB p) w wf := hFe.none hf2
  have hmc := hmf.cells
  have hmz := hmf.frees
  clear hxe hme hFe hf2
  have hmg : Bk (wf.setCell ⟨gm, 11, none⟩ (.slice A2 os2.length cap2)) gm 62 #[.bool b, .int .u32 (x : Int), .int .u32 (x1 : Int), .int .u32 (x2 : Int), .int .u32 (x3 : Int), .int .u8 (mm.1.toNat : Int), .int .u8 (mm.2.1.toNat : Int), .int .u8 (mm.2.2.1.toNat : Int), .int .u8 (mm.2.2.2.1.toNat : Int), .int .u8 (mm.2.2.2.2.1.toNat : Int), .int .u8 (mm.2.2.2.2.2.toNat : Int), .slice A2 os2.length cap2] := by simpa using hmf.set 11 (.slice A2 os2.length cap2)
  have hxg := hxf.far (p := ⟨gm, 11, none⟩) (by simp; omega) (.slice A2 os2.length cap2)
  have hAg : SlR (wf.setCell ⟨gm, 11, none⟩ (.slice A2 os2.length cap2)) (fun k => k < pl) 2 A2 os2.length (optC os2) := hA2.keep ((Fr.refl _ _).setCell (p := ⟨gm, 11, none⟩) (fun _ => by omega) _)
  have hFg : Fr (oneB p) w (wf.setCell ⟨gm, 11, none⟩ (.slice A2 os2.length cap2)) := hFf.setCell (p := ⟨gm, 11, none⟩) (fun h => absurd h (by simp; omega)) _
  have hlg : gm < (wf.setCell ⟨gm, 11, none⟩ (.slice A2 os2.length cap2)).heap.size := hmg.lt
  have hmgc := hmg.cells
  go_wp2_with ((refine wpList_store_bk rfl 62 (.tmp 3) (.tmp 70) rfl w.heap.size _ _ _ rfl rfl hxg rfl (by kernel_rfl) (by kernel_rfl) ?_); intro w9 hx9 hf9)
  have hcx := hx9.cells
  refine bodyPost_ret (v := Value.agg (dhcC ⟨b, x, x1, x2, x3, mm, os2⟩ A2 cap2)) (by simp [results, Tryz.results98, go_sem, hcx, dhcC]) rfl ?_
  refine ⟨.inl ⟨_, ⟨_, A2, cap2, rfl, Hfin.out, ?_, hwt2⟩, rfl⟩, (hFg.trans' hf9 (fun b hb e => by unfold oneB at e; omega)).mono fun b _ e => .inl e⟩
  exact (hAg.keep (hf9.mono fun b hb e => by unfold oneB at e; omega)).sub (fun b hb h => by omega)
end Go.Proofs.YtcbkaiakdhiloacGreatDoor
namespace Go.Proofs.YtcbkaiakdhiloacGreatDoor
open Go.RowKit Go.Proofs
attribute [local go_sem] bs_size bs_append bs_extract bs_toList
def dhcPost (l : List UInt8) (w : World) (e : Ending) (w' : World) : Prop :=
  (∃ A cap, e = .returned (.tuple #[.agg (dhcC (readDHCP l).1 A cap), .int .i64 ((readDHCP l).2 : Int)]) ∧ SlR w' (fun k => k < w.heap.size) 2 A (readDHCP l).1.os.length (optC (readDHCP l).1.os)) ∧ Fr noB w w'
theorem dhcC_size (d : DhcD) (A : Option Addr) (cap : Nat) : (dhcC d A cap).size = 12 := rfl
theorem dhcC_one (d : DhcD) (A : Option Addr) (cap : Nat) : (dhcC d A cap).all (·.oneCell') = true := by simp [dhcC, Value.oneCell']
theorem dhc_info (d : DhcD) (A : Option Addr) (cap : Nat) : (Tryz.prog.info? 62).map (·.size) = some (dhcC d A cap).size := by rw [dhcC_size]; kernel_rfl
theorem dhcpRead (l : List UInt8) (w : World) (hl : l.length ≤ 1099511000000) :
    Calls Tryz.prog 51 #[.string (bs l)] w (dhcPost l w) := by
  go_enter Tryz.func51, Tryz.ntmps51
  have hmf : ∀ (fn : Fn) (first cap : Array Value) (w : World), (Instr.makeFunc fn first cap).run Tryz.prog w = .ok (.func fn first cap) w := fun _ _ _ _ => rfl
  go_wp2_with fail
  have hs0 := (Bk.new w 9 #[.string (bs l)]).alloc (.cells zcDhc 62)
  have hx0 := Bk.new (w.alloc (.cells #[.string (bs l)] 9)) 62 zcDhc
  have hf0 : Fr noB w ((w.alloc (.cells #[.string (bs l)] 9)).alloc (.cells zcDhc 62)) := ((Fr.refl _ _).alloc _).alloc _
  have hsz : ((w.alloc (.cells #[.string (bs l)] 9)).alloc (.cells zcDhc 62)).heap.size = w.heap.size + 2 := by simp
  rw [show (w.alloc (.cells #[.string (bs l)] 9)).heap.size = w.heap.size + 1 by simp] at hx0
  unfold zcDhc at hs0 hx0 hf0 hsz
  generalize (w.alloc (.cells #[.string (bs l)] 9)).alloc (.cells #[.bool false, .int .u32 0, .int .u32 0, .int .u32 0, .int .u32 0, .int .u8 0, .int .u8 0, .int .u8 0, .int .u8 0, .int .u8 0, .int .u8 0, .slice none 0 0] 62) = w1 at *
  have Hsz := Lib.hid hsz
  clear hsz
  refine (readWDhc l w1 (.pointer (some ⟨w.heap.size, 0, none⟩)) noB (DhcOk (w1.heap.size + 2) l) (DhcBad l) (fun _ _ _ x => x) ?_ ?_ ?_).mono ?_
  · rintro x w2 ⟨d, A, cap, rfl, _⟩; exact ⟨_, rfl, rfl, dhcC_one d A cap⟩
  · rintro x w2 w3 ⟨d, A, cap, rfl, h1, h2, h3⟩ hf
    exact ⟨d, A, cap, rfl, h1, h2.keep (hf.mono fun b _ e => by rcases e with e | e <;> omega), h3⟩
  · rintro p w2 rfl hR hf
    exact dhcBy _ l hl _ w.heap.size w2 hR (hs0.keep hf (fun x => x)) (by have := Hsz.out; omega) (by have := Bk.lt hR; omega)
  rintro e w2 ⟨hcase, hf1⟩
  have hx1 := hx0.keep hf1 (fun x => x)
  have key : ∃ A cap, e = .returned (.tuple #[.agg (dhcC (readDHCP l).1 A cap), .int .i64 ((readDHCP l).2 : Int)]) ∧ SlR w2 (fun k => k < w.heap.size + 2) 2 A (readDHCP l).1.os.length (optC (readDHCP l).1.os) := by
    rcases hcase with ⟨x, ⟨d, A, cap, rfl, h1, h2, h3⟩, rfl⟩ | ⟨er, ⟨k, rfl, h1⟩, rfl⟩
    · rw [h1]; exact ⟨A, cap, rfl, h2.sub (fun b hb h => by have := Hsz.out; omega)⟩
    · rw [h1]; exact ⟨none, 0, rfl, SlR.nil⟩
  obtain ⟨A, cap, rfl, hA⟩ := key
  generalize hr : readDHCP l = r at *
  have Hr := Lib.hid hr
  clear hr hcase
  have hin := Lib.hid (dhc_info r.1 A cap)
  have hon := Lib.hid (dhcC_one r.1 A cap)
  have hsz := Lib.hid (dhcC_size r.1 A cap)
  generalize hc : dhcC r.1 A cap = c at *
  have Hc := Lib.hid hc
  clear hc
  go_wp2_with ((refine wpList_store_bk rfl 62 (.tmp 2) (.tmp 7) rfl (w.heap.size + 1) _ _ c rfl rfl hx1 hsz.out hin.out hon.out ?_); intro w9 hx9 hf9)
  refine bodyPost_ret (results_row_tmp Tryz.results51 _ w9 (w.heap.size + 1) _ c _ _ rfl rfl hx9 Tryz.underlying62 rfl hin.out) rfl ?_
  refine ⟨⟨A, cap, by rw [Hr.out, Hc.out]; rfl, ?_⟩, (hf0.none hf1).trans' hf9 (fun b hb e => by unfold oneB at e; omega)⟩
  rw [Hr.out]
  exact (hA.keep (hf9.mono fun b hb e => by unfold oneB at e; omega)).sub (fun b hb h => by omega)
end Go.Proofs.YtcbkaiakdhiloacGreatDoor
namespace Go.Proofs.YtcbkaiakdhiloacGreatDoor
open Go.RowKit Go.Proofs
structure ByB (w : World) (g : Nat) (l : List UInt8) : Prop where
  lt : g < w.heap.size
  cell : ∀ j (b : UInt8), l[j]? = some b → w.cell? ⟨g, j, none⟩ = some (.int .u8 (b.toNat : Int))
  free : ∀ j, j < l.length → w.frozen? ⟨g, j, none⟩ = false
section
variable {S : Nat → Prop} {w w' : World} {g : Nat} {l : List UInt8}
theorem ByB.new (w : World) (e : TypeId) (l : List UInt8) : ByB (Go.Lib.bytesWorld w e (bs l)) w.heap.size l := by
  refine ⟨by rw [Go.Lib.bytesWorld_size]; omega, fun j b hb => ?_, fun j hj => ?_⟩
  · have hj : j < l.length := by
      rcases Nat.lt_or_ge j l.length with h | h
      · exact h
      · rw [List.getElem?_eq_none h] at hb; cases hb
    have h := Go.Lib.bytesWorld_cell w e (bs l) j (by rw [bs_size]; exact hj)
    rw [bs_list] at h
    rw [h]
    simp [List.getD, hb]
  · have h := Go.Lib.bytesWorld_at_new w e (bs l)
    have hs : l.length ≤ (Go.Lib.bytesCells w e (bs l)).size := by
      unfold Go.Lib.bytesCells
      simp [bs]
    simp [World.frozen?, h]
    omega
theorem ByB.fr (w : World) (e : TypeId) (l : List UInt8) : Fr noB w (Go.Lib.bytesWorld w e (bs l)) :=
  ⟨rfl, rfl, rfl, by rw [Go.Lib.bytesWorld_size]; omega, fun k hk _ => Go.Lib.bytesWorld_at_old w _ _ k hk⟩
theorem ByB.slr (h : ByB w g l) (hg : ¬ S g) : SlR w S 1 (some ⟨g, 0, none⟩) l.length (u8s l) := by
  refine ⟨by simp [u8s_length], fun _ => ⟨_, rfl, h.lt, hg, fun j u hu => ?_⟩⟩
  rw [addr_add, Nat.zero_add]
  simp only [u8s, List.getElem?_map, Option.map_eq_some_iff] at hu
  obtain ⟨b, hb, rfl⟩ := hu
  exact h.cell j b hb
end
end Go.Proofs.YtcbkaiakdhiloacGreatDoor
namespace Go.Proofs.YtcbkaiakdhiloacGreatDoor
open Go.RowKit Go.Proofs
attribute [local go_sem] bs_size bs_append bs_extract
theorem hashSum (l : List UInt8) (hl : l.length ≤ 100000000000) (gp c : Nat) (w : World) (hcell : w.cell? ⟨gp, 0, none⟩ = some (.string (bs l))) (hgp : gp < w.heap.size)
    (hRk : RU w 5 kTab) (hRb : RU w 3 h0.list) :
    Calls Tryz.prog 69 #[.slice (some ⟨gp, 0, none⟩) 1 c] w
      (fun e w' => e = .returned (.agg (u8s (sha l)).toArray) ∧ Fr noB w w') := by
  have c0 := hRb.2 0 _ rfl
  have c1 := hRb.2 1 _ rfl
  have c2 := hRb.2 2 _ rfl
  have c3 := hRb.2 3 _ rfl
  have c4 := hRb.2 4 _ rfl
  have c5 := hRb.2 5 _ rfl
  have c6 := hRb.2 6 _ rfl
  have c7 := hRb.2 7 _ rfl
  have hkl := hRk.1
  have hbl := hRb.1
  clear hRb
  have hR0 : YB ((w.alloc (.cells (u8s (List.replicate 32 0)).toArray 143)).alloc (.cells (u32s h0.list ++ [Value.slice none 0 0, Value.int .u64 0]).toArray 204)) w.heap.size 143 (List.replicate 32 0) := (Bk.new w _ _).alloc _
  have hf0 : Fr noB w ((w.alloc (.cells (u8s (List.replicate 32 0)).toArray 143)).alloc (.cells (u32s h0.list ++ [Value.slice none 0 0, Value.int .u64 0]).toArray 204)) := ((Fr.refl _ _).alloc _).alloc _
  have hSt0 : StB ((w.alloc (.cells (u8s (List.replicate 32 0)).toArray 143)).alloc (.cells (u32s h0.list ++ [Value.slice none 0 0, Value.int .u64 0]).toArray 204)) (w.heap.size + 1) h0.list (.slice none 0 0) (.int .u64 0) := by
    have h := Bk.new (w.alloc (.cells (u8s (List.replicate 32 0)).toArray 143)) 204 (u32s h0.list ++ [Value.slice none 0 0, Value.int .u64 0]).toArray
    rw [alloc_sz] at h; exact h
  obtain ⟨X, hX⟩ : ∃ X : Nat → Prop, ∀ q, X q ↔ w.heap.size + 2 ≤ q := ⟨_, fun _ => Iff.rfl⟩
  obtain ⟨p, hp⟩ : ∃ p, p = w.heap.size + 1 := ⟨_, rfl⟩
  obtain ⟨gr, hgr⟩ : ∃ p, p = w.heap.size := ⟨_, rfl⟩
  have hXp : ¬ X p := fun h => by have := (hX p).1 h; omega
  have hXk : ¬ X 5 := fun h => by have := (hX _).1 h; omega
  have hXr : ¬ X gr := fun h => by have := (hX gr).1 h; omega
  have hkp : 5 ≠ p := by omega
  have hgrp : gr ≠ p := by omega
  have hown : ∀ b, b < w.heap.size → ownS p X b → noB b := fun b hb h => h.elim (fun h => by omega) fun h => by have := (hX b).1 h; omega
  rw [← hp] at hSt0
  rw [← hgr] at hR0
  have hS0 : HSt _ p X [] := ⟨hXp, _, hSt0, RO.nil _ _⟩
  have hsz0 : ((w.alloc (.cells (u8s (List.replicate 32 0)).toArray 143)).alloc (.cells (u32s h0.list ++ [Value.slice none 0 0, Value.int .u64 0]).toArray 204)).heap.size = w.heap.size + 2 := by
    rw [alloc_sz, alloc_sz]
  have HS0 := Lib.hid hS0
  have HR0 := Lib.hid hR0
  have Hf0 := Lib.hid hf0
  have Hsz := Lib.hid hsz0
  clear hS0 hR0 hf0 hSt0 hsz0
  have Hown := Lib.hid hown
  clear hown
  go_enter Tryz.func69, Tryz.ntmps69
  go_wp2_with fail
  rw [← hp, ← hgr]
  have Hp := Lib.hid hp
  have Hgr := Lib.hid hgr
  clear hp hgr
  go_loopw [11] (fun iv wr => ∃ (k : Nat), k ≤ 1 ∧ iv = .int .i64 (k : Int) ∧ HSt wr p X (if k = 0 then [] else l) ∧ YB wr gr 143 (List.replicate 32 0) ∧ Fr noB w wr ∧ w.heap.size + 2 ≤ wr.heap.size) (fun iv _ => 1 - (intOf iv).toNat)
  case atStart => exact ⟨0, by omega, rfl, HS0.out, HR0.out, Hf0.out, by have := Hsz.out; exact Nat.le_of_eq this.symm⟩
  case round =>
    obtain ⟨k, hk, rfl, hS, hR, hf, hsz⟩ := hrel
    have hRk1 := hRk.keep hf id
    have hcell1 := (hf.cell (a := ⟨gp, 0, none⟩) hgp id).trans hcell
    by_cases hk0 : k = 0
    · subst hk0
      rw [if_pos rfl] at hS
      have hcv := Go.Lib.run_convert_string_bytes (P := Tryz.prog) wr 9 102 5 (bs l) Tryz.underlying9 Tryz.underlying102 Tryz.underlying5
      have hby := ByB.new wr 5 l
      have hfb := ByB.fr wr 5 l
      rw [bs_size] at hcv
      generalize Go.Lib.bytesWorld wr 5 (bs l) = wb at *
      generalize Go.grownCap wr l.length 0 5 = cb at *
      have hpne : wr.heap.size ≠ p := by have := Hp.out; omega
      have hcall := hashWrite [] l p l.length cb X (some ⟨wr.heap.size, 0, none⟩) wb (hS.keep hfb id fun _ _ h => h) (hby.slr hpne) (fun q hq => (hX q).2 (by have := hfb.size; omega)) (by simp; omega) (hRk1.keep hfb id) hXk hkp
      rw [List.nil_append] at hcall
      have hfwb : Fr noB w wb := hf.trans hfb
      have hRb := hR.keep hfb id
      have hszb := hfb.size
      have HR := Lib.hid hRb
      clear hS hR hby hf hfb hRk1 hRb
      go_wp2_with (go_at_call 126; refine hcall.mono ?_; rintro e w9 ⟨rfl, hS9, hf9⟩)
      have hszz := hf9.size
      exact ⟨⟨1, by omega, rfl, hS9, HR.out.keep hf9 (ownS_no hgrp hXr), hfwb.trans' hf9 Hown.out, by omega⟩, by simp only [intOf]; omega⟩
    · obtain rfl : k = 1 := by omega
      rw [if_neg hk0] at hS
      have hcall := hashSumM l hl p X wr hS (fun q hq => (hX q).2 (by omega)) hRk1 hXk hkp
      have hsz32 : (Tryz.prog.info? 143).map (·.size) = some 32 := by kernel_rfl
      have hl32 : (sha l).length = 32 := rfl
      have h32 : ((u8s (sha l)).toArray).size = 32 := by simp [u8s, hl32]
      have hone : ((u8s (sha l)).toArray).all (·.oneCell') = true := by rw [Array.all_eq_true]; intro k hk; exact u8s_one (sha l) _ (by simp)
      have HR := Lib.hid hR
      obtain ⟨cb, hcb⟩ : ∃ z, z = (u8s (sha l)).toArray := ⟨_, rfl⟩
      rw [← hcb] at hcall h32 hone
      have HCB := Lib.hid hcb
      clear hcb
      clear hS hR hRk1
      go_wp2_with (first
        | (go_at_call 127; refine hcall.mono ?_; rintro e w9 ⟨rfl, hf9⟩)
        | (refine wpList_store_bk rfl 143 (.tmp 2) (.tmp 21) rfl gr _ _ cb rfl rfl (HR.out.keep hf9 (ownS_no hgrp hXr)) (by rw [h32]; rfl) (by rw [hsz32, h32]) hone ?_; intro w10 hx10 hf10))
      refine bodyPost_ret (results_cell_row Tryz.results69 _ w10 gr _ _ _ _ rfl hx10 Tryz.underlying143 rfl (by rw [hsz32, h32])) rfl ?_
      exact ⟨by rw [HCB.out], (hf.trans' hf9 Hown.out).trans' hf10 fun b hb h => by unfold oneB at h; have := Hgr.out; omega⟩
end Go.Proofs.YtcbkaiakdhiloacGreatDoor
namespace Go.Proofs.YtcbkaiakdhiloacGreatDoor
open Go.RowKit Go.Proofs
attribute [local go_sem] bs_size bs_append bs_extract bs_toList
theorem num_subn (l : List UInt8) (i j n : Nat) (hn : j - i = n) : num (sub l i j) < 256 ^ n := by
  have h := num_lt (sub l i j)
  have h2 : (sub l i j).length ≤ n := by unfold sub; rw [List.length_drop, List.length_take]; omega
  exact Nat.lt_of_lt_of_le h (Nat.pow_le_pow_right (by decide) h2)
end Go.Proofs.YtcbkaiakdhiloacGreatDoor
namespace Go.Proofs.YtcbkaiakdhiloacGreatDoor
open Go.RowKit Go.Proofs
attribute [local go_sem] bs_size bs_append bs_sub bs_toList
theorem ipC_size (x : IpD) : (ipC x).size = zcIp4.size := rfl
theorem ipC_one (x : IpD) : (ipC x).all (·.oneCell') = true := by kernel_rfl
theorem ip_info (x : IpD) : (Tryz.prog.info? 53).map (·.size) = some (ipC x).size := by rw [ipC_size]; kernel_rfl
theorem packetReadIP (l : List UInt8) (w : World) (hl : l.length ≤ 9223372036854775807) :
    Calls Tryz.prog 49 #[.string (bs l)] w (ipPost l w) := by
  go_enter Tryz.func49, Tryz.ntmps49
  have hmf : ∀ (fn : Fn) (first cap : Array Value) (w : World), (Instr.makeFunc fn first cap).run Tryz.prog w = .ok (.func fn first cap) w := fun _ _ _ _ => rfl
  go_wp2_with fail
  have hs0 := (Bk.new w 9 #[.string (bs l)]).alloc (.cells zcIp4 53)
  have hx0 := Bk.new (w.alloc (.cells #[.string (bs l)] 9)) 53 zcIp4
  rw [show (w.alloc (.cells #[.string (bs l)] 9)).heap.size = w.heap.size + 1 by simp] at hx0
  have hf0 : Fr noB w ((w.alloc (.cells #[.string (bs l)] 9)).alloc (.cells zcIp4 53)) := ((Fr.refl _ _).alloc _).alloc _
  unfold zcIp4 at hs0 hx0 hf0
  generalize (w.alloc (.cells #[.string (bs l)] 9)).alloc (.cells #[.int .u16 0, .int .u8 0, .int .u8 0, .int .u32 0, .int .u32 0, .string ⟨#[]⟩] 53) = w1 at *
  refine (ipRead l w.heap.size _ hs0 hl).mono ?_
  rintro e w2 ⟨rfl, hf1⟩
  have hx1 := hx0.keep hf1 (fun x => x)
  have hsz := Lib.hid (ipC_size (readIP l).1)
  have hin := Lib.hid (ip_info (readIP l).1)
  have hon := Lib.hid (ipC_one (readIP l).1)
  generalize hr : readIP l = r at *
  have Hr := Lib.hid hr
  clear hr
  generalize hc : ipC r.1 = c at *
  have Hc := Lib.hid hc
  clear hc
  go_wp2_with ((refine wpList_store_bk rfl 53 (.tmp 2) (.tmp 7) rfl (w.heap.size + 1) _ _ c rfl rfl hx1 hsz.out hin.out hon.out ?_); intro w9 hx9 hf9)
  refine bodyPost_ret (results_row_tmp Tryz.results49 _ w9 (w.heap.size + 1) _ c _ _ rfl rfl hx9 Tryz.underlying53 rfl hin.out) rfl ?_
  exact ⟨by rw [Hr.out, Hc.out]; rfl, (hf0.none hf1).trans' hf9 (fun b hb e => by unfold oneB at e; omega)⟩
theorem bootReadIP (l : List UInt8) (w : World) (hl : l.length ≤ 9223372036854775807) :
    Calls Tryz.prog 20 #[.string (bs l)] w (ipPost l w) := by
  go_enter Tryz.func20, Tryz.ntmps20
  go_wp2_with fail
  have hx0 := Bk.new w 53 zcIp4
  have hf0 : Fr noB w (w.alloc (.cells zcIp4 53)) := (Fr.refl _ _).alloc _
  unfold zcIp4 at hx0 hf0
  generalize w.alloc (.cells #[.int .u16 0, .int .u8 0, .int .u8 0, .int .u32 0, .int .u32 0, .string ⟨#[]⟩] 53) = w1 at *
  refine (packetReadIP l _ hl).mono ?_
  rintro e w2 ⟨rfl, hf1⟩
  have hx1 := hx0.keep hf1 (fun x => x)
  have hsz := Lib.hid (ipC_size (readIP l).1)
  have hin := Lib.hid (ip_info (readIP l).1)
  have hon := Lib.hid (ipC_one (readIP l).1)
  generalize hr : readIP l = r at *
  have Hr := Lib.hid hr
  clear hr
  generalize hc : ipC r.1 = c at *
  have Hc := Lib.hid hc
  clear hc
  go_wp2_with ((refine wpList_store_bk rfl 53 (.tmp 2) (.tmp 6) rfl w.heap.size _ _ c rfl rfl hx1 hsz.out hin.out hon.out ?_); intro w9 hx9 hf9)
  refine bodyPost_ret (results_row_tmp Tryz.results20 _ w9 w.heap.size _ c _ _ rfl rfl hx9 Tryz.underlying53 rfl hin.out) rfl ?_
  exact ⟨by rw [Hr.out, Hc.out]; rfl, (hf0.none hf1).trans' hf9 (fun b hb e => by unfold oneB at e; omega)⟩
end Go.Proofs.YtcbkaiakdhiloacGreatDoor
namespace Go.Proofs.YtcbkaiakdhiloacGreatDoor
open Go.RowKit Go.Proofs
attribute [local go_sem] bs_size bs_append bs_sub bs_toList
theorem udpC_size (x : UdpD) : (udpC x).size = zcUdp.size := rfl
theorem udpC_one (x : UdpD) : (udpC x).all (·.oneCell') = true := by kernel_rfl
theorem udp_info (x : UdpD) : (Tryz.prog.info? 57).map (·.size) = some (udpC x).size := by rw [udpC_size]; kernel_rfl
theorem packetReadUDP (l : List UInt8) (fi ti : Nat) (w : World) (hfi : fi < 4294967296) (hti : ti < 4294967296) (hl : l.length ≤ 9223372036854775807) :
    Calls Tryz.prog 50 #[.string (bs l), .int .u32 (fi : Int), .int .u32 (ti : Int)] w (udpPost l fi ti w) := by
  go_enter Tryz.func50, Tryz.ntmps50
  have hmf : ∀ (fn : Fn) (first cap : Array Value) (w : World), (Instr.makeFunc fn first cap).run Tryz.prog w = .ok (.func fn first cap) w := fun _ _ _ _ => rfl
  go_wp2_with fail
  have hs0 := (((Bk.new w 9 #[.string (bs l)]).alloc (.cells #[.int .u32 (fi : Int)] 38)).alloc (.cells #[.int .u32 (ti : Int)] 38)).alloc (.cells zcUdp 57)
  have hi0 := ((Bk.new (w.alloc (.cells #[.string (bs l)] 9)) 38 #[.int .u32 (fi : Int)]).alloc (.cells #[.int .u32 (ti : Int)] 38)).alloc (.cells zcUdp 57)
  have ht0 := (Bk.new ((w.alloc (.cells #[.string (bs l)] 9)).alloc (.cells #[.int .u32 (fi : Int)] 38)) 38 #[.int .u32 (ti : Int)]).alloc (.cells zcUdp 57)
  have hx0 := Bk.new (((w.alloc (.cells #[.string (bs l)] 9)).alloc (.cells #[.int .u32 (fi : Int)] 38)).alloc (.cells #[.int .u32 (ti : Int)] 38)) 57 zcUdp
  simp only [World.size_alloc] at hs0 hi0 ht0 hx0
  have hf0 : Fr noB w ((((w.alloc (.cells #[.string (bs l)] 9)).alloc (.cells #[.int .u32 (fi : Int)] 38)).alloc (.cells #[.int .u32 (ti : Int)] 38)).alloc (.cells zcUdp 57)) := ((((Fr.refl _ _).alloc _).alloc _).alloc _).alloc _
  unfold zcUdp at hs0 hi0 ht0 hx0 hf0
  generalize (((w.alloc (.cells #[.string (bs l)] 9)).alloc (.cells #[.int .u32 (fi : Int)] 38)).alloc (.cells #[.int .u32 (ti : Int)] 38)).alloc (.cells #[.int .u16 0, .int .u16 0, .string ⟨#[]⟩] 57) = w1 at *
  refine (udpRead l fi ti w.heap.size (w.heap.size + 1) (w.heap.size + 1 + 1) _ hfi hti hs0 hi0 ht0 hl).mono ?_
  rintro e w2 ⟨rfl, hf1⟩
  have hx1 := hx0.keep hf1 (fun x => x)
  have hsz := Lib.hid (udpC_size (readUDP l fi ti).1)
  have hin := Lib.hid (udp_info (readUDP l fi ti).1)
  have hon := Lib.hid (udpC_one (readUDP l fi ti).1)
  generalize hr : readUDP l fi ti = r at *
  have Hr := Lib.hid hr
  clear hr
  generalize hc : udpC r.1 = c at *
  have Hc := Lib.hid hc
  clear hc
  go_wp2_with ((refine wpList_store_bk rfl 57 (.tmp 6) (.tmp 11) rfl (w.heap.size + 1 + 1 + 1) _ _ c rfl rfl hx1 hsz.out hin.out hon.out ?_); intro w9 hx9 hf9)
  refine bodyPost_ret (results_row_tmp Tryz.results50 _ w9 (w.heap.size + 1 + 1 + 1) _ c _ _ rfl rfl hx9 Tryz.underlying57 rfl hin.out) rfl ?_
  exact ⟨by rw [Hr.out, Hc.out]; rfl, (hf0.none hf1).trans' hf9 (fun b hb e => by unfold oneB at e; omega)⟩
theorem bootReadUDP (l : List UInt8) (fi ti : Nat) (w : World) (hfi : fi < 4294967296) (hti : ti < 4294967296) (hl : l.length ≤ 9223372036854775807) :
    Calls Tryz.prog 21 #[.string (bs l), .int .u32 (fi : Int), .int .u32 (ti : Int)] w (udpPost l fi ti w) := by
  go_enter Tryz.func21, Tryz.ntmps21
  go_wp2_with fail
  have hx0 := Bk.new w 57 zcUdp
  have hf0 : Fr noB w (w.alloc (.cells zcUdp 57)) := (Fr.refl _ _).alloc _
  unfold zcUdp at hx0 hf0
  generalize w.alloc (.cells #[.int .u16 0, .int .u16 0, .string ⟨#[]⟩] 57) = w1 at *
  refine (packetReadUDP l fi ti _ hfi hti hl).mono ?_
  rintro e w2 ⟨rfl, hf1⟩
  have hx1 := hx0.keep hf1 (fun x => x)
  have hsz := Lib.hid (udpC_size (readUDP l fi ti).1)
  have hin := Lib.hid (udp_info (readUDP l fi ti).1)
  have hon := Lib.hid (udpC_one (readUDP l fi ti).1)
  generalize hr : readUDP l fi ti = r at *
  have Hr := Lib.hid hr
  clear hr
  generalize hc : udpC r.1 = c at *
  have Hc := Lib.hid hc
  clear hc
  go_wp2_with ((refine wpList_store_bk rfl 57 (.tmp 6) (.tmp 12) rfl (w.heap.size) _ _ c rfl rfl hx1 hsz.out hin.out hon.out ?_); intro w9 hx9 hf9)
  refine bodyPost_ret (results_row_tmp Tryz.results21 _ w9 (w.heap.size) _ c _ _ rfl rfl hx9 Tryz.underlying57 rfl hin.out) rfl ?_
  exact ⟨by rw [Hr.out, Hc.out]; rfl, (hf0.none hf1).trans' hf9 (fun b hb e => by unfold oneB at e; omega)⟩
end Go.Proofs.YtcbkaiakdhiloacGreatDoor
namespace Go.Proofs.YtcbkaiakdhiloacGreatDoor
open Go.RowKit Go.Proofs
attribute [local go_sem] bs_size bs_append bs_extract bs_toList
theorem sub_len (l : List UInt8) (i j : Nat) : (sub l i j).length ≤ l.length := by unfold sub; rw [List.length_drop, List.length_take]; omega
theorem readIP_in (l : List UInt8) : (readIP l).1.fm < 4294967296 ∧ (readIP l).1.«to» < 4294967296 ∧ (readIP l).1.pr < 256 ∧ (readIP l).1.by'.length ≤ l.length := by
  unfold readIP
  have h2 := num_subn l 12 16 4 rfl
  have h3 := num_subn l 16 20 4 rfl
  have h4 := num_subn l 9 10 1 rfl
  have h5 := sub_len l 20 (num (sub l 2 4))
  repeat' split
  all_goals (refine ⟨?_, ?_, ?_, ?_⟩ <;> simp [ip0] <;> omega)
theorem readUDP_in (l : List UInt8) (fi ti : Nat) : (readUDP l fi ti).1.fm < 65536 ∧ (readUDP l fi ti).1.tp < 65536 ∧ (readUDP l fi ti).1.ld.length ≤ l.length := by
  unfold readUDP
  have h2 := num_subn l 0 2 2 rfl
  have h3 := num_subn l 2 4 2 rfl
  have h5 := sub_len l 8 (num (sub l 4 6))
  repeat' split
  all_goals (refine ⟨?_, ?_, ?_⟩ <;> simp [udp0] <;> omega)
end Go.Proofs.YtcbkaiakdhiloacGreatDoor
namespace Go.Proofs.YtcbkaiakdhiloacGreatDoor
open Go.RowKit Go.Proofs
attribute [local go_sem] bs_size bs_append bs_sub bs_toList
theorem ethC_size (x : EthD) : (ethC x).size = zcEth.size := rfl
theorem ethC_one (x : EthD) : (ethC x).all (·.oneCell') = true := by kernel_rfl
theorem eth_info (x : EthD) : (Tryz.prog.info? 49).map (·.size) = some (ethC x).size := by rw [ethC_size]; kernel_rfl
theorem packetReadEther (l : List UInt8) (w : World) (hl : l.length ≤ 9223372036854775807) :
    Calls Tryz.prog 48 #[.string (bs l)] w (ethPost l w) := by
  go_enter Tryz.func48, Tryz.ntmps48
  go_wp2_with fail
  have hx0 := Bk.new w 49 zcEth
  have hf0 : Fr noB w (w.alloc (.cells zcEth 49)) := (Fr.refl _ _).alloc _
  unfold zcEth at hx0 hf0
  generalize w.alloc (.cells #[.int .u8 0, .int .u8 0, .int .u8 0, .int .u8 0, .int .u8 0, .int .u8 0, .int .u8 0, .int .u8 0, .int .u8 0, .int .u8 0, .int .u8 0, .int .u8 0, .int .u16 0, .string ⟨#[]⟩] 49) = w1 at *
  refine (ethRead l _ hl).mono ?_
  rintro e w2 ⟨rfl, hf1⟩
  have hx1 := hx0.keep hf1 (fun x => x)
  have hsz := Lib.hid (ethC_size (readEther l).1)
  have hin := Lib.hid (eth_info (readEther l).1)
  have hon := Lib.hid (ethC_one (readEther l).1)
  generalize hr : readEther l = r at *
  have Hr := Lib.hid hr
  clear hr
  generalize hc : ethC r.1 = c at *
  have Hc := Lib.hid hc
  clear hc
  go_wp2_with ((refine wpList_store_bk rfl 49 (.tmp 2) (.tmp 6) rfl w.heap.size _ _ c rfl rfl hx1 hsz.out hin.out hon.out ?_); intro w9 hx9 hf9)
  refine bodyPost_ret (results_row_tmp Tryz.results48 _ w9 w.heap.size _ c _ _ rfl rfl hx9 Tryz.underlying49 rfl hin.out) rfl ?_
  exact ⟨by rw [Hr.out, Hc.out]; rfl, (hf0.none hf1).trans' hf9 (fun b hb e => by unfold oneB at e; omega)⟩
theorem bootReadEther (l : List UInt8) (w : World) (hl : l.length ≤ 9223372036854775807) :
    Calls Tryz.prog 19 #[.string (bs l)] w (ethPost l w) := by
  go_enter Tryz.func19, Tryz.ntmps19
  go_wp2_with fail
  have hx0 := Bk.new w 49 zcEth
  have hf0 : Fr noB w (w.alloc (.cells zcEth 49)) := (Fr.refl _ _).alloc _
  unfold zcEth at hx0 hf0
  generalize w.alloc (.cells #[.int .u8 0, .int .u8 0, .int .u8 0, .int .u8 0, .int .u8 0, .int .u8 0, .int .u8 0, .int .u8 0, .int .u8 0, .int .u8 0, .int .u8 0, .int .u8 0, .int .u16 0, .string ⟨#[]⟩] 49) = w1 at *
  refine (packetReadEther l _ hl).mono ?_
  rintro e w2 ⟨rfl, hf1⟩
  have hx1 := hx0.keep hf1 (fun x => x)
  have hsz := Lib.hid (ethC_size (readEther l).1)
  have hin := Lib.hid (eth_info (readEther l).1)
  have hon := Lib.hid (ethC_one (readEther l).1)
  generalize hr : readEther l = r at *
  have Hr := Lib.hid hr
  clear hr
  generalize hc : ethC r.1 = c at *
  have Hc := Lib.hid hc
  clear hc
  go_wp2_with ((refine wpList_store_bk rfl 49 (.tmp 2) (.tmp 6) rfl w.heap.size _ _ c rfl rfl hx1 hsz.out hin.out hon.out ?_); intro w9 hx9 hf9)
  refine bodyPost_ret (results_row_tmp Tryz.results19 _ w9 w.heap.size _ c _ _ rfl rfl hx9 Tryz.underlying49 rfl hin.out) rfl ?_
  exact ⟨by rw [Hr.out, Hc.out]; rfl, (hf0.none hf1).trans' hf9 (fun b hb e => by unfold oneB at e; omega)⟩
end Go.Proofs.YtcbkaiakdhiloacGreatDoor
namespace Go.Proofs.YtcbkaiakdhiloacGreatDoor
open Go.RowKit Go.Proofs
attribute [local go_sem] bs_size bs_append bs_extract bs_toList
theorem readEther_in (l : List UInt8) : (readEther l).1.ty < 65536 ∧ (readEther l).1.by'.length ≤ l.length := by
  unfold readEther
  have h5 := sub_len l 14 l.length
  have h2 := num_subn l 12 14 2 rfl
  repeat' split
  all_goals (refine ⟨?_, ?_⟩ <;> simp [eth0] <;> omega)
def frF (u : Nat → Value) : Act := ⟨#[u 0, u 1, u 2, u 3, u 4, u 5, u 6, u 7, u 8, u 9, u 10, u 11, u 12, u 13, u 14, u 15, u 16, u 17, u 18, u 19, u 20, u 21, u 22, u 23, u 24, u 25, u 26, u 27, u 28, u 29, u 30, u 31, u 32, u 33, u 34, u 35, u 36, u 37, u 38, u 39, u 40, u 41, u 42, u 43, u 44, u 45, u 46, u 47, u 48, u 49, u 50], []⟩
set_option maxRecDepth 100000 in
theorem frF_eq (u : Nat → Value) : frF u = frN 51 u := rfl
theorem frF_of {a : Act} (h : Sz 51 a) : a = frF (sl a) := h.eq.trans (frF_eq _).symm
theorem frR0 (ld : List UInt8) (a : Act) (w : World) (K : Exit → Act → World → Prop) (hs : Sz 51 a)
    (h1 : sl a 1 = .string (bs ld)) (hld : ld.length ≤ 9223372036854775807)
    (hK : ∀ a' w' g, Sz 51 a' → Kp [0, 33, 34, 35, 7] a a' → sl a' 4 = .pointer (some ⟨g, 0, none⟩) → sl a' 5 = .int .i64 ((readEther ld).2 : Int) → Fr noB w w' → Bk w' g 49 (ethC (readEther ld).1) → w.heap.size ≤ g → K .normal a' w') :
    (regionOf Tryz.f41 0).wp Tryz.prog K a w := by
  unfold Kp at hK; rw [frF_of hs]; clear hs; generalize sl a = u at *; clear a; have HK := Lib.hid hK; clear hK; conv => arg 2; whnf
  simp only [frF, h1]
  go_wp2_with fail
  refine (packetReadEther ld _ hld).mono ?_
  rintro e w2 ⟨rfl, hf1⟩
  have hsz := Lib.hid (ethC_size (readEther ld).1)
  have hin := Lib.hid (eth_info (readEther ld).1)
  have hon := Lib.hid (ethC_one (readEther ld).1)
  generalize hr : readEther ld = r at *
  clear hr
  generalize hc : ethC r.1 = c at *
  clear hc
  have hx0 := Bk.new w2 49 zcEth
  go_wp2_with ((refine wpList_store_bk rfl 49 (.tmp 4) (.tmp 11) rfl w2.heap.size _ zcEth c rfl rfl hx0 hsz.out hin.out hon.out ?_); intro w9 hx9 hf9)
  exact HK.out _ _ _ ⟨rfl, rfl⟩ (Kc rfl (Kc rfl (Kc rfl (Kc rfl (Kc rfl (Kn _ _)))))) (rfl) (rfl) ((hf1.alloc _).trans' hf9 (fun b hb e => by have e' : b = w2.heap.size := e; have := hf1.size; omega)) hx9 hf1.size
attribute [-go_sem] run_eql_struct run_neq_struct run_equalIn_agg in
theorem frR1a (L : Lay) (s : St) (x : EthD) (g : Nat) (k : Nat) (a : Act) (w : World) (K : Exit → Act → World → Prop) (hs : Sz 51 a)
    (h0 : sl a 0 = .pointer (some ⟨L.p, 0, none⟩)) (h4 : sl a 4 = .pointer (some ⟨g, 0, none⟩)) (h5 : sl a 5 = .int .i64 (k : Int)) (h : BootAt w L s) (hG : Bk w g 49 (ethC x)) (qk : ((k : Int) != 0) = true) 
    (hK : ∀ a' w', Sz 51 a' → Kp [0, 4, 5, 33, 34, 35, 7] a a' → sl a' 30 = .bool true → BootAt w' L s → Bk w' g 49 (ethC x) → Fr noB w w' → K .normal a' w') :
    (regionOf Tryz.f41 1).wp Tryz.prog K a w := by
  unfold Kp at hK; rw [frF_of hs]; clear hs; generalize sl a = u at *; clear a; have HK := Lib.hid hK; clear hK; conv => arg 2; whnf
  have hE2 : ∀ w, (binOp .neq 26 (.agg #[.int .u8 (x.to.1.toNat : Int), .int .u8 (x.to.2.1.toNat : Int), .int .u8 (x.to.2.2.1.toNat : Int), .int .u8 (x.to.2.2.2.1.toNat : Int), .int .u8 (x.to.2.2.2.2.1.toNat : Int), .int .u8 (x.to.2.2.2.2.2.toNat : Int)]) (.agg #[.int .u8 255, .int .u8 255, .int .u8 255, .int .u8 255, .int .u8 255, .int .u8 255])).run Tryz.prog w = .ok (.bool (decide (x.«to» ≠ aMac))) w := fun w => mac_neq x.«to» aMac w
  have hGd := mac_guard
  simp only [frF, h0, h4, h5]
  refine wp_region_pls (by kernel_rfl) (fun w' => BootAt w' L s ∧ Bk w' g 49 (ethC x) ∧ Fr noB w w') [] (.p 0 (.p 1 (.p 2 (.p 3 (.p 5 (.p 6 (.p 7 (.p 8 (.q 4 (.q 9 (.p 10 (.p 11 (.p 12 (.q 13 (.q 14 (.p 15 (.p 16 (.p 17 .nil)))))))))))))))))) (by kernel_rfl) (⟨h.drew, hG.drew, (Fr.refl _ _).drew⟩) ?_
  intro ops Q' hO hQ' wr1 hR1
  iterate 3 (refine pl_p0 hO rfl rfl ?_ (fun w' => ?_) ?_; rotate_left 1; (focus (go_simp; ((try with_reducible rfl); done))); simp only [Act.put, List.setIfInBounds_toArray, List.set_cons_zero, List.set_cons_succ])
  iterate 5 (refine pl_pn hO rfl rfl rfl rfl ?_; simp only [Act.put, List.setIfInBounds_toArray, List.set_cons_zero, List.set_cons_succ])
  iterate 2 (refine pl_qn hO rfl rfl rfl rfl ?_; simp only [Act.put, List.setIfInBounds_toArray, List.set_cons_zero, List.set_cons_succ])
  iterate 2 (refine pl_pn hO rfl rfl rfl rfl ?_; simp only [Act.put, List.setIfInBounds_toArray, List.set_cons_zero, List.set_cons_succ])
  refine pl_pu hO rfl rfl rfl rfl ?_; simp only [Act.put, List.setIfInBounds_toArray, List.set_cons_zero, List.set_cons_succ]
  iterate 2 (refine pl_qu hO rfl rfl rfl rfl ?_; simp only [Act.put, List.setIfInBounds_toArray, List.set_cons_zero, List.set_cons_succ])
  refine pl_pu hO rfl rfl rfl rfl ?_; simp only [Act.put, List.setIfInBounds_toArray, List.set_cons_zero, List.set_cons_succ]
  refine pl_pn hO rfl rfl rfl rfl ?_; simp only [Act.put, List.setIfInBounds_toArray, List.set_cons_zero, List.set_cons_succ]
  refine pl_p0 hO rfl rfl ?_ (fun w' => ?_) ?_; rotate_left 1; (focus (go_simp; ((try with_reducible rfl); done))); simp only [Act.put, List.setIfInBounds_toArray, List.set_cons_zero, List.set_cons_succ]
  refine pl_nil (hQ' _ _ ?_)
  exact HK.out _ _  ⟨rfl, rfl⟩ (Kc h0.symm (Kc h4.symm (Kc h5.symm (Kc rfl (Kc rfl (Kc rfl (Kc rfl (Kn _ _)))))))) (rfl) hR1.1 hR1.2.1 hR1.2.2
def Now (L : Lay) (w0 : World) (s : St) (w : World) : Prop := ∃ L' : Lay, L'.p = L.p ∧ (∀ b, own' L' b → own' L b ∨ w0.heap.size ≤ b) ∧ BootAt w L' s ∧ Fr (own' L) w0 w
theorem Now.comp {L L1 : Lay} {w0 w w' : World} {s' : St} (p1 : L1.p = L.p) (o1 : ∀ b, own' L1 b → own' L b ∨ w0.heap.size ≤ b) (f1 : Fr (own' L) w0 w) (h : Now L1 w s' w') : Now L w0 s' w' := by
  obtain ⟨L2, p2, o2, b2, f2⟩ := h
  refine ⟨L2, p2.trans p1, fun b hb => ?_, b2, f1.trans' f2 fun b hb hx => (o1 b hx).resolve_right (by omega)⟩
  rcases o2 b hb with x | x
  · exact o1 b x
  · exact .inr (Nat.le_trans f1.size x)
theorem Now.lpost {L : Lay} {w w' : World} {s : St} {r : Value} (h : Now L w s w') : LPost2 L s r w (.returned r) w' := ⟨rfl, h⟩
end Go.Proofs.YtcbkaiakdhiloacGreatDoor
