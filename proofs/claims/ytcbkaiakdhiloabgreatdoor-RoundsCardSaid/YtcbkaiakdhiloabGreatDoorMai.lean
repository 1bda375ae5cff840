/- ReadARP: the program's (octets.Read with a reading function whose faults are caught) and the reference's. -/
import Derived.Test.YtcbkaiakdhiloabGreatDoorMah
import Derived.Test.YtcbkaiakdhiloabGreatDoorMad
import Derived.Test.YtcbkaiakdhiloabGreatDoorMac
import Derived.Test.YtcbkaiakdhiloabGreatDoorMaa
set_option linter.unusedSimpArgs false
set_option linter.unusedVariables false
namespace Go.Proofs.YtcbkaiakdhiloabGreatDoor
open Go.RowKit Go.Proofs
attribute [local go_sem] bs_size bs_append bs_extract bs_toList

/-- an ARP: op, from card, from address, to card, to address -/
structure ArpD where
  op : Nat
  fm : Mac
  fi : Nat
  tm : Mac
  ti : Nat
def arp0 : ArpD := ⟨0, (0, 0, 0, 0, 0, 0), 0, (0, 0, 0, 0, 0, 0), 0⟩
def arpC (a : ArpD) : Array Value := #[.int .u16 (a.op : Int), .int .u8 (a.fm.1.toNat : Int), .int .u8 (a.fm.2.1.toNat : Int), .int .u8 (a.fm.2.2.1.toNat : Int), .int .u8 (a.fm.2.2.2.1.toNat : Int), .int .u8 (a.fm.2.2.2.2.1.toNat : Int), .int .u8 (a.fm.2.2.2.2.2.toNat : Int),
  .int .u32 (a.fi : Int), .int .u8 (a.tm.1.toNat : Int), .int .u8 (a.tm.2.1.toNat : Int), .int .u8 (a.tm.2.2.1.toNat : Int), .int .u8 (a.tm.2.2.2.1.toNat : Int), .int .u8 (a.tm.2.2.2.2.1.toNat : Int), .int .u8 (a.tm.2.2.2.2.2.toNat : Int), .int .u32 (a.ti : Int)]
theorem arp0_zc : arpC arp0 = zcArp := rfl

/-! The specification, and the closure. -/
def readARP (l : List UInt8) : ArpD × Nat :=
  if l.length < 28 then (arp0, 1)
  else if sub l 0 6 = [0, 1, 8, 0, 6, 4] ∧ (num (sub l 6 8) = 1 ∨ num (sub l 6 8) = 2) then
    (⟨num (sub l 6 8), macOf (sub l 8 l.length), num (sub l 14 18), macOf (sub l 18 l.length), num (sub l 24 28)⟩, 0)
  else (arp0, 2)
theorem readARP_of (l a1 a2 a4 a6 r : List UInt8) (b0 b1 b2 b3 b4 b5 c0 c1 c2 c3 c4 c5 : UInt8) (e : l = (((((a1 ++ a2) ++ [b0, b1, b2, b3, b4, b5]) ++ a4) ++ [c0, c1, c2, c3, c4, c5]) ++ a6) ++ r)
    (l1 : a1.length = 6) (l2 : a2.length = 2) (l4 : a4.length = 4) (l6 : a6.length = 4) :
    readARP l = if a1 = [0, 1, 8, 0, 6, 4] ∧ (num a2 = 1 ∨ num a2 = 2) then (⟨num a2, (b0, b1, b2, b3, b4, b5), num a4, (c0, c1, c2, c3, c4, c5), num a6⟩, 0) else (arp0, 2) := by
  have h28 : ¬ l.length < 28 := by rw [e]; simp [l1, l2, l4, l6]; omega
  have d0 : sub l 0 6 = a1 := by rw [e]; simp [sub, List.append_assoc, ← l1]
  match a1, l1 with
  | [x0, x1, x2, x3, x4, x5], _ =>
    match a2, l2 with
    | [y0, y1], _ =>
      match a4, l4 with
      | [z0, z1, z2, z3], _ =>
        match a6, l6 with
        | [t0, t1, t2, t3], _ =>
          unfold readARP
          rw [if_neg h28, d0]
          subst e
          rfl
theorem readARP_short (l : List UInt8) (h : l.length < 28) : readARP l = (arp0, 1) := by unfold readARP; rw [if_pos h]

def arpOk (l : List UInt8) (c : Array Value) : Prop := ∃ x, c = arpC x ∧ readARP l = (x, 0)
def arpBad (l : List UInt8) (er : Int) : Prop := ∃ k : Nat, er = k ∧ readARP l = (arp0, k)
set_option maxRecDepth 20000 in
set_option maxHeartbeats 1000000 in
theorem arpBy (l : List UInt8) (hl : l.length ≤ 9223372036854775807) (p : Nat) (w : World) (hR : Rd w p l) :
    Calls Tryz.prog 115 #[.pointer (some ⟨p, 0, none⟩)] w (byPost (arpOk l) (arpBad l) p w) := by
  have hp := Bk.lt hR
  go_enter Tryz.func115, Tryz.ntmps115
  go_wp2_with fail
  have hr0 := Bk.alloc hR (.cells zcArp 67)
  have hx0 := Bk.new w 67 zcArp
  have hf0 : Fr (oneB p) w (w.alloc (.cells zcArp 67)) := (Fr.refl _ _).alloc _
  unfold zcArp at hr0 hx0 hf0
  generalize w.alloc (.cells #[.int .u16 0, .int .u8 0, .int .u8 0, .int .u8 0, .int .u8 0, .int .u8 0, .int .u8 0, .int .u32 0, .int .u8 0, .int .u8 0, .int .u8 0, .int .u8 0, .int .u8 0, .int .u8 0, .int .u32 0] 67) = w1 at *
  have hbad : ∀ w', l.length < 28 → Fr (oneB p) w w' → byPost (arpOk l) (arpBad l) p w (.panicked (faultC 1)) w' :=
    fun w' h hf => ⟨.inr ⟨1, ⟨1, rfl, readARP_short l h⟩, rfl⟩, hf⟩
  have Hbad := Lib.hid hbad
  clear hbad
  refine (tTake 6 p l _ hr0 (by omega) hl).mono ?_
  rintro e w2 (⟨a1, r1, c1, b1, rfl, hr1, hf1⟩ | ⟨hlt, rfl, hf1⟩)
  rotate_left
  · exact ⟨rfl, Hbad.out _ (by omega) (hf0.trans hf1)⟩
  have g1 := hf1
  have C1 : Hid (Cut l a1 r1 6) := c1
  clear c1 hf1 hr0
  go_wp2_with fail
  refine (tU16 p r1 _ hr1 b1).mono ?_
  rintro e w3 (⟨a2, r2, c2, b2, rfl, hr2, hf2⟩ | ⟨hlt, rfl, hf2⟩)
  rotate_left
  · exact ⟨rfl, Hbad.out _ (by have x1 := C1.out; have x2 := congrArg List.length x1.1; rw [List.length_append, x1.2] at x2; omega) (hf0.trans (g1.trans hf2))⟩
  have g2 := g1.trans hf2
  have C2 : Hid (Cut l (a1 ++ a2) r2 8) := by
    refine ⟨?_, ?_⟩
    · rw [C1.out.1, c2.1]; simp
    · rw [List.length_append, C1.out.2, c2.2]
  clear g1
  clear c2 hf2 hr1
  go_wp2_with fail
  refine (tMAC p r2 _ hr2 b2).mono ?_
  rintro e w4 (⟨m3a, m3b, m3c, m3d, m3e, m3f, r3, c3, b3, rfl, hr3, hf3⟩ | ⟨hlt, rfl, hf3⟩)
  rotate_left
  · exact ⟨rfl, Hbad.out _ (by have x1 := C2.out; have x2 := congrArg List.length x1.1; rw [List.length_append, x1.2] at x2; omega) (hf0.trans (g2.trans hf3))⟩
  have g3 := g2.trans hf3
  have C3 : Hid (Cut l ((a1 ++ a2) ++ [m3a, m3b, m3c, m3d, m3e, m3f]) r3 14) := by
    refine ⟨?_, ?_⟩
    · rw [C2.out.1, c3.1]; simp
    · rw [List.length_append, C2.out.2, c3.2]
  clear g2
  clear c3 hf3 hr2
  go_wp2_with fail
  refine (tIP p r3 _ hr3 b3).mono ?_
  rintro e w5 (⟨a4, r4, c4, b4, rfl, hr4, hf4⟩ | ⟨hlt, rfl, hf4⟩)
  rotate_left
  · exact ⟨rfl, Hbad.out _ (by have x1 := C3.out; have x2 := congrArg List.length x1.1; rw [List.length_append, x1.2] at x2; omega) (hf0.trans (g3.trans hf4))⟩
  have g4 := g3.trans hf4
  have C4 : Hid (Cut l (((a1 ++ a2) ++ [m3a, m3b, m3c, m3d, m3e, m3f]) ++ a4) r4 18) := by
    refine ⟨?_, ?_⟩
    · rw [C3.out.1, c4.1]; simp
    · rw [List.length_append, C3.out.2, c4.2]
  clear g3
  clear c4 hf4 hr3
  go_wp2_with fail
  refine (tMAC p r4 _ hr4 b4).mono ?_
  rintro e w6 (⟨m5a, m5b, m5c, m5d, m5e, m5f, r5, c5, b5, rfl, hr5, hf5⟩ | ⟨hlt, rfl, hf5⟩)
  rotate_left
  · exact ⟨rfl, Hbad.out _ (by have x1 := C4.out; have x2 := congrArg List.length x1.1; rw [List.length_append, x1.2] at x2; omega) (hf0.trans (g4.trans hf5))⟩
  have g5 := g4.trans hf5
  have C5 : Hid (Cut l ((((a1 ++ a2) ++ [m3a, m3b, m3c, m3d, m3e, m3f]) ++ a4) ++ [m5a, m5b, m5c, m5d, m5e, m5f]) r5 24) := by
    refine ⟨?_, ?_⟩
    · rw [C4.out.1, c5.1]; simp
    · rw [List.length_append, C4.out.2, c5.2]
  clear g4
  clear c5 hf5 hr4
  go_wp2_with fail
  refine (tIP p r5 _ hr5 b5).mono ?_
  rintro e w7 (⟨a6, r6, c6, b6, rfl, hr6, hf6⟩ | ⟨hlt, rfl, hf6⟩)
  rotate_left
  · exact ⟨rfl, Hbad.out _ (by have x1 := C5.out; have x2 := congrArg List.length x1.1; rw [List.length_append, x1.2] at x2; omega) (hf0.trans (g5.trans hf6))⟩
  have g6 := g5.trans hf6
  have C6 : Hid (Cut l (((((a1 ++ a2) ++ [m3a, m3b, m3c, m3d, m3e, m3f]) ++ a4) ++ [m5a, m5b, m5c, m5d, m5e, m5f]) ++ a6) r6 28) := by
    refine ⟨?_, ?_⟩
    · rw [C5.out.1, c6.1]; simp
    · rw [List.length_append, C5.out.2, c6.2]
  clear g5
  clear c6 hf6 hr5
  have hspec : readARP l = if a1 = [0, 1, 8, 0, 6, 4] ∧ (num a2 = 1 ∨ num a2 = 2) then
      (⟨num a2, (m3a, m3b, m3c, m3d, m3e, m3f), num a4, (m5a, m5b, m5c, m5d, m5e, m5f), num a6⟩, 0) else (arp0, 2) := by
    obtain ⟨e1, e2⟩ := C6.out
    have l1 := C1.out.2
    have l2 : a2.length = 2 := by have := C2.out.2; simp at this; omega
    have l4 : a4.length = 4 := by have := C4.out.2; simp at this; omega
    have l6 : a6.length = 4 := by have := C6.out.2; simp at this; omega
    exact readARP_of l a1 a2 a4 a6 r6 _ _ _ _ _ _ _ _ _ _ _ _ e1 l1 l2 l4 l6
  have Hs := Lib.hid hspec
  clear hspec
  have hxk := hx0.keep g6 (by unfold oneB; omega)
  have hfk := hf0.trans g6
  clear hx0 hf0 g6
  have hbk := Bk.new w7 67 #[.int .u16 (num a2 : Int), .int .u8 (m3a.toNat : Int), .int .u8 (m3b.toNat : Int), .int .u8 (m3c.toNat : Int), .int .u8 (m3d.toNat : Int), .int .u8 (m3e.toNat : Int), .int .u8 (m3f.toNat : Int), .int .u32 (num a4 : Int), .int .u8 (m5a.toNat : Int), .int .u8 (m5b.toNat : Int), .int .u8 (m5c.toNat : Int), .int .u8 (m5d.toNat : Int), .int .u8 (m5e.toNat : Int), .int .u8 (m5f.toNat : Int), .int .u32 (num a6 : Int)]
  have hxa := hxk.alloc (.cells #[.int .u16 (num a2 : Int), .int .u8 (m3a.toNat : Int), .int .u8 (m3b.toNat : Int), .int .u8 (m3c.toNat : Int), .int .u8 (m3d.toNat : Int), .int .u8 (m3e.toNat : Int), .int .u8 (m3f.toNat : Int), .int .u32 (num a4 : Int), .int .u8 (m5a.toNat : Int), .int .u8 (m5b.toNat : Int), .int .u8 (m5c.toNat : Int), .int .u8 (m5d.toNat : Int), .int .u8 (m5e.toNat : Int), .int .u8 (m5f.toNat : Int), .int .u32 (num a6 : Int)] 67)
  have hfa := hfk.alloc (.cells #[.int .u16 (num a2 : Int), .int .u8 (m3a.toNat : Int), .int .u8 (m3b.toNat : Int), .int .u8 (m3c.toNat : Int), .int .u8 (m3d.toNat : Int), .int .u8 (m3e.toNat : Int), .int .u8 (m3f.toNat : Int), .int .u32 (num a4 : Int), .int .u8 (m5a.toNat : Int), .int .u8 (m5b.toNat : Int), .int .u8 (m5c.toNat : Int), .int .u8 (m5d.toNat : Int), .int .u8 (m5e.toNat : Int), .int .u8 (m5f.toNat : Int), .int .u32 (num a6 : Int)] 67)
  clear hxk hfk
  have hv := hbk.cells
  by_cases h1 : a1 = [0, 1, 8, 0, 6, 4]
  · have h1b : (a1 == [0, 1, 8, 0, 6, 4]) = true := by simpa using h1
    by_cases h2 : num a2 = 1
    · have h2b : ((num a2 : Int) == 1) = true := by simp [h2]
      have H1 := Lib.hid h1
      have H2 := Lib.hid h2
      clear h1 h2
      go_wp2_with fail
      refine (must_yes _ _).mono ?_
      rintro e w8 ⟨rfl, rfl⟩
      go_wp2_with ((refine wpList_store_bk rfl 67 (.tmp 2) (.tmp 31) rfl w.heap.size _ _ _ rfl rfl hxa rfl (by kernel_rfl) (by kernel_rfl) ?_); intro w9 hx9 hf9)
      have hcx := hx9.cells
      refine bodyPost_ret (v := Value.agg (arpC ⟨num a2, (m3a, m3b, m3c, m3d, m3e, m3f), num a4, (m5a, m5b, m5c, m5d, m5e, m5f), num a6⟩)) (by simp [results, Tryz.results115, go_sem, hcx, arpC]) rfl ?_
      refine ⟨.inl ⟨_, ⟨_, rfl, ?_⟩, rfl⟩, hfa.trans' hf9 (fun b hb e => by unfold oneB at e; omega)⟩
      rw [Hs.out, if_pos ⟨H1.out, .inl H2.out⟩]
    · have h2b : ((num a2 : Int) == 1) = false := by simp; omega
      by_cases h3 : num a2 = 2
      · have h3b : ((num a2 : Int) == 2) = true := by simp [h3]
        have H1 := Lib.hid h1
        have H3 := Lib.hid h3
        clear h1 h2 h3
        go_wp2_with fail
        refine (must_yes _ _).mono ?_
        rintro e w8 ⟨rfl, rfl⟩
        go_wp2_with ((refine wpList_store_bk rfl 67 (.tmp 2) (.tmp 31) rfl w.heap.size _ _ _ rfl rfl hxa rfl (by kernel_rfl) (by kernel_rfl) ?_); intro w9 hx9 hf9)
        have hcx := hx9.cells
        refine bodyPost_ret (v := Value.agg (arpC ⟨num a2, (m3a, m3b, m3c, m3d, m3e, m3f), num a4, (m5a, m5b, m5c, m5d, m5e, m5f), num a6⟩)) (by simp [results, Tryz.results115, go_sem, hcx, arpC]) rfl ?_
        refine ⟨.inl ⟨_, ⟨_, rfl, ?_⟩, rfl⟩, hfa.trans' hf9 (fun b hb e => by unfold oneB at e; omega)⟩
        rw [Hs.out, if_pos ⟨H1.out, .inr H3.out⟩]
      · have h3b : ((num a2 : Int) == 2) = false := by simp; omega
        have hno : Hid (¬ (a1 = [0, 1, 8, 0, 6, 4] ∧ (num a2 = 1 ∨ num a2 = 2))) := by unfold Hid; rintro ⟨_, h | h⟩ <;> contradiction
        clear h1 h2 h3
        go_wp2_with fail
        refine (must_no _ _).mono ?_
        rintro e w8 ⟨rfl, rfl⟩
        refine ⟨rfl, .inr ⟨2, ⟨2, rfl, ?_⟩, rfl⟩, hfa⟩
        rw [Hs.out, if_neg hno.out]
  · have h1b : (a1 == [0, 1, 8, 0, 6, 4]) = false := by simpa using h1
    have hno : Hid (¬ (a1 = [0, 1, 8, 0, 6, 4] ∧ (num a2 = 1 ∨ num a2 = 2))) := by unfold Hid; rintro ⟨h, _⟩; contradiction
    clear h1
    go_wp2_with fail
    refine (must_no _ _).mono ?_
    rintro e w8 ⟨rfl, rfl⟩
    refine ⟨rfl, .inr ⟨2, ⟨2, rfl, ?_⟩, rfl⟩, hfa⟩
    rw [Hs.out, if_neg hno.out]

def arpPost (l : List UInt8) (w : World) (e : Ending) (w' : World) : Prop := e = .returned (.tuple #[.agg (arpC (readARP l).1), .int .i64 ((readARP l).2 : Int)]) ∧ Fr noB w w'
theorem arpRead (l : List UInt8) (w : World) (hl : l.length ≤ 9223372036854775807) :
    Calls Tryz.prog 114 #[.string (bs l), .func (.func 115) #[] #[]] w (arpPost l w) := by
  refine (readArp l w (arpOk l) (arpBad l) (by rintro c ⟨x, rfl, _⟩; exact ⟨rfl, by kernel_rfl⟩) (fun p w1 _ hR _ => arpBy l hl p w1 hR)).mono ?_
  rintro e w' ⟨⟨c, ⟨x, rfl, hx⟩, rfl⟩ | ⟨er, ⟨k, rfl, hk⟩, rfl⟩, hf⟩
  · exact ⟨by rw [hx]; rfl, hf⟩
  · exact ⟨by rw [hk]; rfl, hf⟩
end Go.Proofs.YtcbkaiakdhiloabGreatDoor
namespace Go.Proofs.YtcbkaiakdhiloabGreatDoor
open Go.RowKit Go.Proofs
attribute [local go_sem] bs_size bs_append bs_extract

def zcEth : Array Value := #[.int .u8 0, .int .u8 0, .int .u8 0, .int .u8 0, .int .u8 0, .int .u8 0, .int .u8 0, .int .u8 0, .int .u8 0, .int .u8 0, .int .u8 0, .int .u8 0, .int .u16 0, .string ⟨#[]⟩]
set_option maxRecDepth 20000 in
set_option maxHeartbeats 1000000 in
theorem catchEth (gx ge : Nat) (er : Int) (w : World) (hx : Bk w gx 27 zcEth) (he : Bk w ge 28 #[.int .i64 0]) (hne : gx ≠ ge) :
    CallsD Tryz.prog 109 #[.pointer (some ⟨gx, 0, none⟩), .pointer (some ⟨ge, 0, none⟩)] (.panicking (faultC er)) w fun r u' w' =>
      r = .returned (.tuple #[]) ∧ u' = .panicking [{ v := .iface 182 (.agg #[.int .i64 er]), recovered := true }] ∧ Bk w' gx 27 zcEth ∧ Bk w' ge 28 #[.int .i64 er] ∧ Fr (twoB gx ge) w w' := by
  have hta := fault_is er
  have hbf := (Bk.new w 182 #[.int .i64 er]).alloc (.cells zcEth 27)
  have hbz := Bk.new (w.alloc (.cells #[.int .i64 er] 182)) 27 zcEth
  rw [show (w.alloc (.cells #[.int .i64 er] 182)).heap.size = w.heap.size + 1 by simp] at hbz
  have hx2 := (hx.alloc (.cells #[.int .i64 er] 182)).alloc (.cells zcEth 27)
  have he2 := (he.alloc (.cells #[.int .i64 er] 182)).alloc (.cells zcEth 27)
  have hf2 : Fr (twoB gx ge) w ((w.alloc (.cells #[.int .i64 er] 182)).alloc (.cells zcEth 27)) := ((Fr.refl _ _).alloc _).alloc _
  have hgx := hx.lt
  have hge := he.lt
  refine callsD_of_wpS Tryz.func109 rfl fun c₀ cs hu => ?_
  apply wpS_seq
  apply wpS_region
  simp [wpOpsS, go_sem, recoverD, hu, Tryz.ntmps109, Exit.thenS, faultC]
  refine wpS_of_wp ?_
  simp only [Array.replicate_succ, Array.replicate_zero, List.push_toArray, List.append_toArray, List.nil_append, List.cons_append, List.setIfInBounds_toArray, List.set_cons_zero, List.set_cons_succ]
  go_wp2_with fail
  unfold zcEth at hbf hbz hx2 he2 hf2
  generalize (w.alloc (.cells #[.int .i64 er] 182)).alloc (.cells #[.int .u8 0, .int .u8 0, .int .u8 0, .int .u8 0, .int .u8 0, .int .u8 0, .int .u8 0, .int .u8 0, .int .u8 0, .int .u8 0, .int .u8 0, .int .u8 0, .int .u16 0, .string ⟨#[]⟩] 27) = w2 at *
  refine wp_region_ssa (by kernel_rfl) (by kernel_rfl) (by kernel_rfl)
    (fun u => ⟨#[.pointer (some ⟨gx, 0, none⟩), .pointer (some ⟨ge, 0, none⟩), undef, .pointer (some ⟨w.heap.size, 0, none⟩), .pointer (some ⟨w.heap.size + 1, 0, none⟩), undef,
      .iface 182 (.agg #[.int .i64 er]), undef, .bool false, .tuple #[.agg #[.int .i64 er], .bool true], .bool true, .agg #[.int .i64 er], u 0, u 1, u 2], []⟩)
    (fun j v _ => match j with | 0 => v = .agg zcEth | 1 => v = .pointer (some ⟨w.heap.size, 0, none⟩) | 2 => v = .int .i64 er | _ => True)
    (fun L w3 => Bk w3 w.heap.size 182 #[.int .i64 er] ∧ Bk w3 (w.heap.size + 1) 27 zcEth ∧ Bk w3 gx 27 zcEth ∧ Bk w3 ge 28 #[if L 4 then .int .i64 er else .int .i64 0] ∧ Fr (twoB gx ge) w w3) (fun _ => undef) ⟨hbf.drew, hbz.drew, hx2.drew, he2.drew, hf2.drew⟩ ?_ ?_
  · rintro L u w3 i o ⟨g1, g2, g3, g4, g5⟩ hΦ ho hL hd K hK
    match i, ho with
    | 0, ho =>
      simp at ho; subst ho
      refine wp_load_row 27 (.tmp 4) rfl (w.heap.size + 1) rfl _ _ _ _ g2 Tryz.underlying27 rfl (by kernel_rfl) ?_
      exact hK _ _ rfl ⟨g1, g2, g3, g4, g5⟩ (fun _ _ _ h => h)
    | 1, ho =>
      simp at ho; subst ho
      clear hΦ hd
      go_simp
      exact hK _ _ rfl ⟨g1, g2, g3, g4, g5⟩ (fun _ _ _ h => h)
    | 2, ho =>
      simp at ho; subst ho
      have hu1 := hΦ 1 (hd ⟨1, .data⟩ (by simp) (by rfl))
      simp only at hu1
      have hc := g1.cells
      clear hΦ hd
      go_simp
      have hk := hK _ w3 rfl ⟨g1, g2, g3, g4, g5⟩ (fun _ _ _ h => h)
      simp only [upd, hu1] at hk
      exact hk
    | 3, ho =>
      simp at ho; subst ho
      have hu0 := hΦ 0 (hd ⟨0, .data⟩ (by simp) (by rfl))
      refine wp_store_bk 27 (.tmp 0) (.tmp 12) rfl gx _ _ _ rfl hu0 g3 rfl (by kernel_rfl) (by kernel_rfl) ?_
      intro w4 b4 f4
      refine hK undef _ trivial ⟨g1.keep f4 ?_, g2.keep f4 ?_, b4, g4.keep f4 ?_, g5.trans' f4 ?_⟩ (fun _ _ _ h => h)
      · unfold oneB; omega
      · unfold oneB; omega
      · unfold oneB; omega
      · intro b _ e; exact .inl e
    | 4, ho =>
      simp at ho; subst ho
      have hu2 := hΦ 2 (hd ⟨2, .data⟩ (by simp) (by rfl))
      simp only [hL] at g4 hu2
      have hc := g4.cells
      have hz := g4.frees
      clear hΦ hd
      go_simp
      have h4 : Bk (w3.setCell ⟨ge, 0, none⟩ (.int .i64 er)) ge 28 #[.int .i64 er] := by simpa using g4.set 0 (.int .i64 er)
      have hk := hK undef (w3.setCell ⟨ge, 0, none⟩ (.int .i64 er)) trivial ⟨g1.far (by simp; omega) _, g2.far (by simp; omega) _, g3.far (by simpa using hne) _, h4, g5.setCell (p := ⟨ge, 0, none⟩) (fun _ => .inr rfl) _⟩ (fun _ _ _ h => h)
      simp only [upd, hu2] at hk
      exact hk
  · rintro u w3 hΦ L hall ⟨g1, g2, g3, g4, g5⟩
    rw [hall 4 (by simp)] at g4
    exact ⟨rfl, _, rfl, .tuple #[], by simp [results, Tryz.results109], rfl, rfl, g3, by simpa using g4, g5⟩

theorem idleEth (gx ge : Nat) (w : World) :
    CallsD Tryz.prog 109 #[.pointer (some ⟨gx, 0, none⟩), .pointer (some ⟨ge, 0, none⟩)] .returning w fun r u' w' =>
      r = .returned (.tuple #[]) ∧ u' = .returning ∧ w' = w := by
  refine callsD_of_wpS Tryz.func109 rfl fun c₀ cs hu => ?_
  apply wpS_seq
  apply wpS_region
  simp [wpOpsS, go_sem, recoverD, hu, Tryz.ntmps109, Exit.thenS]
  refine wpS_of_wp ?_
  simp only [Array.replicate_succ, Array.replicate_zero, List.push_toArray, List.append_toArray, List.nil_append, List.cons_append, List.setIfInBounds_toArray, List.set_cons_zero, List.set_cons_succ]
  go_wp2_with fail
  simp [Exit.inBlock, bodyPostS, results, Tryz.results109]
  cases c₀
  simp at hu
  simp [hu]

set_option maxRecDepth 20000 in
set_option maxHeartbeats 1000000 in
/-- Read, over the reading function: what that returns, or its fault's error. -/
theorem readEth (l : List UInt8) (w : World) (ok : Array Value → Prop) (bad : Int → Prop) (hok : ∀ c, ok c → c.size = zcEth.size ∧ c.all (·.oneCell') = true)
    (hby : ∀ (p : Nat) (w1 : World), w.heap.size ≤ p → Rd w1 p l → Fr noB w w1 → Calls Tryz.prog 61 #[.pointer (some ⟨p, 0, none⟩)] w1 (byPost ok bad p w1)) :
    Calls Tryz.prog 60 #[.string (bs l), .func (.func 61) #[] #[]] w (readPost zcEth ok bad w) := by
  have hmf : ∀ (fn : Fn) (first cap : Array Value) (w : World), (Instr.makeFunc fn first cap).run Tryz.prog w = .ok (.func fn first cap) w := fun _ _ _ _ => rfl
  go_enter_defers Tryz.func60, Tryz.ntmps60
  have Hby := Lib.hid hby
  have Hok := Lib.hid hok
  clear hby hok
  go_wp2_with fail
  have hx0 := ((Bk.new w 27 zcEth).alloc (.cells #[.int .i64 0] 28)).alloc (.cells #[.string (bs l)] 184)
  have he0 := (Bk.new (w.alloc (.cells zcEth 27)) 28 #[.int .i64 0]).alloc (.cells #[.string (bs l)] 184)
  have hr0 := Bk.new ((w.alloc (.cells zcEth 27)).alloc (.cells #[.int .i64 0] 28)) 184 #[.string (bs l)]
  rw [show ((w.alloc (.cells zcEth 27)).alloc (.cells #[.int .i64 0] 28)).heap.size = w.heap.size + 1 + 1 by simp] at hr0
  rw [show (w.alloc (.cells zcEth 27)).heap.size = w.heap.size + 1 by simp] at he0
  have hf0 : Fr noB w (((w.alloc (.cells zcEth 27)).alloc (.cells #[.int .i64 0] 28)).alloc (.cells #[.string (bs l)] 184)) := (((Fr.refl _ _).alloc _).alloc _).alloc _
  unfold zcEth at hx0 he0 hr0 hf0
  generalize ((w.alloc (.cells #[.int .u8 0, .int .u8 0, .int .u8 0, .int .u8 0, .int .u8 0, .int .u8 0, .int .u8 0, .int .u8 0, .int .u8 0, .int .u8 0, .int .u8 0, .int .u8 0, .int .u16 0, .string ⟨#[]⟩] 27)).alloc (.cells #[.int .i64 0] 28)).alloc (.cells #[.string (bs l)] 184) = w1 at *
  refine (Hby.out _ w1 (by omega) hr0 hf0).mono ?_
  rintro e w2 ⟨⟨x, hx, rfl⟩ | ⟨er, hbad, rfl⟩, hf1⟩
  · have hx1 := hx0.keep hf1 (by unfold oneB; omega)
    have he1 := he0.keep hf1 (by unfold oneB; omega)
    obtain ⟨hsx, hox⟩ := Hok.out x hx
    have Hsx := Lib.hid hsx
    have Hox := Lib.hid hox
    have hix : (Tryz.prog.info? 27).map (·.size) = some x.size := by rw [hsx]; kernel_rfl
    have Hix := Lib.hid hix
    clear hsx hox hix
    go_wp2_with ((refine wpList_store_bk rfl 27 (.tmp 4) (.tmp 11) rfl w.heap.size _ _ x rfl rfl hx1 Hsx.out Hix.out Hox.out ?_); intro w3 hx3 hf3; have he3 := he1.keep hf3 (by unfold oneB; omega); have hc3 := he3.cells; have hz3 := he3.frees)
    have hb3 : Bk (w3.setCell ⟨w.heap.size + 1, 0, none⟩ (.int .i64 0)) (w.heap.size + 1) 28 #[.int .i64 0] := by simpa using he3.set 0 (.int .i64 0)
    have hx4 := hx3.far (p := ⟨w.heap.size + 1, 0, none⟩) (by simp) (.int .i64 0)
    have hfin : Fr noB w (w3.setCell ⟨w.heap.size + 1, 0, none⟩ (.int .i64 0)) := by
      refine (((hf0.trans' hf1 ?_).trans' hf3 ?_).setCell ?_ _)
      · intro b hb e; unfold oneB at e; omega
      · intro b hb e; unfold oneB at e; omega
      · intro e; exact absurd e (by simp)
    generalize w3.setCell ⟨w.heap.size + 1, 0, none⟩ (.int .i64 0) = w4 at *
    refine leaves_cons (f := 109) (args := #[.pointer (some ⟨w.heap.size, 0, none⟩), .pointer (some ⟨w.heap.size + 1, 0, none⟩)]) (by simp) (by simp [go_sem]) ?_
    refine (idleEth _ _ _).mono ?_
    rintro e u' w5 ⟨rfl, rfl, rfl⟩
    refine ⟨.tuple #[.agg x, .int .i64 0], ?_, ⟨.inl ⟨_, hx, rfl⟩, hfin⟩⟩
    exact results_row_int Tryz.results60 _ w5 w.heap.size (w.heap.size + 1) _ _ x 0 _ _ rfl rfl hx4 hb3 Tryz.underlying27 rfl Hix.out Tryz.underlying28
  · have hx1 := hx0.keep hf1 (by unfold oneB; omega)
    have he1 := he0.keep hf1 (by unfold oneB; omega)
    have hfin : Fr noB w w2 := hf0.trans' hf1 (fun b hb e => by unfold oneB at e; omega)
    refine leaves_cons (f := 109) (args := #[.pointer (some ⟨w.heap.size, 0, none⟩), .pointer (some ⟨w.heap.size + 1, 0, none⟩)]) (by simp) (by simp [go_sem]) ?_
    refine (catchEth w.heap.size (w.heap.size + 1) er w2 hx1 he1 (by omega)).mono ?_
    rintro e u' w5 ⟨rfl, rfl, hx5, he5, hf5⟩
    refine ⟨.tuple #[.agg zcEth, .int .i64 er], ?_, ⟨.inr ⟨er, hbad, rfl⟩, hfin.trans' hf5 ?_⟩⟩
    · exact results_row_int Tryz.results60 _ w5 w.heap.size (w.heap.size + 1) _ _ _ er _ _ rfl rfl hx5 he5 Tryz.underlying27 rfl (by kernel_rfl) Tryz.underlying28
    · intro b hb e; unfold twoB at e; omega
end Go.Proofs.YtcbkaiakdhiloabGreatDoor
namespace Go.Proofs.YtcbkaiakdhiloabGreatDoor
open Go.RowKit Go.Proofs
attribute [local go_sem] bs_size bs_append bs_extract

theorem rLen (p : Nat) (l : List UInt8) (w : World) (hR : Rd w p l) :
    Calls Tryz.prog 65 #[.pointer (some ⟨p, 0, none⟩)] w fun e w' => e = .returned (.int .i64 l.length) ∧ w = w' := by
  have hc0 : w.cell? ⟨p, 0, none⟩ = some (.string (bs l)) := by simpa using Bk.cell hR 0
  go_enter Tryz.func65, Tryz.ntmps65
  go_wp2_with fail
  go_ret
  exact ⟨rfl, rfl⟩
theorem rRest (p : Nat) (l : List UInt8) (w : World) (hR : Rd w p l) (hl : l.length ≤ 9223372036854775807) :
    Calls Tryz.prog 66 #[.pointer (some ⟨p, 0, none⟩)] w fun e w' => e = .returned (.string (bs l)) ∧ Rd w' p [] ∧ Fr (oneB p) w w' := by
  have hc0 : w.cell? ⟨p, 0, none⟩ = some (.string (bs l)) := by simpa using Bk.cell hR 0
  go_enter Tryz.func66, Tryz.ntmps66
  go_wp2_with fail
  refine (rTake l.length p l _ hR hl hl).mono ?_
  rintro e w1 (⟨hle, rfl, hR1, hf1⟩ | ⟨hlt, rfl, hf1⟩)
  · rw [List.take_length]
    rw [List.drop_length] at hR1
    go_wp2_with fail
    go_ret
    exact ⟨rfl, hR1, hf1⟩
  · omega

end Go.Proofs.YtcbkaiakdhiloabGreatDoor
namespace Go.Proofs.YtcbkaiakdhiloabGreatDoor
open Go.RowKit Go.Proofs
attribute [local go_sem] bs_size bs_append bs_extract bs_toList

/-- an Ethernet frame: to, from, what, what it carries -/
structure EthD where
  «to» : Mac
  fm : Mac
  ty : Nat
  by' : List UInt8
def eth0 : EthD := ⟨(0, 0, 0, 0, 0, 0), (0, 0, 0, 0, 0, 0), 0, []⟩
def ethC (a : EthD) : Array Value := #[.int .u8 (a.«to».1.toNat : Int), .int .u8 (a.«to».2.1.toNat : Int), .int .u8 (a.«to».2.2.1.toNat : Int), .int .u8 (a.«to».2.2.2.1.toNat : Int), .int .u8 (a.«to».2.2.2.2.1.toNat : Int), .int .u8 (a.«to».2.2.2.2.2.toNat : Int), .int .u8 (a.fm.1.toNat : Int), .int .u8 (a.fm.2.1.toNat : Int), .int .u8 (a.fm.2.2.1.toNat : Int), .int .u8 (a.fm.2.2.2.1.toNat : Int), .int .u8 (a.fm.2.2.2.2.1.toNat : Int), .int .u8 (a.fm.2.2.2.2.2.toNat : Int), .int .u16 (a.ty : Int), .string (bs a.by')]
theorem eth0_zc : ethC eth0 = zcEth := rfl

def readEther (l : List UInt8) : EthD × Nat :=
  if l.length < 14 then (eth0, 1)
  else if num (sub l 12 14) < 1536 then (eth0, 3)
  else if 1500 < (sub l 14 l.length).length then (eth0, 7)
  else (⟨macOf l, macOf (sub l 6 l.length), num (sub l 12 14), sub l 14 l.length⟩, 0)
theorem readEther_short (l : List UInt8) (h : l.length < 14) : readEther l = (eth0, 1) := by unfold readEther; rw [if_pos h]
theorem readEther_of (l a3 r : List UInt8) (b0 b1 b2 b3 b4 b5 c0 c1 c2 c3 c4 c5 : UInt8) (e : l = (([b0, b1, b2, b3, b4, b5] ++ [c0, c1, c2, c3, c4, c5]) ++ a3) ++ r) (l3 : a3.length = 2) :
    readEther l = if num a3 < 1536 then (eth0, 3) else if 1500 < r.length then (eth0, 7) else (⟨(b0, b1, b2, b3, b4, b5), (c0, c1, c2, c3, c4, c5), num a3, r⟩, 0) := by
  have h14 : ¬ l.length < 14 := by rw [e]; simp [l3]
  match a3, l3 with
  | [x0, x1], _ =>
    unfold readEther
    rw [if_neg h14, sub_rest, sub_rest]
    subst e
    rfl

def ethOk (l : List UInt8) (c : Array Value) : Prop := ∃ x, c = ethC x ∧ readEther l = (x, 0)
def ethBad (l : List UInt8) (er : Int) : Prop := ∃ k : Nat, er = k ∧ readEther l = (eth0, k)
set_option maxRecDepth 20000 in
set_option maxHeartbeats 1000000 in
theorem ethBy (l : List UInt8) (hl : l.length ≤ 9223372036854775807) (p : Nat) (w : World) (hR : Rd w p l) :
    Calls Tryz.prog 61 #[.pointer (some ⟨p, 0, none⟩)] w (byPost (ethOk l) (ethBad l) p w) := by
  have hp := Bk.lt hR
  go_enter Tryz.func61, Tryz.ntmps61
  go_wp2_with fail
  have hr0 := Bk.alloc hR (.cells zcEth 27)
  have hx0 := Bk.new w 27 zcEth
  have hf0 : Fr (oneB p) w (w.alloc (.cells zcEth 27)) := (Fr.refl _ _).alloc _
  unfold zcEth at hr0 hx0 hf0
  generalize w.alloc (.cells #[.int .u8 0, .int .u8 0, .int .u8 0, .int .u8 0, .int .u8 0, .int .u8 0, .int .u8 0, .int .u8 0, .int .u8 0, .int .u8 0, .int .u8 0, .int .u8 0, .int .u16 0, .string ⟨#[]⟩] 27) = w1 at *
  have hbad : ∀ w', l.length < 14 → Fr (oneB p) w w' → byPost (ethOk l) (ethBad l) p w (.panicked (faultC 1)) w' :=
    fun w' h hf => ⟨.inr ⟨1, ⟨1, rfl, readEther_short l h⟩, rfl⟩, hf⟩
  have Hbad := Lib.hid hbad
  clear hbad
  refine (tMAC p l _ hr0 hl).mono ?_
  rintro e w2 (⟨m1a, m1b, m1c, m1d, m1e, m1f, r1, c1, b1, rfl, hr1, hf1⟩ | ⟨hlt, rfl, hf1⟩)
  rotate_left
  · exact ⟨rfl, Hbad.out _ (by omega) (hf0.trans hf1)⟩
  have g1 := hf1
  have C1 : Hid (Cut l [m1a, m1b, m1c, m1d, m1e, m1f] r1 6) := c1
  clear c1 hf1 hr0
  go_wp2_with fail
  refine (tMAC p r1 _ hr1 b1).mono ?_
  rintro e w3 (⟨m2a, m2b, m2c, m2d, m2e, m2f, r2, c2, b2, rfl, hr2, hf2⟩ | ⟨hlt, rfl, hf2⟩)
  rotate_left
  · exact ⟨rfl, Hbad.out _ (by have x1 := C1.out; have x2 := congrArg List.length x1.1; rw [List.length_append, x1.2] at x2; omega) (hf0.trans (g1.trans hf2))⟩
  have g2 := g1.trans hf2
  have C2 : Hid (Cut l ([m1a, m1b, m1c, m1d, m1e, m1f] ++ [m2a, m2b, m2c, m2d, m2e, m2f]) r2 12) := by
    refine ⟨?_, ?_⟩
    · rw [C1.out.1, c2.1]; simp
    · rw [List.length_append, C1.out.2, c2.2]
  clear g1
  clear c2 hf2 hr1
  go_wp2_with fail
  refine (tU16 p r2 _ hr2 b2).mono ?_
  rintro e w4 (⟨a3, r3, c3, b3, rfl, hr3, hf3⟩ | ⟨hlt, rfl, hf3⟩)
  rotate_left
  · exact ⟨rfl, Hbad.out _ (by have x1 := C2.out; have x2 := congrArg List.length x1.1; rw [List.length_append, x1.2] at x2; omega) (hf0.trans (g2.trans hf3))⟩
  have g3 := g2.trans hf3
  have C3 : Hid (Cut l (([m1a, m1b, m1c, m1d, m1e, m1f] ++ [m2a, m2b, m2c, m2d, m2e, m2f]) ++ a3) r3 14) := by
    refine ⟨?_, ?_⟩
    · rw [C2.out.1, c3.1]; simp
    · rw [List.length_append, C2.out.2, c3.2]
  clear g2
  clear c3 hf3 hr2
  have hspec : readEther l = if num a3 < 1536 then (eth0, 3) else if 1500 < r3.length then (eth0, 7) else (⟨(m1a, m1b, m1c, m1d, m1e, m1f), (m2a, m2b, m2c, m2d, m2e, m2f), num a3, r3⟩, 0) := by
    obtain ⟨e1, e2⟩ := C3.out
    have l3 : a3.length = 2 := by simp at e2; omega
    exact readEther_of l a3 r3 _ _ _ _ _ _ _ _ _ _ _ _ e1 l3
  have Hs := Lib.hid hspec
  clear hspec
  have hxk := hx0.keep g3 (by unfold oneB; omega)
  have hfk := hf0.trans g3
  have hpk : p ≠ w4.heap.size := by have := Bk.lt hr3; omega
  have hwk : w.heap.size < w4.heap.size := hxk.lt
  clear hx0 hf0 g3
  have hbk := Bk.new w4 27 #[.int .u8 (m1a.toNat : Int), .int .u8 (m1b.toNat : Int), .int .u8 (m1c.toNat : Int), .int .u8 (m1d.toNat : Int), .int .u8 (m1e.toNat : Int), .int .u8 (m1f.toNat : Int), .int .u8 (m2a.toNat : Int), .int .u8 (m2b.toNat : Int), .int .u8 (m2c.toNat : Int), .int .u8 (m2d.toNat : Int), .int .u8 (m2e.toNat : Int), .int .u8 (m2f.toNat : Int), .int .u16 (num a3 : Int), .string ⟨#[]⟩]
  have hra := Bk.alloc hr3 (.cells #[.int .u8 (m1a.toNat : Int), .int .u8 (m1b.toNat : Int), .int .u8 (m1c.toNat : Int), .int .u8 (m1d.toNat : Int), .int .u8 (m1e.toNat : Int), .int .u8 (m1f.toNat : Int), .int .u8 (m2a.toNat : Int), .int .u8 (m2b.toNat : Int), .int .u8 (m2c.toNat : Int), .int .u8 (m2d.toNat : Int), .int .u8 (m2e.toNat : Int), .int .u8 (m2f.toNat : Int), .int .u16 (num a3 : Int), .string ⟨#[]⟩] 27)
  have hxa := hxk.alloc (.cells #[.int .u8 (m1a.toNat : Int), .int .u8 (m1b.toNat : Int), .int .u8 (m1c.toNat : Int), .int .u8 (m1d.toNat : Int), .int .u8 (m1e.toNat : Int), .int .u8 (m1f.toNat : Int), .int .u8 (m2a.toNat : Int), .int .u8 (m2b.toNat : Int), .int .u8 (m2c.toNat : Int), .int .u8 (m2d.toNat : Int), .int .u8 (m2e.toNat : Int), .int .u8 (m2f.toNat : Int), .int .u16 (num a3 : Int), .string ⟨#[]⟩] 27)
  have hfa := hfk.alloc (.cells #[.int .u8 (m1a.toNat : Int), .int .u8 (m1b.toNat : Int), .int .u8 (m1c.toNat : Int), .int .u8 (m1d.toNat : Int), .int .u8 (m1e.toNat : Int), .int .u8 (m1f.toNat : Int), .int .u8 (m2a.toNat : Int), .int .u8 (m2b.toNat : Int), .int .u8 (m2c.toNat : Int), .int .u8 (m2d.toNat : Int), .int .u8 (m2e.toNat : Int), .int .u8 (m2f.toNat : Int), .int .u16 (num a3 : Int), .string ⟨#[]⟩] 27)
  clear hxk hfk hr3
  have hv := hbk.cells
  by_cases h1 : num a3 < 1536
  · have h1b : (1536 : Int) ≤ (num a3 : Int) ↔ False := by simp; omega
    have H1 := Lib.hid h1
    clear h1
    go_wp2_with fail
    refine (must_no _ _).mono ?_
    rintro e w8 ⟨rfl, rfl⟩
    refine ⟨rfl, .inr ⟨3, ⟨3, rfl, ?_⟩, rfl⟩, hfa⟩
    rw [Hs.out, if_pos H1.out]
  · have h1b : (1536 : Int) ≤ (num a3 : Int) := by omega
    have H1 := Lib.hid h1
    clear h1
    go_wp2_with fail
    refine (must_yes _ _).mono ?_
    rintro e w8 ⟨rfl, rfl⟩
    go_wp2_with fail
    refine (rLen p r3 _ hra).mono ?_
    rintro e w8 ⟨rfl, rfl⟩
    by_cases h2 : 1500 < r3.length
    · have h2b : (r3.length : Int) ≤ 1500 ↔ False := by simp; omega
      have H2 := Lib.hid h2
      clear h2
      go_wp2_with fail
      refine (must_no _ _).mono ?_
      rintro e w8 ⟨rfl, rfl⟩
      refine ⟨rfl, .inr ⟨7, ⟨7, rfl, ?_⟩, rfl⟩, hfa⟩
      rw [Hs.out, if_neg H1.out, if_pos H2.out]
    · have h2b : (r3.length : Int) ≤ 1500 := by omega
      have H2 := Lib.hid h2
      clear h2
      go_wp2_with fail
      refine (must_yes _ _).mono ?_
      rintro e w8 ⟨rfl, rfl⟩
      go_wp2_with fail
      refine (rRest p r3 _ hra b3).mono ?_
      rintro e w9 ⟨rfl, hr9, hf9⟩
      have hxb := hxa.keep hf9 (by unfold oneB; omega)
      have hbb := hbk.keep hf9 (by unfold oneB; omega)
      have hfb := hfa.trans hf9
      clear hxa hbk hfa hf9 hr9 hra hv
      have hz9 := hbb.frees
      have hv9 := hbb.cells
      have hb13 : Bk (w9.setCell ⟨w4.heap.size, 13, none⟩ (.string (bs r3))) w4.heap.size 27 #[.int .u8 (m1a.toNat : Int), .int .u8 (m1b.toNat : Int), .int .u8 (m1c.toNat : Int), .int .u8 (m1d.toNat : Int), .int .u8 (m1e.toNat : Int), .int .u8 (m1f.toNat : Int), .int .u8 (m2a.toNat : Int), .int .u8 (m2b.toNat : Int), .int .u8 (m2c.toNat : Int), .int .u8 (m2d.toNat : Int), .int .u8 (m2e.toNat : Int), .int .u8 (m2f.toNat : Int), .int .u16 (num a3 : Int), .string (bs r3)] := by simpa using hbb.set 13 (.string (bs r3))
      have hx13 := hxb.far (p := ⟨w4.heap.size, 13, none⟩) (by simp; omega) (.string (bs r3))
      have hf13 := hfb.setCell (p := ⟨w4.heap.size, 13, none⟩) (fun e => absurd e (by simp; omega)) (.string (bs r3))
      have hv13 := hb13.cells
      clear hbb hxb hfb hb13
      go_wp2_with ((refine wpList_store_bk rfl 27 (.tmp 2) (.tmp 22) rfl w.heap.size _ _ _ rfl rfl hx13 rfl (by kernel_rfl) (by kernel_rfl) ?_); intro w10 hx10 hf10)
      have hcx := hx10.cells
      refine bodyPost_ret (v := Value.agg (ethC ⟨(m1a, m1b, m1c, m1d, m1e, m1f), (m2a, m2b, m2c, m2d, m2e, m2f), num a3, r3⟩)) (by simp [results, Tryz.results61, go_sem, hcx, ethC]) rfl ?_
      refine ⟨.inl ⟨_, ⟨_, rfl, ?_⟩, rfl⟩, hf13.trans' hf10 (fun b hb e => by unfold oneB at e; omega)⟩
      rw [Hs.out, if_neg H1.out, if_neg H2.out]

def ethPost (l : List UInt8) (w : World) (e : Ending) (w' : World) : Prop := e = .returned (.tuple #[.agg (ethC (readEther l).1), .int .i64 ((readEther l).2 : Int)]) ∧ Fr noB w w'
theorem ethRead (l : List UInt8) (w : World) (hl : l.length ≤ 9223372036854775807) :
    Calls Tryz.prog 60 #[.string (bs l), .func (.func 61) #[] #[]] w (ethPost l w) := by
  refine (readEth l w (ethOk l) (ethBad l) (by rintro c ⟨x, rfl, _⟩; exact ⟨rfl, by kernel_rfl⟩) (fun p w1 _ hR _ => ethBy l hl p w1 hR)).mono ?_
  rintro e w' ⟨⟨c, ⟨x, rfl, hx⟩, rfl⟩ | ⟨er, ⟨k, rfl, hk⟩, rfl⟩, hf⟩
  · exact ⟨by rw [hx]; rfl, hf⟩
  · exact ⟨by rw [hk]; rfl, hf⟩
end Go.Proofs.YtcbkaiakdhiloabGreatDoor
namespace Go.Proofs.YtcbkaiakdhiloabGreatDoor

/-- an option -/
structure OptD where
  code : UInt8
  data : List UInt8
/-- an option's bytes: pieces of 255 at the most -/
def chunkF : Nat → UInt8 → List UInt8 → List UInt8
  | 0, c, d => [c, UInt8.ofNat d.length] ++ d
  | n + 1, c, d => if d.length ≤ 255 then [c, UInt8.ofNat d.length] ++ d else [c, 255] ++ d.take 255 ++ chunkF n c (d.drop 255)
def chunk (c : UInt8) (d : List UInt8) : List UInt8 := chunkF d.length c d
theorem chunkF_eq : ∀ (n m : Nat) (c : UInt8) (d : List UInt8), d.length ≤ n → d.length ≤ m → chunkF n c d = chunkF m c d
  | 0, 0, _, _, _, _ => rfl
  | 0, m + 1, c, d, h, _ => by
    have : d = [] := List.eq_nil_of_length_eq_zero (by omega)
    subst this; simp [chunkF]
  | n + 1, 0, c, d, _, h => by
    have : d = [] := List.eq_nil_of_length_eq_zero (by omega)
    subst this; simp [chunkF]
  | n + 1, m + 1, c, d, h1, h2 => by
    simp only [chunkF]
    split
    · rfl
    · rename_i h
      rw [chunkF_eq n m c (d.drop 255) (by rw [List.length_drop]; omega) (by rw [List.length_drop]; omega)]
theorem chunk_small (c : UInt8) (d : List UInt8) (h : d.length ≤ 255) : chunk c d = [c, UInt8.ofNat d.length] ++ d := by
  unfold chunk
  cases hd : d.length with
  | zero => simp [chunkF, hd]
  | succ n => simp only [chunkF]; rw [if_pos h, hd]
theorem chunk_big (c : UInt8) (d : List UInt8) (h : 255 < d.length) : chunk c d = [c, 255] ++ d.take 255 ++ chunk c (d.drop 255) := by
  unfold chunk
  obtain ⟨n, hn⟩ : ∃ n, d.length = n + 1 := ⟨d.length - 1, by omega⟩
  rw [hn]
  simp only [chunkF]
  rw [if_neg (by omega), chunkF_eq n (d.drop 255).length c (d.drop 255) (by rw [List.length_drop]; omega) (Nat.le_refl _)]
/-- the program's own step: min(255, len) bytes, and on while there are more -/
theorem chunk_step (c : UInt8) (d : List UInt8) (h : 255 ≤ d.length) (hd : d.drop 255 ≠ []) : chunk c d = [c, 255] ++ d.take 255 ++ chunk c (d.drop 255) := by
  rcases Nat.lt_or_ge 255 d.length with h1 | h1
  · exact chunk_big c d h1
  · exact absurd (List.drop_eq_nil_of_le (by omega)) hd
theorem chunk_last (c : UInt8) (d : List UInt8) (h : d.length ≤ 255) : chunk c d = [c, UInt8.ofNat (min d.length 255)] ++ d.take (min d.length 255) := by
  rw [chunk_small c d h, Nat.min_eq_left h, List.take_length]
/-- zeros behind, till there are n bytes -/
def zeroTo (l : List UInt8) (n : Nat) : List UInt8 := l ++ List.replicate (n - l.length) 0
/-- may an option be written? -/
def optBad (o : OptD) : Bool := o.code == 0 || o.code == 255 || o.code == 52
/-- what stands ahead of the options -/
def dhcHead (reply : Bool) (xid client yours next : Nat) (mac : List UInt8) : List UInt8 :=
  zeroTo ([if reply then 2 else 1, 1, 6, 0] ++ big 4 xid ++ [0, 0] ++ (if client = 0 then [128, 0] else [0, 0]) ++ big 4 client ++ big 4 yours ++ big 4 next ++ big 4 0 ++ mac) 236 ++ [99, 130, 83, 99]
def dhcBody (head : List UInt8) (os : List OptD) : List UInt8 := zeroTo (head ++ os.flatMap (fun o => chunk o.code o.data) ++ [255]) 300
/-- a message as bytes, and the error's number -/
def wrDHCP (reply : Bool) (xid client yours next : Nat) (mac : List UInt8) (os : List OptD) : List UInt8 × Nat :=
  if os.any optBad then ([], 2)
  else if 1472 < (dhcBody (dhcHead reply xid client yours next mac) os).length then ([], 7)
  else (dhcBody (dhcHead reply xid client yours next mac) os, 0)
theorem zeroTo_length (l : List UInt8) (n : Nat) : (zeroTo l n).length = max l.length n := by unfold zeroTo; simp; omega
theorem dhcHead_length (reply : Bool) (xid client yours next : Nat) (mac : List UInt8) (hm : mac.length = 6) : (dhcHead reply xid client yours next mac).length = 240 := by
  unfold dhcHead
  rw [List.length_append, zeroTo_length]
  by_cases hc : client = 0 <;> cases reply <;> simp [hc, big_length, hm]

/-! How one is read. -/
/-- more of an option -/
def optAdd : List OptD → UInt8 → List UInt8 → List OptD
  | [], c, d => [⟨c, d⟩]
  | o :: r, c, d => if o.code = c then ⟨o.code, o.data ++ d⟩ :: r else o :: optAdd r c d
def optOf : List OptD → UInt8 → Option (List UInt8)
  | [], _ => none
  | o :: r, c => if o.code = c then some o.data else optOf r c
/-- options out of bytes, up to their end; none: there is no end -/
def optRead : Nat → List OptD → List UInt8 → Option (List OptD)
  | 0, _, _ => none
  | _ + 1, _, [] => none
  | n + 1, os, c :: r =>
    if c = 255 then some os
    else if c = 0 then optRead n os r
    else match r with
      | [] => none
      | k :: r => if r.length < k.toNat then none else optRead n (optAdd os c (r.take k.toNat)) (r.drop k.toNat)
end Go.Proofs.YtcbkaiakdhiloabGreatDoor
namespace Go.Proofs.YtcbkaiakdhiloabGreatDoor

/-- enough fuel is enough -/
theorem optRead_fuel : ∀ (n m : Nat) (os : List OptD) (l : List UInt8), l.length < n → l.length < m → optRead n os l = optRead m os l
  | 0, _, _, _, h, _ => absurd h (Nat.not_lt_zero _)
  | _, 0, _, _, _, h => absurd h (Nat.not_lt_zero _)
  | n + 1, m + 1, os, [], _, _ => rfl
  | n + 1, m + 1, os, c :: r, h1, h2 => by
    simp only [List.length_cons] at h1 h2
    simp only [optRead]
    split
    · rfl
    · split
      · exact optRead_fuel n m os r (by omega) (by omega)
      · cases r with
        | nil => rfl
        | cons k r =>
          simp only [List.length_cons] at h1 h2
          simp only
          split
          · rfl
          · exact optRead_fuel n m _ _ (by rw [List.length_drop]; omega) (by rw [List.length_drop]; omega)
theorem optRead_cons (n : Nat) (os : List OptD) (c : UInt8) (r : List UInt8) : optRead (n + 1) os (c :: r) =
    (if c = 255 then some os
    else if c = 0 then optRead n os r
    else match r with
      | [] => none
      | k :: r => if r.length < k.toNat then none else optRead n (optAdd os c (r.take k.toNat)) (r.drop k.toNat)) := rfl
/-- options out of bytes -/
def optRd (os : List OptD) (l : List UInt8) : Option (List OptD) := optRead (l.length + 1) os l
theorem optRd_nil (os : List OptD) : optRd os [] = none := rfl
theorem optRd_end (os : List OptD) (r : List UInt8) : optRd os (255 :: r) = some os := rfl
theorem optRd_pad (os : List OptD) (r : List UInt8) : optRd os (0 :: r) = optRd os r := by
  unfold optRd
  rw [List.length_cons, optRead_cons, if_neg (by decide), if_pos rfl]
theorem optRd_one (os : List OptD) (c : UInt8) (h1 : c ≠ 255) (h2 : c ≠ 0) : optRd os [c] = none := by
  unfold optRd
  rw [List.length_cons, optRead_cons, if_neg h1, if_neg h2]
theorem optRd_short (os : List OptD) (c k : UInt8) (r : List UInt8) (h1 : c ≠ 255) (h2 : c ≠ 0) (h : r.length < k.toNat) : optRd os (c :: k :: r) = none := by
  unfold optRd
  rw [List.length_cons, optRead_cons, if_neg h1, if_neg h2]
  exact if_pos h
theorem optRd_opt (os : List OptD) (c k : UInt8) (r : List UInt8) (h1 : c ≠ 255) (h2 : c ≠ 0) (h : ¬ r.length < k.toNat) :
    optRd os (c :: k :: r) = optRd (optAdd os c (r.take k.toNat)) (r.drop k.toNat) := by
  unfold optRd
  rw [List.length_cons, optRead_cons, if_neg h1, if_neg h2]
  refine (if_neg h).trans ?_
  exact optRead_fuel _ _ _ _ (by rw [List.length_drop, List.length_cons]; omega) (by omega)

/-- a message -/
structure DhcD where
  reply : Bool
  xid : Nat
  client : Nat
  yours : Nat
  next : Nat
  mac : Mac
  os : List OptD
def dhc0 : DhcD := ⟨false, 0, 0, 0, 0, (0, 0, 0, 0, 0, 0), []⟩
/-- options that stand where names would, too; the error's number -/
def overs (os : List OptD) (name file : List UInt8) : List OptD × Nat :=
  match optOf os 52 with
  | none => (os, 0)
  | some [x] =>
    if x.toNat < 1 ∨ 3 < x.toNat then ([], 2)
    else match (if x.toNat % 2 = 1 then optRd (os.filter (fun o => !(o.code == 52))) file else some (os.filter (fun o => !(o.code == 52)))) with
    | none => ([], 1)
    | some a => match (if 2 ≤ x.toNat then optRd a name else some a) with
      | none => ([], 1)
      | some a => if (optOf a 52).isSome then ([], 2) else (a, 0)
  | some _ => ([], 2)
def readDHCP (l : List UInt8) : DhcD × Nat :=
  if l.length < 240 then (dhc0, 1)
  else if ¬ ((sub l 0 1 = [1] ∨ sub l 0 1 = [2]) ∧ sub l 1 3 = [1, 6] ∧ sub l 236 240 = [99, 130, 83, 99]) then (dhc0, 2)
  else match optRd [] (l.drop 240) with
  | none => (dhc0, 1)
  | some os => match overs os (sub l 44 108) (sub l 108 236) with
    | (a, 0) => (⟨sub l 0 1 == [2], num (sub l 4 8), num (sub l 12 16), num (sub l 16 20), num (sub l 20 24), macOf (l.drop 28), a⟩, 0)
    | (_, e + 1) => (dhc0, e + 1)
end Go.Proofs.YtcbkaiakdhiloabGreatDoor
