/- ReadARP: the program's (octets.Read with a reading function whose faults are caught) and the reference's. -/
import Derived.Test.YtcbkaiakdhiloaaRdArp
import Derived.Test.YtcbkaiakdhiloaaRefR
set_option linter.unusedSimpArgs false
set_option linter.unusedVariables false
namespace Go.Proofs.Ytcbkaiakdhiloaa
open Go.RowKit Go.Proofs
attribute [local go_sem] bs_size bs_append bs_extract bs_toList

/-- an ARP: op, from card, from address, to card, to address -/
structure ArpD where
  op : Nat
  fm : Mac
  fi : Nat
  tm : Mac
  ti : Nat
def arp0 : ArpD := ⟨0, (0, 0, 0, 0, 0, 0), 0, (0, 0, 0, 0, 0, 0), 0⟩
def arpC (a : ArpD) : Array Value := #[.int .u16 (a.op : Int), .int .u8 (a.fm.1.toNat : Int), .int .u8 (a.fm.2.1.toNat : Int), .int .u8 (a.fm.2.2.1.toNat : Int), .int .u8 (a.fm.2.2.2.1.toNat : Int), .int .u8 (a.fm.2.2.2.2.1.toNat : Int), .int .u8 (a.fm.2.2.2.2.2.toNat : Int),
  .int .u32 (a.fi : Int), .int .u8 (a.tm.1.toNat : Int), .int .u8 (a.tm.2.1.toNat : Int), .int .u8 (a.tm.2.2.1.toNat : Int), .int .u8 (a.tm.2.2.2.1.toNat : Int), .int .u8 (a.tm.2.2.2.2.1.toNat : Int), .int .u8 (a.tm.2.2.2.2.2.toNat : Int), .int .u32 (a.ti : Int)]
theorem arp0_zc : arpC arp0 = zcArp := rfl

/-! The specification, and the closure. -/
def readARP (l : List UInt8) : ArpD × Nat :=
  if l.length < 28 then (arp0, 1)
  else if sub l 0 6 = [0, 1, 8, 0, 6, 4] ∧ (num (sub l 6 8) = 1 ∨ num (sub l 6 8) = 2) then
    (⟨num (sub l 6 8), macOf (sub l 8 l.length), num (sub l 14 18), macOf (sub l 18 l.length), num (sub l 24 28)⟩, 0)
  else (arp0, 2)
theorem readARP_of (l a1 a2 a4 a6 r : List UInt8) (b0 b1 b2 b3 b4 b5 c0 c1 c2 c3 c4 c5 : UInt8) (e : l = (((((a1 ++ a2) ++ [b0, b1, b2, b3, b4, b5]) ++ a4) ++ [c0, c1, c2, c3, c4, c5]) ++ a6) ++ r)
    (l1 : a1.length = 6) (l2 : a2.length = 2) (l4 : a4.length = 4) (l6 : a6.length = 4) :
    readARP l = if a1 = [0, 1, 8, 0, 6, 4] ∧ (num a2 = 1 ∨ num a2 = 2) then (⟨num a2, (b0, b1, b2, b3, b4, b5), num a4, (c0, c1, c2, c3, c4, c5), num a6⟩, 0) else (arp0, 2) := by
  have h28 : ¬ l.length < 28 := by rw [e]; simp [l1, l2, l4, l6]; omega
  have d0 : sub l 0 6 = a1 := by rw [e]; simp [sub, List.append_assoc, ← l1]
  match a1, l1 with
  | [x0, x1, x2, x3, x4, x5], _ =>
    match a2, l2 with
    | [y0, y1], _ =>
      match a4, l4 with
      | [z0, z1, z2, z3], _ =>
        match a6, l6 with
        | [t0, t1, t2, t3], _ =>
          unfold readARP
          rw [if_neg h28, d0]
          subst e
          rfl
theorem readARP_short (l : List UInt8) (h : l.length < 28) : readARP l = (arp0, 1) := by unfold readARP; rw [if_pos h]

def arpOk (l : List UInt8) (c : Array Value) : Prop := ∃ x, c = arpC x ∧ readARP l = (x, 0)
def arpBad (l : List UInt8) (er : Int) : Prop := ∃ k : Nat, er = k ∧ readARP l = (arp0, k)
set_option maxRecDepth 20000 in
set_option maxHeartbeats 1000000 in
theorem arpBy (l : List UInt8) (hl : l.length ≤ 9223372036854775807) (p : Nat) (w : World) (hR : Rd w p l) :
    Calls Try.prog 53 #[.pointer (some ⟨p, 0, none⟩)] w (byPost (arpOk l) (arpBad l) p w) := by
  have hp := Bk.lt hR
  go_enter Try.func53, Try.ntmps53
  go_wp2_with fail
  have hr0 := Bk.alloc hR (.cells zcArp 39)
  have hx0 := Bk.new w 39 zcArp
  have hf0 : Fr (oneB p) w (w.alloc (.cells zcArp 39)) := (Fr.refl _ _).alloc _
  unfold zcArp at hr0 hx0 hf0
  generalize w.alloc (.cells #[.int .u16 0, .int .u8 0, .int .u8 0, .int .u8 0, .int .u8 0, .int .u8 0, .int .u8 0, .int .u32 0, .int .u8 0, .int .u8 0, .int .u8 0, .int .u8 0, .int .u8 0, .int .u8 0, .int .u32 0] 39) = w1 at *
  have hbad : ∀ w', l.length < 28 → Fr (oneB p) w w' → byPost (arpOk l) (arpBad l) p w (.panicked (faultC 1)) w' :=
    fun w' h hf => ⟨.inr ⟨1, ⟨1, rfl, readARP_short l h⟩, rfl⟩, hf⟩
  have Hbad := Lib.hid hbad
  clear hbad
  refine (tTake 6 p l _ hr0 (by omega) hl).mono ?_
  rintro e w2 (⟨a1, r1, c1, b1, rfl, hr1, hf1⟩ | ⟨hlt, rfl, hf1⟩)
  rotate_left
  · exact ⟨rfl, Hbad.out _ (by omega) (hf0.trans hf1)⟩
  have g1 := hf1
  have C1 : Hid (Cut l a1 r1 6) := c1
  clear c1 hf1 hr0
  go_wp2_with fail
  refine (tU16 p r1 _ hr1 b1).mono ?_
  rintro e w3 (⟨a2, r2, c2, b2, rfl, hr2, hf2⟩ | ⟨hlt, rfl, hf2⟩)
  rotate_left
  · exact ⟨rfl, Hbad.out _ (by have x1 := C1.out; have x2 := congrArg List.length x1.1; rw [List.length_append, x1.2] at x2; omega) (hf0.trans (g1.trans hf2))⟩
  have g2 := g1.trans hf2
  have C2 : Hid (Cut l (a1 ++ a2) r2 8) := by
    refine ⟨?_, ?_⟩
    · rw [C1.out.1, c2.1]; simp
    · rw [List.length_append, C1.out.2, c2.2]
  clear g1
  clear c2 hf2 hr1
  go_wp2_with fail
  refine (tMAC p r2 _ hr2 b2).mono ?_
  rintro e w4 (⟨m3a, m3b, m3c, m3d, m3e, m3f, r3, c3, b3, rfl, hr3, hf3⟩ | ⟨hlt, rfl, hf3⟩)
  rotate_left
  · exact ⟨rfl, Hbad.out _ (by have x1 := C2.out; have x2 := congrArg List.length x1.1; rw [List.length_append, x1.2] at x2; omega) (hf0.trans (g2.trans hf3))⟩
  have g3 := g2.trans hf3
  have C3 : Hid (Cut l ((a1 ++ a2) ++ [m3a, m3b, m3c, m3d, m3e, m3f]) r3 14) := by
    refine ⟨?_, ?_⟩
    · rw [C2.out.1, c3.1]; simp
    · rw [List.length_append, C2.out.2, c3.2]
  clear g2
  clear c3 hf3 hr2
  go_wp2_with fail
  refine (tIP p r3 _ hr3 b3).mono ?_
  rintro e w5 (⟨a4, r4, c4, b4, rfl, hr4, hf4⟩ | ⟨hlt, rfl, hf4⟩)
  rotate_left
  · exact ⟨rfl, Hbad.out _ (by have x1 := C3.out; have x2 := congrArg List.length x1.1; rw [List.length_append, x1.2] at x2; omega) (hf0.trans (g3.trans hf4))⟩
  have g4 := g3.trans hf4
  have C4 : Hid (Cut l (((a1 ++ a2) ++ [m3a, m3b, m3c, m3d, m3e, m3f]) ++ a4) r4 18) := by
    refine ⟨?_, ?_⟩
    · rw [C3.out.1, c4.1]; simp
    · rw [List.length_append, C3.out.2, c4.2]
  clear g3
  clear c4 hf4 hr3
  go_wp2_with fail
  refine (tMAC p r4 _ hr4 b4).mono ?_
  rintro e w6 (⟨m5a, m5b, m5c, m5d, m5e, m5f, r5, c5, b5, rfl, hr5, hf5⟩ | ⟨hlt, rfl, hf5⟩)
  rotate_left
  · exact ⟨rfl, Hbad.out _ (by have x1 := C4.out; have x2 := congrArg List.length x1.1; rw [List.length_append, x1.2] at x2; omega) (hf0.trans (g4.trans hf5))⟩
  have g5 := g4.trans hf5
  have C5 : Hid (Cut l ((((a1 ++ a2) ++ [m3a, m3b, m3c, m3d, m3e, m3f]) ++ a4) ++ [m5a, m5b, m5c, m5d, m5e, m5f]) r5 24) := by
    refine ⟨?_, ?_⟩
    · rw [C4.out.1, c5.1]; simp
    · rw [List.length_append, C4.out.2, c5.2]
  clear g4
  clear c5 hf5 hr4
  go_wp2_with fail
  refine (tIP p r5 _ hr5 b5).mono ?_
  rintro e w7 (⟨a6, r6, c6, b6, rfl, hr6, hf6⟩ | ⟨hlt, rfl, hf6⟩)
  rotate_left
  · exact ⟨rfl, Hbad.out _ (by have x1 := C5.out; have x2 := congrArg List.length x1.1; rw [List.length_append, x1.2] at x2; omega) (hf0.trans (g5.trans hf6))⟩
  have g6 := g5.trans hf6
  have C6 : Hid (Cut l (((((a1 ++ a2) ++ [m3a, m3b, m3c, m3d, m3e, m3f]) ++ a4) ++ [m5a, m5b, m5c, m5d, m5e, m5f]) ++ a6) r6 28) := by
    refine ⟨?_, ?_⟩
    · rw [C5.out.1, c6.1]; simp
    · rw [List.length_append, C5.out.2, c6.2]
  clear g5
  clear c6 hf6 hr5
  have hspec : readARP l = if a1 = [0, 1, 8, 0, 6, 4] ∧ (num a2 = 1 ∨ num a2 = 2) then
      (⟨num a2, (m3a, m3b, m3c, m3d, m3e, m3f), num a4, (m5a, m5b, m5c, m5d, m5e, m5f), num a6⟩, 0) else (arp0, 2) := by
    obtain ⟨e1, e2⟩ := C6.out
    have l1 := C1.out.2
    have l2 : a2.length = 2 := by have := C2.out.2; simp at this; omega
    have l4 : a4.length = 4 := by have := C4.out.2; simp at this; omega
    have l6 : a6.length = 4 := by have := C6.out.2; simp at this; omega
    exact readARP_of l a1 a2 a4 a6 r6 _ _ _ _ _ _ _ _ _ _ _ _ e1 l1 l2 l4 l6
  have Hs := Lib.hid hspec
  clear hspec
  have hxk := hx0.keep g6 (by unfold oneB; omega)
  have hfk := hf0.trans g6
  clear hx0 hf0 g6
  have hbk := Bk.new w7 39 #[.int .u16 (num a2 : Int), .int .u8 (m3a.toNat : Int), .int .u8 (m3b.toNat : Int), .int .u8 (m3c.toNat : Int), .int .u8 (m3d.toNat : Int), .int .u8 (m3e.toNat : Int), .int .u8 (m3f.toNat : Int), .int .u32 (num a4 : Int), .int .u8 (m5a.toNat : Int), .int .u8 (m5b.toNat : Int), .int .u8 (m5c.toNat : Int), .int .u8 (m5d.toNat : Int), .int .u8 (m5e.toNat : Int), .int .u8 (m5f.toNat : Int), .int .u32 (num a6 : Int)]
  have hxa := hxk.alloc (.cells #[.int .u16 (num a2 : Int), .int .u8 (m3a.toNat : Int), .int .u8 (m3b.toNat : Int), .int .u8 (m3c.toNat : Int), .int .u8 (m3d.toNat : Int), .int .u8 (m3e.toNat : Int), .int .u8 (m3f.toNat : Int), .int .u32 (num a4 : Int), .int .u8 (m5a.toNat : Int), .int .u8 (m5b.toNat : Int), .int .u8 (m5c.toNat : Int), .int .u8 (m5d.toNat : Int), .int .u8 (m5e.toNat : Int), .int .u8 (m5f.toNat : Int), .int .u32 (num a6 : Int)] 39)
  have hfa := hfk.alloc (.cells #[.int .u16 (num a2 : Int), .int .u8 (m3a.toNat : Int), .int .u8 (m3b.toNat : Int), .int .u8 (m3c.toNat : Int), .int .u8 (m3d.toNat : Int), .int .u8 (m3e.toNat : Int), .int .u8 (m3f.toNat : Int), .int .u32 (num a4 : Int), .int .u8 (m5a.toNat : Int), .int .u8 (m5b.toNat : Int), .int .u8 (m5c.toNat : Int), .int .u8 (m5d.toNat : Int), .int .u8 (m5e.toNat : Int), .int .u8 (m5f.toNat : Int), .int .u32 (num a6 : Int)] 39)
  clear hxk hfk
  have hv := hbk.cells
  by_cases h1 : a1 = [0, 1, 8, 0, 6, 4]
  · have h1b : (a1 == [0, 1, 8, 0, 6, 4]) = true := by simpa using h1
    by_cases h2 : num a2 = 1
    · have h2b : ((num a2 : Int) == 1) = true := by simp [h2]
      have H1 := Lib.hid h1
      have H2 := Lib.hid h2
      clear h1 h2
      go_wp2_with fail
      refine (must_yes _ _).mono ?_
      rintro e w8 ⟨rfl, rfl⟩
      go_wp2_with ((refine wpList_store_bk rfl 39 (.tmp 2) (.tmp 31) rfl w.heap.size _ _ _ rfl rfl hxa rfl (by kernel_rfl) (by kernel_rfl) ?_); intro w9 hx9 hf9)
      have hcx := hx9.cells
      refine bodyPost_ret (v := Value.agg (arpC ⟨num a2, (m3a, m3b, m3c, m3d, m3e, m3f), num a4, (m5a, m5b, m5c, m5d, m5e, m5f), num a6⟩)) (by simp [results, Try.results53, go_sem, hcx, arpC]) rfl ?_
      refine ⟨.inl ⟨_, ⟨_, rfl, ?_⟩, rfl⟩, hfa.trans' hf9 (fun b hb e => by unfold oneB at e; omega)⟩
      rw [Hs.out, if_pos ⟨H1.out, .inl H2.out⟩]
    · have h2b : ((num a2 : Int) == 1) = false := by simp; omega
      by_cases h3 : num a2 = 2
      · have h3b : ((num a2 : Int) == 2) = true := by simp [h3]
        have H1 := Lib.hid h1
        have H3 := Lib.hid h3
        clear h1 h2 h3
        go_wp2_with fail
        refine (must_yes _ _).mono ?_
        rintro e w8 ⟨rfl, rfl⟩
        go_wp2_with ((refine wpList_store_bk rfl 39 (.tmp 2) (.tmp 31) rfl w.heap.size _ _ _ rfl rfl hxa rfl (by kernel_rfl) (by kernel_rfl) ?_); intro w9 hx9 hf9)
        have hcx := hx9.cells
        refine bodyPost_ret (v := Value.agg (arpC ⟨num a2, (m3a, m3b, m3c, m3d, m3e, m3f), num a4, (m5a, m5b, m5c, m5d, m5e, m5f), num a6⟩)) (by simp [results, Try.results53, go_sem, hcx, arpC]) rfl ?_
        refine ⟨.inl ⟨_, ⟨_, rfl, ?_⟩, rfl⟩, hfa.trans' hf9 (fun b hb e => by unfold oneB at e; omega)⟩
        rw [Hs.out, if_pos ⟨H1.out, .inr H3.out⟩]
      · have h3b : ((num a2 : Int) == 2) = false := by simp; omega
        have hno : Hid (¬ (a1 = [0, 1, 8, 0, 6, 4] ∧ (num a2 = 1 ∨ num a2 = 2))) := by unfold Hid; rintro ⟨_, h | h⟩ <;> contradiction
        clear h1 h2 h3
        go_wp2_with fail
        refine (must_no _ _).mono ?_
        rintro e w8 ⟨rfl, rfl⟩
        refine ⟨rfl, .inr ⟨2, ⟨2, rfl, ?_⟩, rfl⟩, hfa⟩
        rw [Hs.out, if_neg hno.out]
  · have h1b : (a1 == [0, 1, 8, 0, 6, 4]) = false := by simpa using h1
    have hno : Hid (¬ (a1 = [0, 1, 8, 0, 6, 4] ∧ (num a2 = 1 ∨ num a2 = 2))) := by unfold Hid; rintro ⟨h, _⟩; contradiction
    clear h1
    go_wp2_with fail
    refine (must_no _ _).mono ?_
    rintro e w8 ⟨rfl, rfl⟩
    refine ⟨rfl, .inr ⟨2, ⟨2, rfl, ?_⟩, rfl⟩, hfa⟩
    rw [Hs.out, if_neg hno.out]

def arpPost (l : List UInt8) (w : World) (e : Ending) (w' : World) : Prop := e = .returned (.tuple #[.agg (arpC (readARP l).1), .int .i64 ((readARP l).2 : Int)]) ∧ Fr noB w w'
theorem arpRead (l : List UInt8) (w : World) (hl : l.length ≤ 9223372036854775807) :
    Calls Try.prog 52 #[.string (bs l), .func (.func 53) #[] #[]] w (arpPost l w) := by
  refine (readArp l w (arpOk l) (arpBad l) (by rintro c ⟨x, rfl, _⟩; exact ⟨rfl, by kernel_rfl⟩) (fun p w1 _ hR _ => arpBy l hl p w1 hR)).mono ?_
  rintro e w' ⟨⟨c, ⟨x, rfl, hx⟩, rfl⟩ | ⟨er, ⟨k, rfl, hk⟩, rfl⟩, hf⟩
  · exact ⟨by rw [hx]; rfl, hf⟩
  · exact ⟨by rw [hk]; rfl, hf⟩
end Go.Proofs.Ytcbkaiakdhiloaa
