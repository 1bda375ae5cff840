/- ReadEther, the program's (octets.Read with a reading function whose faults are caught). -/
import Derived.Test.YtcbkaiakdhiloaaRdEth
import Derived.Test.YtcbkaiakdhiloaaRefR
set_option linter.unusedSimpArgs false
set_option linter.unusedVariables false
namespace Go.Proofs.Ytcbkaiakdhiloaa
open Go.RowKit Go.Proofs
attribute [local go_sem] bs_size bs_append bs_extract bs_toList

/-- an Ethernet frame: to, from, what, what it carries -/
structure EthD where
  to : Mac
  fm : Mac
  ty : Nat
  by' : List UInt8
def eth0 : EthD := ⟨(0, 0, 0, 0, 0, 0), (0, 0, 0, 0, 0, 0), 0, []⟩
def ethC (a : EthD) : Array Value := #[.int .u8 (a.to.1.toNat : Int), .int .u8 (a.to.2.1.toNat : Int), .int .u8 (a.to.2.2.1.toNat : Int), .int .u8 (a.to.2.2.2.1.toNat : Int), .int .u8 (a.to.2.2.2.2.1.toNat : Int), .int .u8 (a.to.2.2.2.2.2.toNat : Int), .int .u8 (a.fm.1.toNat : Int), .int .u8 (a.fm.2.1.toNat : Int), .int .u8 (a.fm.2.2.1.toNat : Int), .int .u8 (a.fm.2.2.2.1.toNat : Int), .int .u8 (a.fm.2.2.2.2.1.toNat : Int), .int .u8 (a.fm.2.2.2.2.2.toNat : Int), .int .u16 (a.ty : Int), .string (bs a.by')]
theorem eth0_zc : ethC eth0 = zcEth := rfl

def readEther (l : List UInt8) : EthD × Nat :=
  if l.length < 14 then (eth0, 1)
  else if num (sub l 12 14) < 1536 then (eth0, 3)
  else if 1500 < (sub l 14 l.length).length then (eth0, 7)
  else (⟨macOf l, macOf (sub l 6 l.length), num (sub l 12 14), sub l 14 l.length⟩, 0)
theorem readEther_short (l : List UInt8) (h : l.length < 14) : readEther l = (eth0, 1) := by unfold readEther; rw [if_pos h]
theorem readEther_of (l a3 r : List UInt8) (b0 b1 b2 b3 b4 b5 c0 c1 c2 c3 c4 c5 : UInt8) (e : l = (([b0, b1, b2, b3, b4, b5] ++ [c0, c1, c2, c3, c4, c5]) ++ a3) ++ r) (l3 : a3.length = 2) :
    readEther l = if num a3 < 1536 then (eth0, 3) else if 1500 < r.length then (eth0, 7) else (⟨(b0, b1, b2, b3, b4, b5), (c0, c1, c2, c3, c4, c5), num a3, r⟩, 0) := by
  have h14 : ¬ l.length < 14 := by rw [e]; simp [l3]
  match a3, l3 with
  | [x0, x1], _ =>
    unfold readEther
    rw [if_neg h14, sub_rest, sub_rest]
    subst e
    rfl

def ethOk (l : List UInt8) (c : Array Value) : Prop := ∃ x, c = ethC x ∧ readEther l = (x, 0)
def ethBad (l : List UInt8) (er : Int) : Prop := ∃ k : Nat, er = k ∧ readEther l = (eth0, k)
set_option maxRecDepth 20000 in
set_option maxHeartbeats 1000000 in
theorem ethBy (l : List UInt8) (hl : l.length ≤ 9223372036854775807) (p : Nat) (w : World) (hR : Rd w p l) :
    Calls Try.prog 60 #[.pointer (some ⟨p, 0, none⟩)] w (byPost (ethOk l) (ethBad l) p w) := by
  have hp := Bk.lt hR
  go_enter Try.func60, Try.ntmps60
  go_wp2_with fail
  have hr0 := Bk.alloc hR (.cells zcEth 44)
  have hx0 := Bk.new w 44 zcEth
  have hf0 : Fr (oneB p) w (w.alloc (.cells zcEth 44)) := (Fr.refl _ _).alloc _
  unfold zcEth at hr0 hx0 hf0
  generalize w.alloc (.cells #[.int .u8 0, .int .u8 0, .int .u8 0, .int .u8 0, .int .u8 0, .int .u8 0, .int .u8 0, .int .u8 0, .int .u8 0, .int .u8 0, .int .u8 0, .int .u8 0, .int .u16 0, .string ⟨#[]⟩] 44) = w1 at *
  have hbad : ∀ w', l.length < 14 → Fr (oneB p) w w' → byPost (ethOk l) (ethBad l) p w (.panicked (faultC 1)) w' :=
    fun w' h hf => ⟨.inr ⟨1, ⟨1, rfl, readEther_short l h⟩, rfl⟩, hf⟩
  have Hbad := Lib.hid hbad
  clear hbad
  refine (tMAC p l _ hr0 hl).mono ?_
  rintro e w2 (⟨m1a, m1b, m1c, m1d, m1e, m1f, r1, c1, b1, rfl, hr1, hf1⟩ | ⟨hlt, rfl, hf1⟩)
  rotate_left
  · exact ⟨rfl, Hbad.out _ (by omega) (hf0.trans hf1)⟩
  have g1 := hf1
  have C1 : Hid (Cut l [m1a, m1b, m1c, m1d, m1e, m1f] r1 6) := c1
  clear c1 hf1 hr0
  go_wp2_with fail
  refine (tMAC p r1 _ hr1 b1).mono ?_
  rintro e w3 (⟨m2a, m2b, m2c, m2d, m2e, m2f, r2, c2, b2, rfl, hr2, hf2⟩ | ⟨hlt, rfl, hf2⟩)
  rotate_left
  · exact ⟨rfl, Hbad.out _ (by have x1 := C1.out; have x2 := congrArg List.length x1.1; rw [List.length_append, x1.2] at x2; omega) (hf0.trans (g1.trans hf2))⟩
  have g2 := g1.trans hf2
  have C2 : Hid (Cut l ([m1a, m1b, m1c, m1d, m1e, m1f] ++ [m2a, m2b, m2c, m2d, m2e, m2f]) r2 12) := by
    refine ⟨?_, ?_⟩
    · rw [C1.out.1, c2.1]; simp
    · rw [List.length_append, C1.out.2, c2.2]
  clear g1
  clear c2 hf2 hr1
  go_wp2_with fail
  refine (tU16 p r2 _ hr2 b2).mono ?_
  rintro e w4 (⟨a3, r3, c3, b3, rfl, hr3, hf3⟩ | ⟨hlt, rfl, hf3⟩)
  rotate_left
  · exact ⟨rfl, Hbad.out _ (by have x1 := C2.out; have x2 := congrArg List.length x1.1; rw [List.length_append, x1.2] at x2; omega) (hf0.trans (g2.trans hf3))⟩
  have g3 := g2.trans hf3
  have C3 : Hid (Cut l (([m1a, m1b, m1c, m1d, m1e, m1f] ++ [m2a, m2b, m2c, m2d, m2e, m2f]) ++ a3) r3 14) := by
    refine ⟨?_, ?_⟩
    · rw [C2.out.1, c3.1]; simp
    · rw [List.length_append, C2.out.2, c3.2]
  clear g2
  clear c3 hf3 hr2
  have hspec : readEther l = if num a3 < 1536 then (eth0, 3) else if 1500 < r3.length then (eth0, 7) else (⟨(m1a, m1b, m1c, m1d, m1e, m1f), (m2a, m2b, m2c, m2d, m2e, m2f), num a3, r3⟩, 0) := by
    obtain ⟨e1, e2⟩ := C3.out
    have l3 : a3.length = 2 := by simp at e2; omega
    exact readEther_of l a3 r3 _ _ _ _ _ _ _ _ _ _ _ _ e1 l3
  have Hs := Lib.hid hspec
  clear hspec
  have hxk := hx0.keep g3 (by unfold oneB; omega)
  have hfk := hf0.trans g3
  have hpk : p ≠ w4.heap.size := by have := Bk.lt hr3; omega
  have hwk : w.heap.size < w4.heap.size := hxk.lt
  clear hx0 hf0 g3
  have hbk := Bk.new w4 44 #[.int .u8 (m1a.toNat : Int), .int .u8 (m1b.toNat : Int), .int .u8 (m1c.toNat : Int), .int .u8 (m1d.toNat : Int), .int .u8 (m1e.toNat : Int), .int .u8 (m1f.toNat : Int), .int .u8 (m2a.toNat : Int), .int .u8 (m2b.toNat : Int), .int .u8 (m2c.toNat : Int), .int .u8 (m2d.toNat : Int), .int .u8 (m2e.toNat : Int), .int .u8 (m2f.toNat : Int), .int .u16 (num a3 : Int), .string ⟨#[]⟩]
  have hra := Bk.alloc hr3 (.cells #[.int .u8 (m1a.toNat : Int), .int .u8 (m1b.toNat : Int), .int .u8 (m1c.toNat : Int), .int .u8 (m1d.toNat : Int), .int .u8 (m1e.toNat : Int), .int .u8 (m1f.toNat : Int), .int .u8 (m2a.toNat : Int), .int .u8 (m2b.toNat : Int), .int .u8 (m2c.toNat : Int), .int .u8 (m2d.toNat : Int), .int .u8 (m2e.toNat : Int), .int .u8 (m2f.toNat : Int), .int .u16 (num a3 : Int), .string ⟨#[]⟩] 44)
  have hxa := hxk.alloc (.cells #[.int .u8 (m1a.toNat : Int), .int .u8 (m1b.toNat : Int), .int .u8 (m1c.toNat : Int), .int .u8 (m1d.toNat : Int), .int .u8 (m1e.toNat : Int), .int .u8 (m1f.toNat : Int), .int .u8 (m2a.toNat : Int), .int .u8 (m2b.toNat : Int), .int .u8 (m2c.toNat : Int), .int .u8 (m2d.toNat : Int), .int .u8 (m2e.toNat : Int), .int .u8 (m2f.toNat : Int), .int .u16 (num a3 : Int), .string ⟨#[]⟩] 44)
  have hfa := hfk.alloc (.cells #[.int .u8 (m1a.toNat : Int), .int .u8 (m1b.toNat : Int), .int .u8 (m1c.toNat : Int), .int .u8 (m1d.toNat : Int), .int .u8 (m1e.toNat : Int), .int .u8 (m1f.toNat : Int), .int .u8 (m2a.toNat : Int), .int .u8 (m2b.toNat : Int), .int .u8 (m2c.toNat : Int), .int .u8 (m2d.toNat : Int), .int .u8 (m2e.toNat : Int), .int .u8 (m2f.toNat : Int), .int .u16 (num a3 : Int), .string ⟨#[]⟩] 44)
  clear hxk hfk hr3
  have hv := hbk.cells
  by_cases h1 : num a3 < 1536
  · have h1b : (1536 : Int) ≤ (num a3 : Int) ↔ False := by simp; omega
    have H1 := Lib.hid h1
    clear h1
    go_wp2_with fail
    refine (must_no _ _).mono ?_
    rintro e w8 ⟨rfl, rfl⟩
    refine ⟨rfl, .inr ⟨3, ⟨3, rfl, ?_⟩, rfl⟩, hfa⟩
    rw [Hs.out, if_pos H1.out]
  · have h1b : (1536 : Int) ≤ (num a3 : Int) := by omega
    have H1 := Lib.hid h1
    clear h1
    go_wp2_with fail
    refine (must_yes _ _).mono ?_
    rintro e w8 ⟨rfl, rfl⟩
    go_wp2_with fail
    refine (rLen p r3 _ hra).mono ?_
    rintro e w8 ⟨rfl, rfl⟩
    by_cases h2 : 1500 < r3.length
    · have h2b : (r3.length : Int) ≤ 1500 ↔ False := by simp; omega
      have H2 := Lib.hid h2
      clear h2
      go_wp2_with fail
      refine (must_no _ _).mono ?_
      rintro e w8 ⟨rfl, rfl⟩
      refine ⟨rfl, .inr ⟨7, ⟨7, rfl, ?_⟩, rfl⟩, hfa⟩
      rw [Hs.out, if_neg H1.out, if_pos H2.out]
    · have h2b : (r3.length : Int) ≤ 1500 := by omega
      have H2 := Lib.hid h2
      clear h2
      go_wp2_with fail
      refine (must_yes _ _).mono ?_
      rintro e w8 ⟨rfl, rfl⟩
      go_wp2_with fail
      refine (rRest p r3 _ hra b3).mono ?_
      rintro e w9 ⟨rfl, hr9, hf9⟩
      have hxb := hxa.keep hf9 (by unfold oneB; omega)
      have hbb := hbk.keep hf9 (by unfold oneB; omega)
      have hfb := hfa.trans hf9
      clear hxa hbk hfa hf9 hr9 hra hv
      have hz9 := hbb.frees
      have hv9 := hbb.cells
      have hb13 : Bk (w9.setCell ⟨w4.heap.size, 13, none⟩ (.string (bs r3))) w4.heap.size 44 #[.int .u8 (m1a.toNat : Int), .int .u8 (m1b.toNat : Int), .int .u8 (m1c.toNat : Int), .int .u8 (m1d.toNat : Int), .int .u8 (m1e.toNat : Int), .int .u8 (m1f.toNat : Int), .int .u8 (m2a.toNat : Int), .int .u8 (m2b.toNat : Int), .int .u8 (m2c.toNat : Int), .int .u8 (m2d.toNat : Int), .int .u8 (m2e.toNat : Int), .int .u8 (m2f.toNat : Int), .int .u16 (num a3 : Int), .string (bs r3)] := by simpa using hbb.set 13 (.string (bs r3))
      have hx13 := hxb.far (p := ⟨w4.heap.size, 13, none⟩) (by simp; omega) (.string (bs r3))
      have hf13 := hfb.setCell (p := ⟨w4.heap.size, 13, none⟩) (fun e => absurd e (by simp; omega)) (.string (bs r3))
      have hv13 := hb13.cells
      clear hbb hxb hfb hb13
      go_wp2_with ((refine wpList_store_bk rfl 44 (.tmp 2) (.tmp 22) rfl w.heap.size _ _ _ rfl rfl hx13 rfl (by kernel_rfl) (by kernel_rfl) ?_); intro w10 hx10 hf10)
      have hcx := hx10.cells
      refine bodyPost_ret (v := Value.agg (ethC ⟨(m1a, m1b, m1c, m1d, m1e, m1f), (m2a, m2b, m2c, m2d, m2e, m2f), num a3, r3⟩)) (by simp [results, Try.results60, go_sem, hcx, ethC]) rfl ?_
      refine ⟨.inl ⟨_, ⟨_, rfl, ?_⟩, rfl⟩, hf13.trans' hf10 (fun b hb e => by unfold oneB at e; omega)⟩
      rw [Hs.out, if_neg H1.out, if_neg H2.out]

def ethPost (l : List UInt8) (w : World) (e : Ending) (w' : World) : Prop := e = .returned (.tuple #[.agg (ethC (readEther l).1), .int .i64 ((readEther l).2 : Int)]) ∧ Fr noB w w'
theorem ethRead (l : List UInt8) (w : World) (hl : l.length ≤ 9223372036854775807) :
    Calls Try.prog 59 #[.string (bs l), .func (.func 60) #[] #[]] w (ethPost l w) := by
  refine (readEth l w (ethOk l) (ethBad l) (by rintro c ⟨x, rfl, _⟩; exact ⟨rfl, by kernel_rfl⟩) (fun p w1 _ hR _ => ethBy l hl p w1 hR)).mono ?_
  rintro e w' ⟨⟨c, ⟨x, rfl, hx⟩, rfl⟩ | ⟨er, ⟨k, rfl, hk⟩, rfl⟩, hf⟩
  · exact ⟨by rw [hx]; rfl, hf⟩
  · exact ⟨by rw [hk]; rfl, hf⟩
end Go.Proofs.Ytcbkaiakdhiloaa
