/- Parts of the walk; written by programs, merged. -/
import Derived.Test.YtcbkaiakdhiloabGreatDoorRac
set_option linter.unusedSimpArgs false
set_option linter.unusedVariables false
set_option maxRecDepth 20000
set_option maxHeartbeats 8000000
namespace Go.Proofs.YtcbkaiakdhiloabGreatDoor
open Go.RowKit Go.Proofs
attribute [local go_sem] bs_size bs_append bs_extract
def zcArp : Array Value := #[.int .u16 0, .int .u8 0, .int .u8 0, .int .u8 0, .int .u8 0, .int .u8 0, .int .u8 0, .int .u32 0, .int .u8 0, .int .u8 0, .int .u8 0, .int .u8 0, .int .u8 0, .int .u8 0, .int .u32 0]
theorem catchArp (gx ge : Nat) (er : Int) (w : World) (hx : Bk w gx 67 zcArp) (he : Bk w ge 28 #[.int .i64 0]) (hne : gx ≠ ge) :
    CallsD Tryz.prog 155 #[.pointer (some ⟨gx, 0, none⟩), .pointer (some ⟨ge, 0, none⟩)] (.panicking (faultC er)) w fun r u' w' =>
      r = .returned (.tuple #[]) ∧ u' = .panicking [{ v := .iface 182 (.agg #[.int .i64 er]), recovered := true }] ∧ Bk w' gx 67 zcArp ∧ Bk w' ge 28 #[.int .i64 er] ∧ Fr (twoB gx ge) w w' := by
  have hta := fault_is er
  have hbf := (Bk.new w 182 #[.int .i64 er]).alloc (.cells zcArp 67)
  have hbz := Bk.new (w.alloc (.cells #[.int .i64 er] 182)) 67 zcArp
  rw [show (w.alloc (.cells #[.int .i64 er] 182)).heap.size = w.heap.size + 1 by simp] at hbz
  have hx2 := (hx.alloc (.cells #[.int .i64 er] 182)).alloc (.cells zcArp 67)
  have he2 := (he.alloc (.cells #[.int .i64 er] 182)).alloc (.cells zcArp 67)
  have hf2 : Fr (twoB gx ge) w ((w.alloc (.cells #[.int .i64 er] 182)).alloc (.cells zcArp 67)) := ((Fr.refl _ _).alloc _).alloc _
  have hgx := hx.lt
  have hge := he.lt
  refine callsD_of_wpS Tryz.func155 rfl fun c₀ cs hu => ?_
  apply wpS_seq
  apply wpS_region
  simp [wpOpsS, go_sem, recoverD, hu, Tryz.ntmps155, Exit.thenS, faultC]
  refine wpS_of_wp ?_
  simp only [Array.replicate_succ, Array.replicate_zero, List.push_toArray, List.append_toArray, List.nil_append, List.cons_append, List.setIfInBounds_toArray, List.set_cons_zero, List.set_cons_succ]
  go_wp2_with fail
  unfold zcArp at hbf hbz hx2 he2 hf2
  generalize (w.alloc (.cells #[.int .i64 er] 182)).alloc (.cells #[.int .u16 0, .int .u8 0, .int .u8 0, .int .u8 0, .int .u8 0, .int .u8 0, .int .u8 0, .int .u32 0, .int .u8 0, .int .u8 0, .int .u8 0, .int .u8 0, .int .u8 0, .int .u8 0, .int .u32 0] 67) = w2 at *
  refine wp_region_ssa (by kernel_rfl) (by kernel_rfl) (by kernel_rfl)
    (fun u => ⟨#[.pointer (some ⟨gx, 0, none⟩), .pointer (some ⟨ge, 0, none⟩), undef, .pointer (some ⟨w.heap.size, 0, none⟩), .pointer (some ⟨w.heap.size + 1, 0, none⟩), undef,
      .iface 182 (.agg #[.int .i64 er]), undef, .bool false, .tuple #[.agg #[.int .i64 er], .bool true], .bool true, .agg #[.int .i64 er], u 0, u 1, u 2], []⟩)
    (fun j v _ => match j with | 0 => v = .agg zcArp | 1 => v = .pointer (some ⟨w.heap.size, 0, none⟩) | 2 => v = .int .i64 er | _ => True)
    (fun L w3 => Bk w3 w.heap.size 182 #[.int .i64 er] ∧ Bk w3 (w.heap.size + 1) 67 zcArp ∧ Bk w3 gx 67 zcArp ∧ Bk w3 ge 28 #[if L 4 then .int .i64 er else .int .i64 0] ∧ Fr (twoB gx ge) w w3) (fun _ => undef) ⟨hbf.drew, hbz.drew, hx2.drew, he2.drew, hf2.drew⟩ ?_ ?_
  · rintro L u w3 i o ⟨g1, g2, g3, g4, g5⟩ hΦ ho hL hd K hK
    match i, ho with
    | 0, ho =>
      simp at ho; subst ho
      refine wp_load_row 67 (.tmp 4) rfl (w.heap.size + 1) rfl _ _ _ _ g2 Tryz.underlying67 rfl (by kernel_rfl) ?_
      exact hK _ _ rfl ⟨g1, g2, g3, g4, g5⟩ (fun _ _ _ h => h)
    | 1, ho =>
      simp at ho; subst ho
      clear hΦ hd
      go_simp
      exact hK _ _ rfl ⟨g1, g2, g3, g4, g5⟩ (fun _ _ _ h => h)
    | 2, ho =>
      simp at ho; subst ho
      have hu1 := hΦ 1 (hd ⟨1, .data⟩ (by simp) (by rfl))
      simp only at hu1
      have hc := g1.cells
      clear hΦ hd
      go_simp
      have hk := hK _ w3 rfl ⟨g1, g2, g3, g4, g5⟩ (fun _ _ _ h => h)
      simp only [upd, hu1] at hk
      exact hk
    | 3, ho =>
      simp at ho; subst ho
      have hu0 := hΦ 0 (hd ⟨0, .data⟩ (by simp) (by rfl))
      refine wp_store_bk 67 (.tmp 0) (.tmp 12) rfl gx _ _ _ rfl hu0 g3 rfl (by kernel_rfl) (by kernel_rfl) ?_
      intro w4 b4 f4
      refine hK undef _ trivial ⟨g1.keep f4 ?_, g2.keep f4 ?_, b4, g4.keep f4 ?_, g5.trans' f4 ?_⟩ (fun _ _ _ h => h)
      · unfold oneB; omega
      · unfold oneB; omega
      · unfold oneB; omega
      · intro b _ e; exact .inl e
    | 4, ho =>
      simp at ho; subst ho
      have hu2 := hΦ 2 (hd ⟨2, .data⟩ (by simp) (by rfl))
      simp only [hL] at g4 hu2
      have hc := g4.cells
      have hz := g4.frees
      clear hΦ hd
      go_simp
      have h4 : Bk (w3.setCell ⟨ge, 0, none⟩ (.int .i64 er)) ge 28 #[.int .i64 er] := by simpa using g4.set 0 (.int .i64 er)
      have hk := hK undef (w3.setCell ⟨ge, 0, none⟩ (.int .i64 er)) trivial ⟨g1.far (by simp; omega) _, g2.far (by simp; omega) _, g3.far (by simpa using hne) _, h4, g5.setCell (p := ⟨ge, 0, none⟩) (fun _ => .inr rfl) _⟩ (fun _ _ _ h => h)
      simp only [upd, hu2] at hk
      exact hk
  · rintro u w3 hΦ L hall ⟨g1, g2, g3, g4, g5⟩
    rw [hall 4 (by simp)] at g4
    exact ⟨rfl, _, rfl, .tuple #[], by simp [results, Tryz.results155], rfl, rfl, g3, by simpa using g4, g5⟩
theorem idleArp (gx ge : Nat) (w : World) :
    CallsD Tryz.prog 155 #[.pointer (some ⟨gx, 0, none⟩), .pointer (some ⟨ge, 0, none⟩)] .returning w fun r u' w' =>
      r = .returned (.tuple #[]) ∧ u' = .returning ∧ w' = w := by
  refine callsD_of_wpS Tryz.func155 rfl fun c₀ cs hu => ?_
  apply wpS_seq
  apply wpS_region
  simp [wpOpsS, go_sem, recoverD, hu, Tryz.ntmps155, Exit.thenS]
  refine wpS_of_wp ?_
  simp only [Array.replicate_succ, Array.replicate_zero, List.push_toArray, List.append_toArray, List.nil_append, List.cons_append, List.setIfInBounds_toArray, List.set_cons_zero, List.set_cons_succ]
  go_wp2_with fail
  simp [Exit.inBlock, bodyPostS, results, Tryz.results155]
  cases c₀
  simp at hu
  simp [hu]
theorem readArp (l : List UInt8) (w : World) (ok : Array Value → Prop) (bad : Int → Prop) (hok : ∀ c, ok c → c.size = zcArp.size ∧ c.all (·.oneCell') = true)
    (hby : ∀ (p : Nat) (w1 : World), w.heap.size ≤ p → Rd w1 p l → Fr noB w w1 → Calls Tryz.prog 115 #[.pointer (some ⟨p, 0, none⟩)] w1 (byPost ok bad p w1)) :
    Calls Tryz.prog 114 #[.string (bs l), .func (.func 115) #[] #[]] w (readPost zcArp ok bad w) := by
  have hmf : ∀ (fn : Fn) (first cap : Array Value) (w : World), (Instr.makeFunc fn first cap).run Tryz.prog w = .ok (.func fn first cap) w := fun _ _ _ _ => rfl
  go_enter_defers Tryz.func114, Tryz.ntmps114
  have Hby := Lib.hid hby
  have Hok := Lib.hid hok
  clear hby hok
  go_wp2_with fail
  have hx0 := ((Bk.new w 67 zcArp).alloc (.cells #[.int .i64 0] 28)).alloc (.cells #[.string (bs l)] 184)
  have he0 := (Bk.new (w.alloc (.cells zcArp 67)) 28 #[.int .i64 0]).alloc (.cells #[.string (bs l)] 184)
  have hr0 := Bk.new ((w.alloc (.cells zcArp 67)).alloc (.cells #[.int .i64 0] 28)) 184 #[.string (bs l)]
  rw [show ((w.alloc (.cells zcArp 67)).alloc (.cells #[.int .i64 0] 28)).heap.size = w.heap.size + 1 + 1 by simp] at hr0
  rw [show (w.alloc (.cells zcArp 67)).heap.size = w.heap.size + 1 by simp] at he0
  have hf0 : Fr noB w (((w.alloc (.cells zcArp 67)).alloc (.cells #[.int .i64 0] 28)).alloc (.cells #[.string (bs l)] 184)) := (((Fr.refl _ _).alloc _).alloc _).alloc _
  unfold zcArp at hx0 he0 hr0 hf0
  generalize ((w.alloc (.cells #[.int .u16 0, .int .u8 0, .int .u8 0, .int .u8 0, .int .u8 0, .int .u8 0, .int .u8 0, .int .u32 0, .int .u8 0, .int .u8 0, .int .u8 0, .int .u8 0, .int .u8 0, .int .u8 0, .int .u32 0] 67)).alloc (.cells #[.int .i64 0] 28)).alloc (.cells #[.string (bs l)] 184) = w1 at *
  refine (Hby.out _ w1 (by omega) hr0 hf0).mono ?_
  rintro e w2 ⟨⟨x, hx, rfl⟩ | ⟨er, hbad, rfl⟩, hf1⟩
  · have hx1 := hx0.keep hf1 (by unfold oneB; omega)
    have he1 := he0.keep hf1 (by unfold oneB; omega)
    obtain ⟨hsx, hox⟩ := Hok.out x hx
    have Hsx := Lib.hid hsx
    have Hox := Lib.hid hox
    have hix : (Tryz.prog.info? 67).map (·.size) = some x.size := by rw [hsx]; kernel_rfl
    have Hix := Lib.hid hix
    clear hsx hox hix
    go_wp2_with ((refine wpList_store_bk rfl 67 (.tmp 4) (.tmp 11) rfl w.heap.size _ _ x rfl rfl hx1 Hsx.out Hix.out Hox.out ?_); intro w3 hx3 hf3; have he3 := he1.keep hf3 (by unfold oneB; omega); have hc3 := he3.cells; have hz3 := he3.frees)
    have hb3 : Bk (w3.setCell ⟨w.heap.size + 1, 0, none⟩ (.int .i64 0)) (w.heap.size + 1) 28 #[.int .i64 0] := by simpa using he3.set 0 (.int .i64 0)
    have hx4 := hx3.far (p := ⟨w.heap.size + 1, 0, none⟩) (by simp) (.int .i64 0)
    have hfin : Fr noB w (w3.setCell ⟨w.heap.size + 1, 0, none⟩ (.int .i64 0)) := by
      refine (((hf0.trans' hf1 ?_).trans' hf3 ?_).setCell ?_ _)
      · intro b hb e; unfold oneB at e; omega
      · intro b hb e; unfold oneB at e; omega
      · intro e; exact absurd e (by simp)
    generalize w3.setCell ⟨w.heap.size + 1, 0, none⟩ (.int .i64 0) = w4 at *
    refine leaves_cons (f := 155) (args := #[.pointer (some ⟨w.heap.size, 0, none⟩), .pointer (some ⟨w.heap.size + 1, 0, none⟩)]) (by simp) (by simp [go_sem]) ?_
    refine (idleArp _ _ _).mono ?_
    rintro e u' w5 ⟨rfl, rfl, rfl⟩
    refine ⟨.tuple #[.agg x, .int .i64 0], ?_, ⟨.inl ⟨_, hx, rfl⟩, hfin⟩⟩
    exact results_row_int Tryz.results114 _ w5 w.heap.size (w.heap.size + 1) _ _ x 0 _ _ rfl rfl hx4 hb3 Tryz.underlying67 rfl Hix.out Tryz.underlying28
  · have hx1 := hx0.keep hf1 (by unfold oneB; omega)
    have he1 := he0.keep hf1 (by unfold oneB; omega)
    have hfin : Fr noB w w2 := hf0.trans' hf1 (fun b hb e => by unfold oneB at e; omega)
    refine leaves_cons (f := 155) (args := #[.pointer (some ⟨w.heap.size, 0, none⟩), .pointer (some ⟨w.heap.size + 1, 0, none⟩)]) (by simp) (by simp [go_sem]) ?_
    refine (catchArp w.heap.size (w.heap.size + 1) er w2 hx1 he1 (by omega)).mono ?_
    rintro e u' w5 ⟨rfl, rfl, hx5, he5, hf5⟩
    refine ⟨.tuple #[.agg zcArp, .int .i64 er], ?_, ⟨.inr ⟨er, hbad, rfl⟩, hfin.trans' hf5 ?_⟩⟩
    · exact results_row_int Tryz.results114 _ w5 w.heap.size (w.heap.size + 1) _ _ _ er _ _ rfl rfl hx5 he5 Tryz.underlying67 rfl (by kernel_rfl) Tryz.underlying28
    · intro b hb e; unfold twoB at e; omega
end Go.Proofs.YtcbkaiakdhiloabGreatDoor
namespace Go.Proofs.YtcbkaiakdhiloabGreatDoor
open Go.RowKit Go.Proofs
attribute [local go_sem] bs_size bs_append bs_extract bs_toList
structure ArpD where
  op : Nat
  fm : Mac
  fi : Nat
  tm : Mac
  ti : Nat
def arp0 : ArpD := ⟨0, (0, 0, 0, 0, 0, 0), 0, (0, 0, 0, 0, 0, 0), 0⟩
def arpC (a : ArpD) : Array Value := #[.int .u16 (a.op : Int), .int .u8 (a.fm.1.toNat : Int), .int .u8 (a.fm.2.1.toNat : Int), .int .u8 (a.fm.2.2.1.toNat : Int), .int .u8 (a.fm.2.2.2.1.toNat : Int), .int .u8 (a.fm.2.2.2.2.1.toNat : Int), .int .u8 (a.fm.2.2.2.2.2.toNat : Int),
  .int .u32 (a.fi : Int), .int .u8 (a.tm.1.toNat : Int), .int .u8 (a.tm.2.1.toNat : Int), .int .u8 (a.tm.2.2.1.toNat : Int), .int .u8 (a.tm.2.2.2.1.toNat : Int), .int .u8 (a.tm.2.2.2.2.1.toNat : Int), .int .u8 (a.tm.2.2.2.2.2.toNat : Int), .int .u32 (a.ti : Int)]
/-! The specification, and the closure. -/
def readARP (l : List UInt8) : ArpD × Nat :=
  if l.length < 28 then (arp0, 1)
  else if sub l 0 6 = [0, 1, 8, 0, 6, 4] ∧ (num (sub l 6 8) = 1 ∨ num (sub l 6 8) = 2) then
    (⟨num (sub l 6 8), macOf (sub l 8 l.length), num (sub l 14 18), macOf (sub l 18 l.length), num (sub l 24 28)⟩, 0)
  else (arp0, 2)
theorem readARP_of (l a1 a2 a4 a6 r : List UInt8) (b0 b1 b2 b3 b4 b5 c0 c1 c2 c3 c4 c5 : UInt8) (e : l = (((((a1 ++ a2) ++ [b0, b1, b2, b3, b4, b5]) ++ a4) ++ [c0, c1, c2, c3, c4, c5]) ++ a6) ++ r)
    (l1 : a1.length = 6) (l2 : a2.length = 2) (l4 : a4.length = 4) (l6 : a6.length = 4) :
    readARP l = if a1 = [0, 1, 8, 0, 6, 4] ∧ (num a2 = 1 ∨ num a2 = 2) then (⟨num a2, (b0, b1, b2, b3, b4, b5), num a4, (c0, c1, c2, c3, c4, c5), num a6⟩, 0) else (arp0, 2) := by
  have h28 : ¬ l.length < 28 := by rw [e]; simp [l1, l2, l4, l6]; omega
  have d0 : sub l 0 6 = a1 := by rw [e]; simp [sub, List.append_assoc, ← l1]
  match a1, l1 with
  | [x0, x1, x2, x3, x4, x5], _ =>
    match a2, l2 with
    | [y0, y1], _ =>
      match a4, l4 with
      | [z0, z1, z2, z3], _ =>
        match a6, l6 with
        | [t0, t1, t2, t3], _ =>
          unfold readARP
          rw [if_neg h28, d0]
          subst e
          rfl
theorem readARP_short (l : List UInt8) (h : l.length < 28) : readARP l = (arp0, 1) := by unfold readARP; rw [if_pos h]
def arpOk (l : List UInt8) (c : Array Value) : Prop := ∃ x, c = arpC x ∧ readARP l = (x, 0)
def arpBad (l : List UInt8) (er : Int) : Prop := ∃ k : Nat, er = k ∧ readARP l = (arp0, k)
theorem arpBy (l : List UInt8) (hl : l.length ≤ 9223372036854775807) (p : Nat) (w : World) (hR : Rd w p l) :
    Calls Tryz.prog 115 #[.pointer (some ⟨p, 0, none⟩)] w (byPost (arpOk l) (arpBad l) p w) := by
  have hp := Bk.lt hR
  go_enter Tryz.func115, Tryz.ntmps115
  go_wp2_with fail
  have hr0 := Bk.alloc hR (.cells zcArp 67)
  have hx0 := Bk.new w 67 zcArp
  have hf0 : Fr (oneB p) w (w.alloc (.cells zcArp 67)) := (Fr.refl _ _).alloc _
  unfold zcArp at hr0 hx0 hf0
  generalize w.alloc (.cells #[.int .u16 0, .int .u8 0, .int .u8 0, .int .u8 0, .int .u8 0, .int .u8 0, .int .u8 0, .int .u32 0, .int .u8 0, .int .u8 0, .int .u8 0, .int .u8 0, .int .u8 0, .int .u8 0, .int .u32 0] 67) = w1 at *
  have hbad : ∀ w', l.length < 28 → Fr (oneB p) w w' → byPost (arpOk l) (arpBad l) p w (.panicked (faultC 1)) w' :=
    fun w' h hf => ⟨.inr ⟨1, ⟨1, rfl, readARP_short l h⟩, rfl⟩, hf⟩
  have Hbad := Lib.hid hbad
  clear hbad
  refine (tTake 6 p l _ hr0 (by omega) hl).mono ?_
  rintro e w2 (⟨a1, r1, c1, b1, rfl, hr1, hf1⟩ | ⟨hlt, rfl, hf1⟩)
  rotate_left
  · exact ⟨rfl, Hbad.out _ (by omega) (hf0.trans hf1)⟩
  have g1 := hf1
  have C1 : Hid (Cut l a1 r1 6) := c1
  clear c1 hf1 hr0
  go_wp2_with fail
  refine (tU16 p r1 _ hr1 b1).mono ?_
  rintro e w3 (⟨a2, r2, c2, b2, rfl, hr2, hf2⟩ | ⟨hlt, rfl, hf2⟩)
  rotate_left
  · exact ⟨rfl, Hbad.out _ (by have x1 := C1.out; have x2 := congrArg List.length x1.1; rw [List.length_append, x1.2] at x2; omega) (hf0.trans (g1.trans hf2))⟩
  have g2 := g1.trans hf2
  have C2 : Hid (Cut l (a1 ++ a2) r2 8) := by
    refine ⟨?_, ?_⟩
    · rw [C1.out.1, c2.1]; simp
    · rw [List.length_append, C1.out.2, c2.2]
  clear g1
  clear c2 hf2 hr1
  go_wp2_with fail
  refine (tMAC p r2 _ hr2 b2).mono ?_
  rintro e w4 (⟨m3a, m3b, m3c, m3d, m3e, m3f, r3, c3, b3, rfl, hr3, hf3⟩ | ⟨hlt, rfl, hf3⟩)
  rotate_left
  · exact ⟨rfl, Hbad.out _ (by have x1 := C2.out; have x2 := congrArg List.length x1.1; rw [List.length_append, x1.2] at x2; omega) (hf0.trans (g2.trans hf3))⟩
  have g3 := g2.trans hf3
  have C3 : Hid (Cut l ((a1 ++ a2) ++ [m3a, m3b, m3c, m3d, m3e, m3f]) r3 14) := by
    refine ⟨?_, ?_⟩
    · rw [C2.out.1, c3.1]; simp
    · rw [List.length_append, C2.out.2, c3.2]
  clear g2
  clear c3 hf3 hr2
  go_wp2_with fail
  refine (tIP p r3 _ hr3 b3).mono ?_
  rintro e w5 (⟨a4, r4, c4, b4, rfl, hr4, hf4⟩ | ⟨hlt, rfl, hf4⟩)
  rotate_left
  · exact ⟨rfl, Hbad.out _ (by have x1 := C3.out; have x2 := congrArg List.length x1.1; rw [List.length_append, x1.2] at x2; omega) (hf0.trans (g3.trans hf4))⟩
  have g4 := g3.trans hf4
  have C4 : Hid (Cut l (((a1 ++ a2) ++ [m3a, m3b, m3c, m3d, m3e, m3f]) ++ a4) r4 18) := by
    refine ⟨?_, ?_⟩
    · rw [C3.out.1, c4.1]; simp
    · rw [List.length_append, C3.out.2, c4.2]
  clear g3
  clear c4 hf4 hr3
  go_wp2_with fail
  refine (tMAC p r4 _ hr4 b4).mono ?_
  rintro e w6 (⟨m5a, m5b, m5c, m5d, m5e, m5f, r5, c5, b5, rfl, hr5, hf5⟩ | ⟨hlt, rfl, hf5⟩)
  rotate_left
  · exact ⟨rfl, Hbad.out _ (by have x1 := C4.out; have x2 := congrArg List.length x1.1; rw [List.length_append, x1.2] at x2; omega) (hf0.trans (g4.trans hf5))⟩
  have g5 := g4.trans hf5
  have C5 : Hid (Cut l ((((a1 ++ a2) ++ [m3a, m3b, m3c, m3d, m3e, m3f]) ++ a4) ++ [m5a, m5b, m5c, m5d, m5e, m5f]) r5 24) := by
    refine ⟨?_, ?_⟩
    · rw [C4.out.1, c5.1]; simp
    · rw [List.length_append, C4.out.2, c5.2]
  clear g4
  clear c5 hf5 hr4
  go_wp2_with fail
  refine (tIP p r5 _ hr5 b5).mono ?_
  rintro e w7 (⟨a6, r6, c6, b6, rfl, hr6, hf6⟩ | ⟨hlt, rfl, hf6⟩)
  rotate_left
  · exact ⟨rfl, Hbad.out _ (by have x1 := C5.out; have x2 := congrArg List.length x1.1; rw [List.length_append, x1.2] at x2; omega) (hf0.trans (g5.trans hf6))⟩
  have g6 := g5.trans hf6
  have C6 : Hid (Cut l (((((a1 ++ a2) ++ [m3a, m3b, m3c, m3d, m3e, m3f]) ++ a4) ++ [m5a, m5b, m5c, m5d, m5e, m5f]) ++ a6) r6 28) := by
    refine ⟨?_, ?_⟩
    · rw [C5.out.1, c6.1]; simp
    · rw [List.length_append, C5.out.2, c6.2]
  clear g5
  clear c6 hf6 hr5
  have hspec : readARP l = if a1 = [0, 1, 8, 0, 6, 4] ∧ (num a2 = 1 ∨ num a2 = 2) then
      (⟨num a2, (m3a, m3b, m3c, m3d, m3e, m3f), num a4, (m5a, m5b, m5c, m5d, m5e, m5f), num a6⟩, 0) else (arp0, 2) := by
    obtain ⟨e1, e2⟩ := C6.out
    have l1 := C1.out.2
    have l2 : a2.length = 2 := by have := C2.out.2; simp at this; omega
    have l4 : a4.length = 4 := by have := C4.out.2; simp at this; omega
    have l6 : a6.length = 4 := by have := C6.out.2; simp at this; omega
    exact readARP_of l a1 a2 a4 a6 r6 _ _ _ _ _ _ _ _ _ _ _ _ e1 l1 l2 l4 l6
  have Hs := Lib.hid hspec
  clear hspec
  have hxk := hx0.keep g6 (by unfold oneB; omega)
  have hfk := hf0.trans g6
  clear hx0 hf0 g6
  have hbk := Bk.new w7 67 #[.int .u16 (num a2 : Int), .int .u8 (m3a.toNat : Int), .int .u8 (m3b.toNat : Int), .int .u8 (m3c.toNat : Int), .int .u8 (m3d.toNat : Int), .int .u8 (m3e.toNat : Int), .int .u8 (m3f.toNat : Int), .int .u32 (num a4 : Int), .int .u8 (m5a.toNat : Int), .int .u8 (m5b.toNat : Int), .int .u8 (m5c.toNat : Int), .int .u8 (m5d.toNat : Int), .int .u8 (m5e.toNat : Int), .int .u8 (m5f.toNat : Int), .int .u32 (num a6 : Int)]
  have hxa := hxk.alloc (.cells #[.int .u16 (num a2 : Int), .int .u8 (m3a.toNat : Int), .int .u8 (m3b.toNat : Int), .int .u8 (m3c.toNat : Int), .int .u8 (m3d.toNat : Int), .int .u8 (m3e.toNat : Int), .int .u8 (m3f.toNat : Int), .int .u32 (num a4 : Int), .int .u8 (m5a.toNat : Int), .int .u8 (m5b.toNat : Int), .int .u8 (m5c.toNat : Int), .int .u8 (m5d.toNat : Int), .int .u8 (m5e.toNat : Int), .int .u8 (m5f.toNat : Int), .int .u32 (num a6 : Int)] 67)
  have hfa := hfk.alloc (.cells #[.int .u16 (num a2 : Int), .int .u8 (m3a.toNat : Int), .int .u8 (m3b.toNat : Int), .int .u8 (m3c.toNat : Int), .int .u8 (m3d.toNat : Int), .int .u8 (m3e.toNat : Int), .int .u8 (m3f.toNat : Int), .int .u32 (num a4 : Int), .int .u8 (m5a.toNat : Int), .int .u8 (m5b.toNat : Int), .int .u8 (m5c.toNat : Int), .int .u8 (m5d.toNat : Int), .int .u8 (m5e.toNat : Int), .int .u8 (m5f.toNat : Int), .int .u32 (num a6 : Int)] 67)
  clear hxk hfk
  have hv := hbk.cells
  by_cases h1 : a1 = [0, 1, 8, 0, 6, 4]
  · have h1b : (a1 == [0, 1, 8, 0, 6, 4]) = true := by simpa using h1
    by_cases h2 : num a2 = 1
    · have h2b : ((num a2 : Int) == 1) = true := by simp [h2]
      have H1 := Lib.hid h1
      have H2 := Lib.hid h2
      clear h1 h2
      go_wp2_with fail
      refine (must_yes _ _).mono ?_
      rintro e w8 ⟨rfl, rfl⟩
      go_wp2_with ((refine wpList_store_bk rfl 67 (.tmp 2) (.tmp 31) rfl w.heap.size _ _ _ rfl rfl hxa rfl (by kernel_rfl) (by kernel_rfl) ?_); intro w9 hx9 hf9)
      have hcx := hx9.cells
      refine bodyPost_ret (v := Value.agg (arpC ⟨num a2, (m3a, m3b, m3c, m3d, m3e, m3f), num a4, (m5a, m5b, m5c, m5d, m5e, m5f), num a6⟩)) (by simp [results, Tryz.results115, go_sem, hcx, arpC]) rfl ?_
      refine ⟨.inl ⟨_, ⟨_, rfl, ?_⟩, rfl⟩, hfa.trans' hf9 (fun b hb e => by unfold oneB at e; omega)⟩
      rw [Hs.out, if_pos ⟨H1.out, .inl H2.out⟩]
    · have h2b : ((num a2 : Int) == 1) = false := by simp; omega
      by_cases h3 : num a2 = 2
      · have h3b : ((num a2 : Int) == 2) = true := by simp [h3]
        have H1 := Lib.hid h1
        have H3 := Lib.hid h3
        clear h1 h2 h3
        go_wp2_with fail
        refine (must_yes _ _).mono ?_
        rintro e w8 ⟨rfl, rfl⟩
        go_wp2_with ((refine wpList_store_bk rfl 67 (.tmp 2) (.tmp 31) rfl w.heap.size _ _ _ rfl rfl hxa rfl (by kernel_rfl) (by kernel_rfl) ?_); intro w9 hx9 hf9)
        have hcx := hx9.cells
        refine bodyPost_ret (v := Value.agg (arpC ⟨num a2, (m3a, m3b, m3c, m3d, m3e, m3f), num a4, (m5a, m5b, m5c, m5d, m5e, m5f), num a6⟩)) (by simp [results, Tryz.results115, go_sem, hcx, arpC]) rfl ?_
        refine ⟨.inl ⟨_, ⟨_, rfl, ?_⟩, rfl⟩, hfa.trans' hf9 (fun b hb e => by unfold oneB at e; omega)⟩
        rw [Hs.out, if_pos ⟨H1.out, .inr H3.out⟩]
      · have h3b : ((num a2 : Int) == 2) = false := by simp; omega
        have hno : Hid (¬ (a1 = [0, 1, 8, 0, 6, 4] ∧ (num a2 = 1 ∨ num a2 = 2))) := by unfold Hid; rintro ⟨_, h | h⟩ <;> contradiction
        clear h1 h2 h3
        go_wp2_with fail
        refine (must_no _ _).mono ?_
        rintro e w8 ⟨rfl, rfl⟩
        refine ⟨rfl, .inr ⟨2, ⟨2, rfl, ?_⟩, rfl⟩, hfa⟩
        rw [Hs.out, if_neg hno.out]
  · have h1b : (a1 == [0, 1, 8, 0, 6, 4]) = false := by simpa using h1
    have hno : Hid (¬ (a1 = [0, 1, 8, 0, 6, 4] ∧ (num a2 = 1 ∨ num a2 = 2))) := by unfold Hid; rintro ⟨h, _⟩; contradiction
    clear h1
    go_wp2_with fail
    refine (must_no _ _).mono ?_
    rintro e w8 ⟨rfl, rfl⟩
    refine ⟨rfl, .inr ⟨2, ⟨2, rfl, ?_⟩, rfl⟩, hfa⟩
    rw [Hs.out, if_neg hno.out]
def arpPost (l : List UInt8) (w : World) (e : Ending) (w' : World) : Prop := e = .returned (.tuple #[.agg (arpC (readARP l).1), .int .i64 ((readARP l).2 : Int)]) ∧ Fr noB w w'
theorem arpRead (l : List UInt8) (w : World) (hl : l.length ≤ 9223372036854775807) :
    Calls Tryz.prog 114 #[.string (bs l), .func (.func 115) #[] #[]] w (arpPost l w) := by
  refine (readArp l w (arpOk l) (arpBad l) (by rintro c ⟨x, rfl, _⟩; exact ⟨rfl, by kernel_rfl⟩) (fun p w1 _ hR _ => arpBy l hl p w1 hR)).mono ?_
  rintro e w' ⟨⟨c, ⟨x, rfl, hx⟩, rfl⟩ | ⟨er, ⟨k, rfl, hk⟩, rfl⟩, hf⟩
  · exact ⟨by rw [hx]; rfl, hf⟩
  · exact ⟨by rw [hk]; rfl, hf⟩
end Go.Proofs.YtcbkaiakdhiloabGreatDoor
namespace Go.Proofs.YtcbkaiakdhiloabGreatDoor
open Go.RowKit Go.Proofs
attribute [local go_sem] bs_size bs_append bs_extract
def zcIp4 : Array Value := #[.int .u16 0, .int .u8 0, .int .u8 0, .int .u32 0, .int .u32 0, .string ⟨#[]⟩]
theorem catchIp4 (gx ge : Nat) (er : Int) (w : World) (hx : Bk w gx 36 zcIp4) (he : Bk w ge 28 #[.int .i64 0]) (hne : gx ≠ ge) :
    CallsD Tryz.prog 112 #[.pointer (some ⟨gx, 0, none⟩), .pointer (some ⟨ge, 0, none⟩)] (.panicking (faultC er)) w fun r u' w' =>
      r = .returned (.tuple #[]) ∧ u' = .panicking [{ v := .iface 182 (.agg #[.int .i64 er]), recovered := true }] ∧ Bk w' gx 36 zcIp4 ∧ Bk w' ge 28 #[.int .i64 er] ∧ Fr (twoB gx ge) w w' := by
  have hta := fault_is er
  have hbf := (Bk.new w 182 #[.int .i64 er]).alloc (.cells zcIp4 36)
  have hbz := Bk.new (w.alloc (.cells #[.int .i64 er] 182)) 36 zcIp4
  rw [show (w.alloc (.cells #[.int .i64 er] 182)).heap.size = w.heap.size + 1 by simp] at hbz
  have hx2 := (hx.alloc (.cells #[.int .i64 er] 182)).alloc (.cells zcIp4 36)
  have he2 := (he.alloc (.cells #[.int .i64 er] 182)).alloc (.cells zcIp4 36)
  have hf2 : Fr (twoB gx ge) w ((w.alloc (.cells #[.int .i64 er] 182)).alloc (.cells zcIp4 36)) := ((Fr.refl _ _).alloc _).alloc _
  have hgx := hx.lt
  have hge := he.lt
  refine callsD_of_wpS Tryz.func112 rfl fun c₀ cs hu => ?_
  apply wpS_seq
  apply wpS_region
  simp [wpOpsS, go_sem, recoverD, hu, Tryz.ntmps112, Exit.thenS, faultC]
  refine wpS_of_wp ?_
  simp only [Array.replicate_succ, Array.replicate_zero, List.push_toArray, List.append_toArray, List.nil_append, List.cons_append, List.setIfInBounds_toArray, List.set_cons_zero, List.set_cons_succ]
  go_wp2_with fail
  unfold zcIp4 at hbf hbz hx2 he2 hf2
  generalize (w.alloc (.cells #[.int .i64 er] 182)).alloc (.cells #[.int .u16 0, .int .u8 0, .int .u8 0, .int .u32 0, .int .u32 0, .string ⟨#[]⟩] 36) = w2 at *
  refine wp_region_ssa (by kernel_rfl) (by kernel_rfl) (by kernel_rfl)
    (fun u => ⟨#[.pointer (some ⟨gx, 0, none⟩), .pointer (some ⟨ge, 0, none⟩), undef, .pointer (some ⟨w.heap.size, 0, none⟩), .pointer (some ⟨w.heap.size + 1, 0, none⟩), undef,
      .iface 182 (.agg #[.int .i64 er]), undef, .bool false, .tuple #[.agg #[.int .i64 er], .bool true], .bool true, .agg #[.int .i64 er], u 0, u 1, u 2], []⟩)
    (fun j v _ => match j with | 0 => v = .agg zcIp4 | 1 => v = .pointer (some ⟨w.heap.size, 0, none⟩) | 2 => v = .int .i64 er | _ => True)
    (fun L w3 => Bk w3 w.heap.size 182 #[.int .i64 er] ∧ Bk w3 (w.heap.size + 1) 36 zcIp4 ∧ Bk w3 gx 36 zcIp4 ∧ Bk w3 ge 28 #[if L 4 then .int .i64 er else .int .i64 0] ∧ Fr (twoB gx ge) w w3) (fun _ => undef) ⟨hbf.drew, hbz.drew, hx2.drew, he2.drew, hf2.drew⟩ ?_ ?_
  · rintro L u w3 i o ⟨g1, g2, g3, g4, g5⟩ hΦ ho hL hd K hK
    match i, ho with
    | 0, ho =>
      simp at ho; subst ho
      refine wp_load_row 36 (.tmp 4) rfl (w.heap.size + 1) rfl _ _ _ _ g2 Tryz.underlying36 rfl (by kernel_rfl) ?_
      exact hK _ _ rfl ⟨g1, g2, g3, g4, g5⟩ (fun _ _ _ h => h)
    | 1, ho =>
      simp at ho; subst ho
      clear hΦ hd
      go_simp
      exact hK _ _ rfl ⟨g1, g2, g3, g4, g5⟩ (fun _ _ _ h => h)
    | 2, ho =>
      simp at ho; subst ho
      have hu1 := hΦ 1 (hd ⟨1, .data⟩ (by simp) (by rfl))
      simp only at hu1
      have hc := g1.cells
      clear hΦ hd
      go_simp
      have hk := hK _ w3 rfl ⟨g1, g2, g3, g4, g5⟩ (fun _ _ _ h => h)
      simp only [upd, hu1] at hk
      exact hk
    | 3, ho =>
      simp at ho; subst ho
      have hu0 := hΦ 0 (hd ⟨0, .data⟩ (by simp) (by rfl))
      refine wp_store_bk 36 (.tmp 0) (.tmp 12) rfl gx _ _ _ rfl hu0 g3 rfl (by kernel_rfl) (by kernel_rfl) ?_
      intro w4 b4 f4
      refine hK undef _ trivial ⟨g1.keep f4 ?_, g2.keep f4 ?_, b4, g4.keep f4 ?_, g5.trans' f4 ?_⟩ (fun _ _ _ h => h)
      · unfold oneB; omega
      · unfold oneB; omega
      · unfold oneB; omega
      · intro b _ e; exact .inl e
    | 4, ho =>
      simp at ho; subst ho
      have hu2 := hΦ 2 (hd ⟨2, .data⟩ (by simp) (by rfl))
      simp only [hL] at g4 hu2
      have hc := g4.cells
      have hz := g4.frees
      clear hΦ hd
      go_simp
      have h4 : Bk (w3.setCell ⟨ge, 0, none⟩ (.int .i64 er)) ge 28 #[.int .i64 er] := by simpa using g4.set 0 (.int .i64 er)
      have hk := hK undef (w3.setCell ⟨ge, 0, none⟩ (.int .i64 er)) trivial ⟨g1.far (by simp; omega) _, g2.far (by simp; omega) _, g3.far (by simpa using hne) _, h4, g5.setCell (p := ⟨ge, 0, none⟩) (fun _ => .inr rfl) _⟩ (fun _ _ _ h => h)
      simp only [upd, hu2] at hk
      exact hk
  · rintro u w3 hΦ L hall ⟨g1, g2, g3, g4, g5⟩
    rw [hall 4 (by simp)] at g4
    exact ⟨rfl, _, rfl, .tuple #[], by simp [results, Tryz.results112], rfl, rfl, g3, by simpa using g4, g5⟩
theorem idleIp4 (gx ge : Nat) (w : World) :
    CallsD Tryz.prog 112 #[.pointer (some ⟨gx, 0, none⟩), .pointer (some ⟨ge, 0, none⟩)] .returning w fun r u' w' =>
      r = .returned (.tuple #[]) ∧ u' = .returning ∧ w' = w := by
  refine callsD_of_wpS Tryz.func112 rfl fun c₀ cs hu => ?_
  apply wpS_seq
  apply wpS_region
  simp [wpOpsS, go_sem, recoverD, hu, Tryz.ntmps112, Exit.thenS]
  refine wpS_of_wp ?_
  simp only [Array.replicate_succ, Array.replicate_zero, List.push_toArray, List.append_toArray, List.nil_append, List.cons_append, List.setIfInBounds_toArray, List.set_cons_zero, List.set_cons_succ]
  go_wp2_with fail
  simp [Exit.inBlock, bodyPostS, results, Tryz.results112]
  cases c₀
  simp at hu
  simp [hu]
theorem readIp4 (l : List UInt8) (w : World) (q0 : Value) (ok : Array Value → Prop) (bad : Int → Prop) (hok : ∀ c, ok c → c.size = zcIp4.size ∧ c.all (·.oneCell') = true)
    (hby : ∀ (p : Nat) (w1 : World), w.heap.size ≤ p → Rd w1 p l → Fr noB w w1 → Calls Tryz.prog 71 #[.pointer (some ⟨p, 0, none⟩), q0] w1 (byPost ok bad p w1)) :
    Calls Tryz.prog 70 #[.string (bs l), .func (.func 71) #[] #[q0]] w (readPost zcIp4 ok bad w) := by
  have hmf : ∀ (fn : Fn) (first cap : Array Value) (w : World), (Instr.makeFunc fn first cap).run Tryz.prog w = .ok (.func fn first cap) w := fun _ _ _ _ => rfl
  go_enter_defers Tryz.func70, Tryz.ntmps70
  have Hby := Lib.hid hby
  have Hok := Lib.hid hok
  clear hby hok
  go_wp2_with fail
  have hx0 := ((Bk.new w 36 zcIp4).alloc (.cells #[.int .i64 0] 28)).alloc (.cells #[.string (bs l)] 184)
  have he0 := (Bk.new (w.alloc (.cells zcIp4 36)) 28 #[.int .i64 0]).alloc (.cells #[.string (bs l)] 184)
  have hr0 := Bk.new ((w.alloc (.cells zcIp4 36)).alloc (.cells #[.int .i64 0] 28)) 184 #[.string (bs l)]
  rw [show ((w.alloc (.cells zcIp4 36)).alloc (.cells #[.int .i64 0] 28)).heap.size = w.heap.size + 1 + 1 by simp] at hr0
  rw [show (w.alloc (.cells zcIp4 36)).heap.size = w.heap.size + 1 by simp] at he0
  have hf0 : Fr noB w (((w.alloc (.cells zcIp4 36)).alloc (.cells #[.int .i64 0] 28)).alloc (.cells #[.string (bs l)] 184)) := (((Fr.refl _ _).alloc _).alloc _).alloc _
  unfold zcIp4 at hx0 he0 hr0 hf0
  generalize ((w.alloc (.cells #[.int .u16 0, .int .u8 0, .int .u8 0, .int .u32 0, .int .u32 0, .string ⟨#[]⟩] 36)).alloc (.cells #[.int .i64 0] 28)).alloc (.cells #[.string (bs l)] 184) = w1 at *
  refine (Hby.out _ w1 (by omega) hr0 hf0).mono ?_
  rintro e w2 ⟨⟨x, hx, rfl⟩ | ⟨er, hbad, rfl⟩, hf1⟩
  · have hx1 := hx0.keep hf1 (by unfold oneB; omega)
    have he1 := he0.keep hf1 (by unfold oneB; omega)
    obtain ⟨hsx, hox⟩ := Hok.out x hx
    have Hsx := Lib.hid hsx
    have Hox := Lib.hid hox
    have hix : (Tryz.prog.info? 36).map (·.size) = some x.size := by rw [hsx]; kernel_rfl
    have Hix := Lib.hid hix
    clear hsx hox hix
    go_wp2_with ((refine wpList_store_bk rfl 36 (.tmp 4) (.tmp 11) rfl w.heap.size _ _ x rfl rfl hx1 Hsx.out Hix.out Hox.out ?_); intro w3 hx3 hf3; have he3 := he1.keep hf3 (by unfold oneB; omega); have hc3 := he3.cells; have hz3 := he3.frees)
    have hb3 : Bk (w3.setCell ⟨w.heap.size + 1, 0, none⟩ (.int .i64 0)) (w.heap.size + 1) 28 #[.int .i64 0] := by simpa using he3.set 0 (.int .i64 0)
    have hx4 := hx3.far (p := ⟨w.heap.size + 1, 0, none⟩) (by simp) (.int .i64 0)
    have hfin : Fr noB w (w3.setCell ⟨w.heap.size + 1, 0, none⟩ (.int .i64 0)) := by
      refine (((hf0.trans' hf1 ?_).trans' hf3 ?_).setCell ?_ _)
      · intro b hb e; unfold oneB at e; omega
      · intro b hb e; unfold oneB at e; omega
      · intro e; exact absurd e (by simp)
    generalize w3.setCell ⟨w.heap.size + 1, 0, none⟩ (.int .i64 0) = w4 at *
    refine leaves_cons (f := 112) (args := #[.pointer (some ⟨w.heap.size, 0, none⟩), .pointer (some ⟨w.heap.size + 1, 0, none⟩)]) (by simp) (by simp [go_sem]) ?_
    refine (idleIp4 _ _ _).mono ?_
    rintro e u' w5 ⟨rfl, rfl, rfl⟩
    refine ⟨.tuple #[.agg x, .int .i64 0], ?_, ⟨.inl ⟨_, hx, rfl⟩, hfin⟩⟩
    exact results_row_int Tryz.results70 _ w5 w.heap.size (w.heap.size + 1) _ _ x 0 _ _ rfl rfl hx4 hb3 Tryz.underlying36 rfl Hix.out Tryz.underlying28
  · have hx1 := hx0.keep hf1 (by unfold oneB; omega)
    have he1 := he0.keep hf1 (by unfold oneB; omega)
    have hfin : Fr noB w w2 := hf0.trans' hf1 (fun b hb e => by unfold oneB at e; omega)
    refine leaves_cons (f := 112) (args := #[.pointer (some ⟨w.heap.size, 0, none⟩), .pointer (some ⟨w.heap.size + 1, 0, none⟩)]) (by simp) (by simp [go_sem]) ?_
    refine (catchIp4 w.heap.size (w.heap.size + 1) er w2 hx1 he1 (by omega)).mono ?_
    rintro e u' w5 ⟨rfl, rfl, hx5, he5, hf5⟩
    refine ⟨.tuple #[.agg zcIp4, .int .i64 er], ?_, ⟨.inr ⟨er, hbad, rfl⟩, hfin.trans' hf5 ?_⟩⟩
    · exact results_row_int Tryz.results70 _ w5 w.heap.size (w.heap.size + 1) _ _ _ er _ _ rfl rfl hx5 he5 Tryz.underlying36 rfl (by kernel_rfl) Tryz.underlying28
    · intro b hb e; unfold twoB at e; omega
end Go.Proofs.YtcbkaiakdhiloabGreatDoor
namespace Go.Proofs.YtcbkaiakdhiloabGreatDoor
open Go.RowKit Go.Proofs
attribute [local go_sem] bs_size bs_append bs_sub bs_toList
structure IpD where
  id : Nat
  ttl : Nat
  pr : Nat
  fm : Nat
  «to» : Nat
  by' : List UInt8
def ip0 : IpD := ⟨0, 0, 0, 0, 0, []⟩
def ipC (a : IpD) : Array Value := #[.int .u16 (a.id : Int), .int .u8 (a.ttl : Int), .int .u8 (a.pr : Int), .int .u32 (a.fm : Int), .int .u32 (a.«to» : Int), .string (bs a.by')]
def readIP (l : List UInt8) : IpD × Nat :=
  if l.length < 20 then (ip0, 1)
  else if num (sub l 0 1) / 16 ≠ 4 ∨ num (sub l 0 1) % 16 < 5 then (ip0, 2)
  else if 5 < num (sub l 0 1) % 16 then (ip0, 4)
  else if num (sub l 2 4) < 20 then (ip0, 2)
  else if l.length < num (sub l 2 4) then (ip0, 1)
  else if check (sub l 0 20) ≠ 0 then (ip0, 6)
  else if 32768 ≤ num (sub l 6 8) ∨ num (sub l 8 9) = 0 then (ip0, 2)
  else if num (sub l 6 8) % 16384 ≠ 0 then (ip0, 5)
  else (⟨num (sub l 4 6), num (sub l 8 9), num (sub l 9 10), num (sub l 12 16), num (sub l 16 20), sub l 20 (num (sub l 2 4))⟩, 0)
theorem readIP_short (l : List UInt8) (h : l.length < 20) : readIP l = (ip0, 1) := by unfold readIP; rw [if_pos h]
theorem readIP_of (l a1 a2 a3 a4 a5 a6 a7 a8 a9 a10 r : List UInt8) (e : l = (((((((((a1 ++ a2) ++ a3) ++ a4) ++ a5) ++ a6) ++ a7) ++ a8) ++ a9) ++ a10) ++ r)
    (l1 : a1.length = 1) (l2 : a2.length = 1) (l3 : a3.length = 2) (l4 : a4.length = 2) (l5 : a5.length = 2) (l6 : a6.length = 1) (l7 : a7.length = 1) (l8 : a8.length = 2) (l9 : a9.length = 4) (l10 : a10.length = 4) :
    readIP l = if num a1 / 16 ≠ 4 ∨ num a1 % 16 < 5 then (ip0, 2)
  else if 5 < num a1 % 16 then (ip0, 4)
  else if num a3 < 20 then (ip0, 2)
  else if l.length < num a3 then (ip0, 1)
  else if check (sub l 0 20) ≠ 0 then (ip0, 6)
  else if 32768 ≤ num a5 ∨ num a6 = 0 then (ip0, 2)
  else if num a5 % 16384 ≠ 0 then (ip0, 5)
  else (⟨num a4, num a6, num a7, num a9, num a10, r.take (num a3 - 20)⟩, 0) := by
  have h20 : ¬ l.length < 20 := by rw [e]; simp [l1, l2, l3, l4, l5, l6, l7, l8, l9, l10]; omega
  have d1 : sub l 0 1 = a1 := by rw [e]; simp [sub, List.append_assoc, ← l1]
  match a1, l1 with
  | [x0], _ => match a2, l2 with
   | [x1], _ => match a3, l3 with
    | [x2, x3], _ => match a4, l4 with
     | [x4, x5], _ => match a5, l5 with
      | [x6, x7], _ => match a6, l6 with
       | [x8], _ => match a7, l7 with
        | [x9], _ => match a8, l8 with
         | [x10, x11], _ => match a9, l9 with
          | [x12, x13, x14, x15], _ => match a10, l10 with
           | [x16, x17, x18, x19], _ =>
             unfold readIP
             rw [if_neg h20]
             have d3 : sub l 2 4 = [x2, x3] := by subst e; rfl
             have d4 : sub l 4 6 = [x4, x5] := by subst e; rfl
             have d5 : sub l 6 8 = [x6, x7] := by subst e; rfl
             have d6 : sub l 8 9 = [x8] := by subst e; rfl
             have d7 : sub l 9 10 = [x9] := by subst e; rfl
             have d9 : sub l 12 16 = [x12, x13, x14, x15] := by subst e; rfl
             have d10 : sub l 16 20 = [x16, x17, x18, x19] := by subst e; rfl
             have d11 : sub l 20 (num [x2, x3]) = r.take (num [x2, x3] - 20) := by
               have hd : l.drop 20 = r := by subst e; rfl
               rw [← hd, sub, List.drop_take]
             rw [d1, d3, d4, d5, d6, d7, d9, d10, d11]
theorem nat_and32768 (x : Nat) (h : x < 65536) : x &&& 32768 = if x < 32768 then 0 else 32768 := by
  have h1 := Nat.and_div_two_pow (a := x) (b := 32768) (n := 15)
  have h2 := Nat.and_mod_two_pow (a := x) (b := 32768) (n := 15)
  rw [show (32768 : Nat) / 2 ^ 15 = 1 by decide, Nat.and_one_is_mod] at h1
  rw [show (32768 : Nat) % 2 ^ 15 = 0 by decide, Nat.and_zero] at h2
  split <;> omega
theorem and32768 (x : Nat) (h : x < 65536) : (bits .and .u16 (x : Int) 32768 == 0) = decide (x < 32768) := by
  rw [show (32768 : Int) = ((32768 : Nat) : Int) from rfl, u16_and_nat x 32768 (by omega) (by omega), nat_and32768 x h]
  by_cases hx : x < 32768 <;> simp [hx]
theorem and16383 (x : Nat) (h : x < 65536) : bits .and .u16 (x : Int) 16383 = ((x % 16384 : Nat) : Int) := by
  rw [show (16383 : Int) = ((16383 : Nat) : Int) from rfl, u16_and_nat x 16383 (by omega) (by omega)]
  congr 1
  exact Nat.and_two_pow_sub_one_eq_mod x 14
theorem hashCheck_one (A : Option Addr) (c : Nat) (p : List UInt8) (w : World) (hr : SlR w noB 1 A 1 (strs [p])) (hz : p.length ≤ 9223372036854775807) :
    Calls Tryz.prog 28 #[.slice A 1 c] w fun e w' => e = .returned (.int .u16 (check p)) ∧ w = w' := by
  have h := hashCheck_any A 1 c [p] w noB hr (by omega) (by simpa using hz)
  simpa using h
def ipOk (l : List UInt8) (c : Array Value) : Prop := ∃ x, c = ipC x ∧ readIP l = (x, 0)
def ipBad (l : List UInt8) (er : Int) : Prop := ∃ k : Nat, er = k ∧ readIP l = (ip0, k)
theorem ipBy (l : List UInt8) (hl : l.length ≤ 9223372036854775807) (p q : Nat) (w : World) (hR : Rd w p l) (hq : Bk w q 9 #[.string (bs l)]) (hpq : p ≠ q) :
    Calls Tryz.prog 71 #[.pointer (some ⟨p, 0, none⟩), .pointer (some ⟨q, 0, none⟩)] w (byPost (ipOk l) (ipBad l) p w) := by
  have hp := Bk.lt hR
  have hql := hq.lt
  go_enter Tryz.func71, Tryz.ntmps71
  have hr0 := Bk.alloc hR (.cells zcIp4 36)
  have hx0 := Bk.new w 36 zcIp4
  have hq0 := Bk.alloc hq (.cells zcIp4 36)
  have hf0 : Fr (oneB p) w (w.alloc (.cells zcIp4 36)) := (Fr.refl _ _).alloc _
  have hqc := hq0.cells
  unfold zcIp4 at hr0 hx0 hf0 hqc hq0
  by_cases h20 : l.length < 20
  · have h20' : (20 : Int) ≤ l.length ↔ False := by simp; omega
    go_wp2_with fail
    refine (must_no _ _).mono ?_
    rintro e w8 ⟨rfl, rfl⟩
    exact ⟨rfl, .inr ⟨1, ⟨1, rfl, readIP_short l h20⟩, rfl⟩, hf0⟩
  have h20' : (20 : Int) ≤ l.length := by omega
  go_wp2_with fail
  generalize w.alloc (.cells #[.int .u16 0, .int .u8 0, .int .u8 0, .int .u32 0, .int .u32 0, .string ⟨#[]⟩] 36) = w1 at *
  refine (must_yes _ _).mono ?_
  rintro e w8 ⟨rfl, rfl⟩
  have H20 := Lib.hid h20
  clear h20
  go_wp2_with fail
  refine (tU8 p l _ hr0 hl).mono ?_
  rintro e w2 (⟨a1, r1, c1, b1, rfl, hr1, hf1⟩ | ⟨hlt, rfl, hf1⟩)
  rotate_left
  · exfalso; have h20 := H20.out; omega
  have g1 := hf1
  have C1 : Hid (Cut l a1 r1 1) := c1
  clear c1 hf1 hr0
  have d1 : Hid (sub l 0 1 = a1) := by
    have := C1.out
    unfold Hid
    rw [this.1, sub, List.drop_zero, ← this.2, List.take_left']
    rfl
  have n1 : num a1 < 256 := by have h := num_le a1; rw [C1.out.2] at h; exact h
  by_cases t1 : num a1 / 16 = 4
  rotate_left
  · have b1' : ((num a1 : Int) / 16 == 4) = false := by simp; omega
    have T1 := Lib.hid t1
    clear t1
    go_wp2_with fail
    refine (must_no _ _).mono ?_
    rintro e w8 ⟨rfl, rfl⟩
    refine ⟨rfl, .inr ⟨2, ⟨2, rfl, ?_⟩, rfl⟩, hf0.trans g1⟩
    rw [readIP, if_neg H20.out, d1.out, if_pos (.inl T1.out)]
  have b1' : ((num a1 : Int) / 16 == 4) = true := by simp; omega
  by_cases t2 : 5 ≤ num a1 % 16
  rotate_left
  · have b2' : decide ((5 : Int) ≤ (num a1 : Int) % 16) = false := by simp; omega
    have T1 := Lib.hid t1
    have T2 := Lib.hid t2
    clear t1 t2
    go_wp2_with fail
    refine (must_no _ _).mono ?_
    rintro e w8 ⟨rfl, rfl⟩
    refine ⟨rfl, .inr ⟨2, ⟨2, rfl, ?_⟩, rfl⟩, hf0.trans g1⟩
    rw [readIP, if_neg H20.out, d1.out, if_pos (.inr (by have := T2.out; omega))]
  have b2' : decide ((5 : Int) ≤ (num a1 : Int) % 16) = true := by simp; omega
  by_cases t3 : num a1 % 16 = 5
  rotate_left
  · have b3' : ((num a1 : Int) % 16 == 5) = false := by simp; omega
    have T1 := Lib.hid t1
    have T2 := Lib.hid t2
    have T3 := Lib.hid t3
    clear t1 t2 t3
    go_wp2_with fail
    refine (must_yes _ _).mono ?_
    rintro e w8 ⟨rfl, rfl⟩
    go_wp2_with fail
    refine (must_no _ _).mono ?_
    rintro e w8 ⟨rfl, rfl⟩
    refine ⟨rfl, .inr ⟨4, ⟨4, rfl, ?_⟩, rfl⟩, hf0.trans g1⟩
    have x1 := T1.out
    have x2 := T2.out
    have x3 := T3.out
    rw [readIP, if_neg H20.out, d1.out, if_neg (by omega), if_pos (by omega)]
  have b3' : ((num a1 : Int) % 16 == 5) = true := by simp; omega
  have T1 := Lib.hid t1
  have T3 := Lib.hid t3
  clear t1 t2 t3
  go_wp2_with fail
  refine (must_yes _ _).mono ?_
  rintro e w8 ⟨rfl, rfl⟩
  go_wp2_with fail
  refine (must_yes _ _).mono ?_
  rintro e w8 ⟨rfl, rfl⟩
  clear b1' b2' b3' d1
  go_wp2_with fail
  refine (tU8 p r1 _ hr1 b1).mono ?_
  rintro e w3 (⟨a2, r2, c2, b2, rfl, hr2, hf2⟩ | ⟨hlt, rfl, hf2⟩)
  rotate_left
  · exfalso; have h20 := H20.out; have x1 := C1.out; have x2 := congrArg List.length x1.1; rw [List.length_append, x1.2] at x2; omega
  have g2 := g1.trans hf2
  have C2 : Hid (Cut l (a1 ++ a2) r2 2) := by
    refine ⟨?_, ?_⟩
    · rw [C1.out.1, c2.1]; simp
    · rw [List.length_append, C1.out.2, c2.2]
  clear g1
  clear c2 hf2 hr1
  go_wp2_with fail
  refine (tU16 p r2 _ hr2 b2).mono ?_
  rintro e w4 (⟨a3, r3, c3, b3, rfl, hr3, hf3⟩ | ⟨hlt, rfl, hf3⟩)
  rotate_left
  · exfalso; have h20 := H20.out; have x1 := C2.out; have x2 := congrArg List.length x1.1; rw [List.length_append, x1.2] at x2; omega
  have g3 := g2.trans hf3
  have C3 : Hid (Cut l ((a1 ++ a2) ++ a3) r3 4) := by
    refine ⟨?_, ?_⟩
    · rw [C2.out.1, c3.1]; simp
    · rw [List.length_append, C2.out.2, c3.2]
  clear g2
  clear c3 hf3 hr2
  go_wp2_with fail
  refine (tU16 p r3 _ hr3 b3).mono ?_
  rintro e w5 (⟨a4, r4, c4, b4, rfl, hr4, hf4⟩ | ⟨hlt, rfl, hf4⟩)
  rotate_left
  · exfalso; have h20 := H20.out; have x1 := C3.out; have x2 := congrArg List.length x1.1; rw [List.length_append, x1.2] at x2; omega
  have g4 := g3.trans hf4
  have C4 : Hid (Cut l (((a1 ++ a2) ++ a3) ++ a4) r4 6) := by
    refine ⟨?_, ?_⟩
    · rw [C3.out.1, c4.1]; simp
    · rw [List.length_append, C3.out.2, c4.2]
  clear g3
  clear c4 hf4 hr3
  have F5 := (hf0.trans g4).alloc (.cells #[.int .u16 (num a4 : Int), .int .u8 0, .int .u8 0, .int .u32 0, .int .u32 0, .string ⟨#[]⟩] 36)
  have hx5 := (hx0.keep g4 (by unfold oneB; omega)).alloc (.cells #[.int .u16 (num a4 : Int), .int .u8 0, .int .u8 0, .int .u32 0, .int .u32 0, .string ⟨#[]⟩] 36)
  have hq5 := (hq0.keep g4 (by unfold oneB; omega)).alloc (.cells #[.int .u16 (num a4 : Int), .int .u8 0, .int .u8 0, .int .u32 0, .int .u32 0, .string ⟨#[]⟩] 36)
  have hr5' := Bk.alloc hr4 (.cells #[.int .u16 (num a4 : Int), .int .u8 0, .int .u8 0, .int .u32 0, .int .u32 0, .string ⟨#[]⟩] 36)
  have hb5 := Bk.new w5 36 #[.int .u16 (num a4 : Int), .int .u8 0, .int .u8 0, .int .u32 0, .int .u32 0, .string ⟨#[]⟩]
  have hp5 : p < w5.heap.size := Bk.lt hr4
  have hx5l : w.heap.size < w5.heap.size := (hx0.keep g4 (by unfold oneB; omega)).lt
  have hq5l : q < w5.heap.size := (hq0.keep g4 (by unfold oneB; omega)).lt
  clear hf0 hx0 hq0 g4 hr4 hqc
  have n3 : num a3 < 65536 := by
    have h := num_le a3
    have h2 : a3.length = 2 := by have x1 := C3.out.2; have x2 := C2.out.2; rw [List.length_append, x2] at x1; omega
    rw [h2] at h; exact h
  have N3 := Lib.hid n3
  have e3w : wrap64 (num a3 : Int) = num a3 := wr64 (by omega) (by omega)
  clear n3
  go_wp2_with fail
  generalize w5.alloc (.cells #[.int .u16 (num a4 : Int), .int .u8 0, .int .u8 0, .int .u32 0, .int .u32 0, .string ⟨#[]⟩] 36) = v5 at *
  generalize w5.heap.size = g at *
  refine (tU16 p r4 _ hr5' b4).mono ?_
  rintro e w6 (⟨a5, r5, c5, b5, rfl, hr5, hf5⟩ | ⟨hlt, rfl, hf5⟩)
  rotate_left
  · exfalso; have h20 := H20.out; have x1 := C4.out; have x2 := congrArg List.length x1.1; rw [List.length_append, x1.2] at x2; omega
  have g5 := hf5
  have C5 : Hid (Cut l (((a1 ++ a2) ++ a3) ++ a4 ++ a5) r5 8) := by
    refine ⟨?_, ?_⟩
    · rw [C4.out.1, c5.1]; simp
    · rw [List.length_append, C4.out.2, c5.2]
  clear c5 hf5 hr5'
  go_wp2_with fail
  refine (tU8 p r5 _ hr5 b5).mono ?_
  rintro e w7 (⟨a6, r6, c6, b6, rfl, hr6, hf6⟩ | ⟨hlt, rfl, hf6⟩)
  rotate_left
  · exfalso; have h20 := H20.out; have x1 := C5.out; have x2 := congrArg List.length x1.1; rw [List.length_append, x1.2] at x2; omega
  have g6 := g5.trans hf6
  have C6 : Hid (Cut l ((((a1 ++ a2) ++ a3) ++ a4 ++ a5) ++ a6) r6 9) := by
    refine ⟨?_, ?_⟩
    · rw [C5.out.1, c6.1]; simp
    · rw [List.length_append, C5.out.2, c6.2]
  clear g5
  clear c6 hf6 hr5
  go_wp2_with fail
  refine (tU8 p r6 _ hr6 b6).mono ?_
  rintro e w8 (⟨a7, r7, c7, b7, rfl, hr7, hf7⟩ | ⟨hlt, rfl, hf7⟩)
  rotate_left
  · exfalso; have h20 := H20.out; have x1 := C6.out; have x2 := congrArg List.length x1.1; rw [List.length_append, x1.2] at x2; omega
  have g7 := g6.trans hf7
  have C7 : Hid (Cut l (((((a1 ++ a2) ++ a3) ++ a4 ++ a5) ++ a6) ++ a7) r7 10) := by
    refine ⟨?_, ?_⟩
    · rw [C6.out.1, c7.1]; simp
    · rw [List.length_append, C6.out.2, c7.2]
  clear g6
  clear c7 hf7 hr6
  have hbA := hb5.keep g7 (by unfold oneB; omega)
  have hxA := (hx5.keep g7 (by unfold oneB; omega))
  have hqA := (hq5.keep g7 (by unfold oneB; omega))
  have FA := F5.trans g7
  have hcA := hbA.cells
  have hzA := hbA.frees
  have hbB : Bk (w8.setCell ⟨g, 1, none⟩ (.int .u8 (num a6 : Int))) g 36 #[.int .u16 (num a4 : Int), .int .u8 (num a6 : Int), .int .u8 0, .int .u32 0, .int .u32 0, .string ⟨#[]⟩] := by simpa using hbA.set 1 (.int .u8 (num a6 : Int))
  have hcB := hbB.cells
  have hzB := hbB.frees
  have hb8 : Bk ((w8.setCell ⟨g, 1, none⟩ (.int .u8 (num a6 : Int))).setCell ⟨g, 2, none⟩ (.int .u8 (num a7 : Int))) g 36 #[.int .u16 (num a4 : Int), .int .u8 (num a6 : Int), .int .u8 (num a7 : Int), .int .u32 0, .int .u32 0, .string ⟨#[]⟩] := by simpa using hbB.set 2 (.int .u8 (num a7 : Int))
  have hx8 := (hxA.far (p := ⟨g, 1, none⟩) (by simp; omega) (.int .u8 (num a6 : Int))).far (p := ⟨g, 2, none⟩) (by simp; omega) (.int .u8 (num a7 : Int))
  have hq8 := (hqA.far (p := ⟨g, 1, none⟩) (by simp; omega) (.int .u8 (num a6 : Int))).far (p := ⟨g, 2, none⟩) (by simp; omega) (.int .u8 (num a7 : Int))
  have hr8' := (Bk.far hr7 (p := ⟨g, 1, none⟩) (by simp; omega) (.int .u8 (num a6 : Int))).far (p := ⟨g, 2, none⟩) (by simp; omega) (.int .u8 (num a7 : Int))
  have F8 := (FA.setCell (p := ⟨g, 1, none⟩) (fun e => absurd e (by simp; omega)) (.int .u8 (num a6 : Int))).setCell (p := ⟨g, 2, none⟩) (fun e => absurd e (by simp; omega)) (.int .u8 (num a7 : Int))
  clear hbA hxA hqA FA hbB hb5 hx5 hq5 F5 g7 hr7
  go_wp2_with fail
  clear hcA hzA hcB hzB
  generalize ((w8.setCell ⟨g, 1, none⟩ (.int .u8 (num a6 : Int))).setCell ⟨g, 2, none⟩ (.int .u8 (num a7 : Int))) = v8 at *
  refine (tU16 p r7 _ hr8' b7).mono ?_
  rintro e w9 (⟨a8, r8, c8, b8, rfl, hr8, hf8⟩ | ⟨hlt, rfl, hf8⟩)
  rotate_left
  · exfalso; have h20 := H20.out; have x1 := C7.out; have x2 := congrArg List.length x1.1; rw [List.length_append, x1.2] at x2; omega
  have g8 := hf8
  have C8 : Hid (Cut l ((((((a1 ++ a2) ++ a3) ++ a4) ++ a5) ++ a6) ++ a7 ++ a8) r8 12) := by
    refine ⟨?_, ?_⟩
    · rw [C7.out.1, c8.1]; simp
    · rw [List.length_append, C7.out.2, c8.2]
  clear c8 hf8 hr8'
  go_wp2_with fail
  refine (tIP p r8 _ hr8 b8).mono ?_
  rintro e w10 (⟨a9, r9, c9, b9, rfl, hr9, hf9⟩ | ⟨hlt, rfl, hf9⟩)
  rotate_left
  · exfalso; have h20 := H20.out; have x1 := C8.out; have x2 := congrArg List.length x1.1; rw [List.length_append, x1.2] at x2; omega
  have g9 := g8.trans hf9
  have C9 : Hid (Cut l (((((((a1 ++ a2) ++ a3) ++ a4) ++ a5) ++ a6) ++ a7 ++ a8) ++ a9) r9 16) := by
    refine ⟨?_, ?_⟩
    · rw [C8.out.1, c9.1]; simp
    · rw [List.length_append, C8.out.2, c9.2]
  clear g8
  clear c9 hf9 hr8
  go_wp2_with fail
  refine (tIP p r9 _ hr9 b9).mono ?_
  rintro e w11 (⟨a10, r10, c10, b10, rfl, hr10, hf10⟩ | ⟨hlt, rfl, hf10⟩)
  rotate_left
  · exfalso; have h20 := H20.out; have x1 := C9.out; have x2 := congrArg List.length x1.1; rw [List.length_append, x1.2] at x2; omega
  have g10 := g9.trans hf10
  have C10 : Hid (Cut l ((((((((a1 ++ a2) ++ a3) ++ a4) ++ a5) ++ a6) ++ a7 ++ a8) ++ a9) ++ a10) r10 20) := by
    refine ⟨?_, ?_⟩
    · rw [C9.out.1, c10.1]; simp
    · rw [List.length_append, C9.out.2, c10.2]
  clear g9
  clear c10 hf10 hr9
  have hbA := hb8.keep g10 (by unfold oneB; omega)
  have hxA := (hx8.keep g10 (by unfold oneB; omega))
  have hqA := (hq8.keep g10 (by unfold oneB; omega))
  have FA := F8.trans g10
  have hcA := hbA.cells
  have hzA := hbA.frees
  have hbB : Bk (w11.setCell ⟨g, 3, none⟩ (.int .u32 (num a9 : Int))) g 36 #[.int .u16 (num a4 : Int), .int .u8 (num a6 : Int), .int .u8 (num a7 : Int), .int .u32 (num a9 : Int), .int .u32 0, .string ⟨#[]⟩] := by simpa using hbA.set 3 (.int .u32 (num a9 : Int))
  have hcB := hbB.cells
  have hzB := hbB.frees
  have hb11 : Bk ((w11.setCell ⟨g, 3, none⟩ (.int .u32 (num a9 : Int))).setCell ⟨g, 4, none⟩ (.int .u32 (num a10 : Int))) g 36 #[.int .u16 (num a4 : Int), .int .u8 (num a6 : Int), .int .u8 (num a7 : Int), .int .u32 (num a9 : Int), .int .u32 (num a10 : Int), .string ⟨#[]⟩] := by simpa using hbB.set 4 (.int .u32 (num a10 : Int))
  have hx11 := (hxA.far (p := ⟨g, 3, none⟩) (by simp; omega) (.int .u32 (num a9 : Int))).far (p := ⟨g, 4, none⟩) (by simp; omega) (.int .u32 (num a10 : Int))
  have hq11 := (hqA.far (p := ⟨g, 3, none⟩) (by simp; omega) (.int .u32 (num a9 : Int))).far (p := ⟨g, 4, none⟩) (by simp; omega) (.int .u32 (num a10 : Int))
  have hr11' := (Bk.far hr10 (p := ⟨g, 3, none⟩) (by simp; omega) (.int .u32 (num a9 : Int))).far (p := ⟨g, 4, none⟩) (by simp; omega) (.int .u32 (num a10 : Int))
  have F11 := (FA.setCell (p := ⟨g, 3, none⟩) (fun e => absurd e (by simp; omega)) (.int .u32 (num a9 : Int))).setCell (p := ⟨g, 4, none⟩) (fun e => absurd e (by simp; omega)) (.int .u32 (num a10 : Int))
  clear hbA hxA hqA FA hbB hb8 hx8 hq8 F8 g10 hr10
  go_upto_region 12 with fail
  clear hcA hzA hcB hzB
  generalize ((w11.setCell ⟨g, 3, none⟩ (.int .u32 (num a9 : Int))).setCell ⟨g, 4, none⟩ (.int .u32 (num a10 : Int))) = v11 at *
  have hspec : Hid (readIP l = if num a1 / 16 ≠ 4 ∨ num a1 % 16 < 5 then (ip0, 2)
      else if 5 < num a1 % 16 then (ip0, 4)
      else if num a3 < 20 then (ip0, 2)
      else if l.length < num a3 then (ip0, 1)
      else if check (sub l 0 20) ≠ 0 then (ip0, 6)
      else if 32768 ≤ num a5 ∨ num a6 = 0 then (ip0, 2)
      else if num a5 % 16384 ≠ 0 then (ip0, 5)
      else (⟨num a4, num a6, num a7, num a9, num a10, r10.take (num a3 - 20)⟩, 0)) := by
    have x1 := C1.out.2
    have x2 := C2.out.2
    have x3 := C3.out.2
    have x4 := C4.out.2
    have x5 := C5.out.2
    have x6 := C6.out.2
    have x7 := C7.out.2
    have x8 := C8.out.2
    have x9 := C9.out.2
    have x10 := C10.out.2
    simp only [List.length_append] at x2 x3 x4 x5 x6 x7 x8 x9 x10
    exact readIP_of l a1 a2 a3 a4 a5 a6 a7 a8 a9 a10 r10 C10.out.1 x1 (by omega) (by omega) (by omega) (by omega) (by omega) (by omega) (by omega) (by omega) (by omega)
  have hlen : Hid (l.length = 20 + r10.length) := by
    have x1 := C10.out
    have x2 := congrArg List.length x1.1
    rw [List.length_append, x1.2] at x2; exact x2
  have n5 : num a5 < 65536 := by
    have h := num_le a5
    have h2 : a5.length = 2 := by have x1 := C5.out.2; have x2 := C4.out.2; rw [List.length_append, x2] at x1; omega
    rw [h2] at h; exact h
  have N5 := Lib.hid n5
  replace hspec : Hid (readIP l = if num a3 < 20 then (ip0, 2)
      else if l.length < num a3 then (ip0, 1)
      else if check (sub l 0 20) ≠ 0 then (ip0, 6)
      else if 32768 ≤ num a5 ∨ num a6 = 0 then (ip0, 2)
      else if num a5 % 16384 ≠ 0 then (ip0, 5)
      else (⟨num a4, num a6, num a7, num a9, num a10, r10.take (num a3 - 20)⟩, 0)) := by
    have x1 := T1.out
    have x3 := T3.out
    unfold Hid
    rw [hspec.out, if_neg (by omega), if_neg (by omega)]
  clear C1 C2 C3 C4 C5 C6 C7 C8 C9 C10 T1 T3 n5
  have hqc := hq11.cells
  clear e3w b1 b2 b3 b4 b5 b6 b7 b8 b9 n1
  by_cases t4 : num a3 < 20
  · have b4 : (20 : Int) ≤ (num a3 : Int) ↔ False := by simp; omega
    have T4 := Lib.hid t4
    clear t4
    go_wp2_with fail
    refine (must_no _ _).mono ?_
    rintro e w12 ⟨rfl, rfl⟩
    exact ⟨rfl, .inr ⟨2, ⟨2, rfl, by rw [hspec.out, if_pos T4.out]⟩, rfl⟩, F11⟩
  have b4 : (20 : Int) ≤ (num a3 : Int) := by omega
  have T4 := Lib.hid t4
  clear t4
  go_cut [] from 8 (fun wx => wx = v11)
  case first =>
    go_wp2_with fail
    refine (must_yes _ _).mono ?_
    rintro e w12 ⟨rfl, rfl⟩
    go_wp2_with fail
    go_meet
    case rel => rfl
  case rest =>
  subst hcut
  by_cases t5 : l.length < num a3
  · have b5 : (num a3 : Int) ≤ (l.length : Int) ↔ False := by simp; omega
    have T5 := Lib.hid t5
    clear t5
    go_wp2_with fail
    refine (must_no _ _).mono ?_
    rintro e w12 ⟨rfl, rfl⟩
    exact ⟨rfl, .inr ⟨1, ⟨1, rfl, by rw [hspec.out, if_neg T4.out, if_pos T5.out]⟩, rfl⟩, F11⟩
  have b5 : (num a3 : Int) ≤ (l.length : Int) := by omega
  have T5 := Lib.hid t5
  clear t5
  go_wp2_with fail
  refine (must_yes _ _).mono ?_
  rintro e w12 ⟨rfl, rfl⟩
  go_wp2_with fail
  have hs := SlR.of_bk (n := 1) (size := 1) (S := noB) (Bk.new wc 9 #[.string (bs (sub l 0 20))]) (fun x => x) rfl
  have hbC := hb11.alloc (.cells #[.string (bs (sub l 0 20))] 9)
  have hxC := hx11.alloc (.cells #[.string (bs (sub l 0 20))] 9)
  have hrC := Bk.alloc hr11' (.cells #[.string (bs (sub l 0 20))] 9)
  have FC := F11.alloc (.cells #[.string (bs (sub l 0 20))] 9)
  generalize wc.alloc (.cells #[.string (bs (sub l 0 20))] 9) = wd at *
  clear hq11 hqc hb11 hx11 hr11' F11
  refine (hashCheck_one _ 1 (sub l 0 20) _ hs (by have := sub_le l 0 20; omega)).mono ?_
  rintro e w12 ⟨rfl, rfl⟩
  have hcl := check_le (sub l 0 20)
  generalize hck : check (sub l 0 20) = ck at *
  clear hck
  by_cases t6 : ck = 0
  rotate_left
  · have b6 : ((ck : Int) == 0) = false := by simp; omega
    have T6 := Lib.hid t6
    clear t6
    go_wp2_with fail
    refine (must_no _ _).mono ?_
    rintro e w12 ⟨rfl, rfl⟩
    exact ⟨rfl, .inr ⟨6, ⟨6, rfl, by rw [hspec.out, if_neg T4.out, if_neg T5.out, if_pos T6.out]⟩, rfl⟩, FC⟩
  have b6 : ((ck : Int) == 0) = true := by simp; omega
  have T6 := Lib.hid t6
  clear t6
  go_wp2_with fail
  refine (must_yes _ _).mono ?_
  rintro e w12 ⟨rfl, rfl⟩
  have hbc := hbC.cells
  have n5 := N5.out
  have a7 := and32768 (num a5) n5
  by_cases t7 : num a5 < 32768
  rotate_left
  · have b7 : (bits .and .u16 (num a5 : Int) 32768 == 0) = false := by rw [a7]; simpa using t7
    have T7 := Lib.hid t7
    clear t7 a7 n5
    go_wp2_with fail
    refine (must_no _ _).mono ?_
    rintro e w12 ⟨rfl, rfl⟩
    exact ⟨rfl, .inr ⟨2, ⟨2, rfl, by rw [hspec.out, if_neg T4.out, if_neg T5.out, if_neg (not_not_intro T6.out), if_pos (.inl (Nat.le_of_not_lt T7.out))]⟩, rfl⟩, FC⟩
  have b7 : (bits .and .u16 (num a5 : Int) 32768 == 0) = true := by rw [a7]; simpa using t7
  clear a7
  by_cases t8 : num a6 = 0
  · have b8 : 0 < num a6 ↔ False := by simp [t8]
    have T8 := Lib.hid t8
    clear t8 t7 n5
    go_wp2_with fail
    refine (must_no _ _).mono ?_
    rintro e w12 ⟨rfl, rfl⟩
    exact ⟨rfl, .inr ⟨2, ⟨2, rfl, by rw [hspec.out, if_neg T4.out, if_neg T5.out, if_neg (not_not_intro T6.out), if_pos (.inr T8.out)]⟩, rfl⟩, FC⟩
  have b8 : 0 < num a6 := by omega
  have T78 : Hid (¬ (32768 ≤ num a5 ∨ num a6 = 0)) := by unfold Hid; omega
  clear t7 t8
  go_wp2_with fail
  refine (must_yes _ _).mono ?_
  rintro e w12 ⟨rfl, rfl⟩
  clear b7
  have a9 := and16383 (num a5) n5
  have A9 := Lib.hid a9
  clear n5 a9
  go_wp2_with fail
  refine (must_any _ _ _).mono ?_
  rintro e w12 (⟨hb9, rfl, rfl⟩ | ⟨hb9, rfl, rfl⟩)
  rotate_left
  · have T9 : num a5 % 16384 ≠ 0 := by first | (rw [A9.out] at hb9; simp at hb9; omega) | (simp at hb9; omega)
    exact ⟨rfl, .inr ⟨5, ⟨5, rfl, by rw [hspec.out, if_neg T4.out, if_neg T5.out, if_neg (not_not_intro T6.out), if_neg T78.out, if_pos T9]⟩, rfl⟩, FC⟩
  have T9 : Hid (num a5 % 16384 = 0) := by unfold Hid; first | (rw [A9.out] at hb9; simp at hb9; omega) | (simp at hb9; omega)
  clear hb9
  have n3 := N3.out
  have e20 : ((num a3 : Int) - 20) = ((num a3 - 20 : Nat) : Int) := by omega
  clear n3
  go_wp2_with fail
  refine (rTake_ok (num a3 - 20) p r10 _ hrC (by have := hlen.out; have := T5.out; omega) b10).mono ?_
  rintro e w12 ⟨rfl, hr12, hf12⟩
  have hb12 := hbC.keep hf12 (by unfold oneB; omega)
  have hx12 := hxC.keep hf12 (by unfold oneB; omega)
  have F12 := FC.trans hf12
  have hcA := hb12.cells
  have hzA := hb12.frees
  have hbB := hb12.set 5 (.string (bs (r10.take (num a3 - 20))))
  have hxB := hx12.far (p := ⟨g, 5, none⟩) (by simp; omega) (.string (bs (r10.take (num a3 - 20))))
  have FB := F12.setCell (p := ⟨g, 5, none⟩) (fun e => absurd e (by simp; omega)) (.string (bs (r10.take (num a3 - 20))))
  have HB := Lib.hid hbB
  have HC := Lib.hid hxB
  clear hbB hbC hxC FC hbc hrC hr12 hf12 F12 hx12 e20 hxB
  go_wp2_with ((refine wpList_store_bk rfl 36 (.tmp 3) (.tmp 83) rfl w.heap.size _ _ _ rfl rfl HC.out rfl (by kernel_rfl) (by kernel_rfl) ?_); intro w9 hx9 hf9)
  have hcx := hx9.cells
  refine bodyPost_ret (v := Value.agg (ipC ⟨num a4, num a6, num a7, num a9, num a10, r10.take (num a3 - 20)⟩)) (by simp [results, Tryz.results71, go_sem, hcx, ipC]) rfl ?_
  refine ⟨.inl ⟨_, ⟨_, rfl, ?_⟩, rfl⟩, FB.trans' hf9 (fun b hb e => by unfold oneB at e; omega)⟩
  rw [hspec.out, if_neg T4.out, if_neg T5.out, if_neg (not_not_intro T6.out), if_neg T78.out, if_neg (not_not_intro T9.out)]
def ipPost (l : List UInt8) (w : World) (e : Ending) (w' : World) : Prop := e = .returned (.tuple #[.agg (ipC (readIP l).1), .int .i64 ((readIP l).2 : Int)]) ∧ Fr noB w w'
theorem ipRead (l : List UInt8) (q : Nat) (w : World) (hq : Bk w q 9 #[.string (bs l)]) (hl : l.length ≤ 9223372036854775807) :
    Calls Tryz.prog 70 #[.string (bs l), .func (.func 71) #[] #[.pointer (some ⟨q, 0, none⟩)]] w (ipPost l w) := by
  refine (readIp4 l w _ (ipOk l) (ipBad l) (by rintro c ⟨x, rfl, _⟩; exact ⟨rfl, by kernel_rfl⟩) (fun p w1 hp hR hf => ipBy l hl p q w1 hR (hq.keep hf (fun x => x)) (by have := hq.lt; omega))).mono ?_
  rintro e w' ⟨⟨c, ⟨x, rfl, hx⟩, rfl⟩ | ⟨er, ⟨k, rfl, hk⟩, rfl⟩, hf⟩
  · exact ⟨by rw [hx]; rfl, hf⟩
  · exact ⟨by rw [hk]; rfl, hf⟩
end Go.Proofs.YtcbkaiakdhiloabGreatDoor
