/- Parts of the walk; written by programs, merged. -/
import Derived.Test.YtcbkaiakdhiloabGreatDoorRac
set_option linter.unusedSimpArgs false
set_option linter.unusedVariables false
set_option maxRecDepth 20000
set_option maxHeartbeats 8000000
namespace Go.Proofs.YtcbkaiakdhiloabGreatDoor
open Go.RowKit Go.Proofs
attribute [local go_sem] bs_size bs_append bs_extract
def zcUdp : Array Value := #[.int .u16 0, .int .u16 0, .string ⟨#[]⟩]
theorem catchUdp (gx ge : Nat) (er : Int) (w : World) (hx : Bk w gx 42 zcUdp) (he : Bk w ge 28 #[.int .i64 0]) (hne : gx ≠ ge) :
    CallsD Tryz.prog 113 #[.pointer (some ⟨gx, 0, none⟩), .pointer (some ⟨ge, 0, none⟩)] (.panicking (faultC er)) w fun r u' w' =>
      r = .returned (.tuple #[]) ∧ u' = .panicking [{ v := .iface 182 (.agg #[.int .i64 er]), recovered := true }] ∧ Bk w' gx 42 zcUdp ∧ Bk w' ge 28 #[.int .i64 er] ∧ Fr (twoB gx ge) w w' := by
  have hta := fault_is er
  have hbf := (Bk.new w 182 #[.int .i64 er]).alloc (.cells zcUdp 42)
  have hbz := Bk.new (w.alloc (.cells #[.int .i64 er] 182)) 42 zcUdp
  rw [show (w.alloc (.cells #[.int .i64 er] 182)).heap.size = w.heap.size + 1 by simp] at hbz
  have hx2 := (hx.alloc (.cells #[.int .i64 er] 182)).alloc (.cells zcUdp 42)
  have he2 := (he.alloc (.cells #[.int .i64 er] 182)).alloc (.cells zcUdp 42)
  have hf2 : Fr (twoB gx ge) w ((w.alloc (.cells #[.int .i64 er] 182)).alloc (.cells zcUdp 42)) := ((Fr.refl _ _).alloc _).alloc _
  have hgx := hx.lt
  have hge := he.lt
  refine callsD_of_wpS Tryz.func113 rfl fun c₀ cs hu => ?_
  apply wpS_seq
  apply wpS_region
  simp [wpOpsS, go_sem, recoverD, hu, Tryz.ntmps113, Exit.thenS, faultC]
  refine wpS_of_wp ?_
  simp only [Array.replicate_succ, Array.replicate_zero, List.push_toArray, List.append_toArray, List.nil_append, List.cons_append, List.setIfInBounds_toArray, List.set_cons_zero, List.set_cons_succ]
  go_wp2_with fail
  unfold zcUdp at hbf hbz hx2 he2 hf2
  generalize (w.alloc (.cells #[.int .i64 er] 182)).alloc (.cells #[.int .u16 0, .int .u16 0, .string ⟨#[]⟩] 42) = w2 at *
  refine wp_region_ssa (by kernel_rfl) (by kernel_rfl) (by kernel_rfl)
    (fun u => ⟨#[.pointer (some ⟨gx, 0, none⟩), .pointer (some ⟨ge, 0, none⟩), undef, .pointer (some ⟨w.heap.size, 0, none⟩), .pointer (some ⟨w.heap.size + 1, 0, none⟩), undef,
      .iface 182 (.agg #[.int .i64 er]), undef, .bool false, .tuple #[.agg #[.int .i64 er], .bool true], .bool true, .agg #[.int .i64 er], u 0, u 1, u 2], []⟩)
    (fun j v _ => match j with | 0 => v = .agg zcUdp | 1 => v = .pointer (some ⟨w.heap.size, 0, none⟩) | 2 => v = .int .i64 er | _ => True)
    (fun L w3 => Bk w3 w.heap.size 182 #[.int .i64 er] ∧ Bk w3 (w.heap.size + 1) 42 zcUdp ∧ Bk w3 gx 42 zcUdp ∧ Bk w3 ge 28 #[if L 4 then .int .i64 er else .int .i64 0] ∧ Fr (twoB gx ge) w w3) (fun _ => undef) ⟨hbf.drew, hbz.drew, hx2.drew, he2.drew, hf2.drew⟩ ?_ ?_
  · rintro L u w3 i o ⟨g1, g2, g3, g4, g5⟩ hΦ ho hL hd K hK
    match i, ho with
    | 0, ho =>
      simp at ho; subst ho
      refine wp_load_row 42 (.tmp 4) rfl (w.heap.size + 1) rfl _ _ _ _ g2 Tryz.underlying42 rfl (by kernel_rfl) ?_
      exact hK _ _ rfl ⟨g1, g2, g3, g4, g5⟩ (fun _ _ _ h => h)
    | 1, ho =>
      simp at ho; subst ho
      clear hΦ hd
      go_simp
      exact hK _ _ rfl ⟨g1, g2, g3, g4, g5⟩ (fun _ _ _ h => h)
    | 2, ho =>
      simp at ho; subst ho
      have hu1 := hΦ 1 (hd ⟨1, .data⟩ (by simp) (by rfl))
      simp only at hu1
      have hc := g1.cells
      clear hΦ hd
      go_simp
      have hk := hK _ w3 rfl ⟨g1, g2, g3, g4, g5⟩ (fun _ _ _ h => h)
      simp only [upd, hu1] at hk
      exact hk
    | 3, ho =>
      simp at ho; subst ho
      have hu0 := hΦ 0 (hd ⟨0, .data⟩ (by simp) (by rfl))
      refine wp_store_bk 42 (.tmp 0) (.tmp 12) rfl gx _ _ _ rfl hu0 g3 rfl (by kernel_rfl) (by kernel_rfl) ?_
      intro w4 b4 f4
      refine hK undef _ trivial ⟨g1.keep f4 ?_, g2.keep f4 ?_, b4, g4.keep f4 ?_, g5.trans' f4 ?_⟩ (fun _ _ _ h => h)
      · unfold oneB; omega
      · unfold oneB; omega
      · unfold oneB; omega
      · intro b _ e; exact .inl e
    | 4, ho =>
      simp at ho; subst ho
      have hu2 := hΦ 2 (hd ⟨2, .data⟩ (by simp) (by rfl))
      simp only [hL] at g4 hu2
      have hc := g4.cells
      have hz := g4.frees
      clear hΦ hd
      go_simp
      have h4 : Bk (w3.setCell ⟨ge, 0, none⟩ (.int .i64 er)) ge 28 #[.int .i64 er] := by simpa using g4.set 0 (.int .i64 er)
      have hk := hK undef (w3.setCell ⟨ge, 0, none⟩ (.int .i64 er)) trivial ⟨g1.far (by simp; omega) _, g2.far (by simp; omega) _, g3.far (by simpa using hne) _, h4, g5.setCell (p := ⟨ge, 0, none⟩) (fun _ => .inr rfl) _⟩ (fun _ _ _ h => h)
      simp only [upd, hu2] at hk
      exact hk
  · rintro u w3 hΦ L hall ⟨g1, g2, g3, g4, g5⟩
    rw [hall 4 (by simp)] at g4
    exact ⟨rfl, _, rfl, .tuple #[], by simp [results, Tryz.results113], rfl, rfl, g3, by simpa using g4, g5⟩
theorem idleUdp (gx ge : Nat) (w : World) :
    CallsD Tryz.prog 113 #[.pointer (some ⟨gx, 0, none⟩), .pointer (some ⟨ge, 0, none⟩)] .returning w fun r u' w' =>
      r = .returned (.tuple #[]) ∧ u' = .returning ∧ w' = w := by
  refine callsD_of_wpS Tryz.func113 rfl fun c₀ cs hu => ?_
  apply wpS_seq
  apply wpS_region
  simp [wpOpsS, go_sem, recoverD, hu, Tryz.ntmps113, Exit.thenS]
  refine wpS_of_wp ?_
  simp only [Array.replicate_succ, Array.replicate_zero, List.push_toArray, List.append_toArray, List.nil_append, List.cons_append, List.setIfInBounds_toArray, List.set_cons_zero, List.set_cons_succ]
  go_wp2_with fail
  simp [Exit.inBlock, bodyPostS, results, Tryz.results113]
  cases c₀
  simp at hu
  simp [hu]
theorem readUdp (l : List UInt8) (w : World) (q0 q1 q2 : Value) (ok : Array Value → Prop) (bad : Int → Prop) (hok : ∀ c, ok c → c.size = zcUdp.size ∧ c.all (·.oneCell') = true)
    (hby : ∀ (p : Nat) (w1 : World), w.heap.size ≤ p → Rd w1 p l → Fr noB w w1 → Calls Tryz.prog 78 #[.pointer (some ⟨p, 0, none⟩), q0, q1, q2] w1 (byPost ok bad p w1)) :
    Calls Tryz.prog 77 #[.string (bs l), .func (.func 78) #[] #[q0, q1, q2]] w (readPost zcUdp ok bad w) := by
  have hmf : ∀ (fn : Fn) (first cap : Array Value) (w : World), (Instr.makeFunc fn first cap).run Tryz.prog w = .ok (.func fn first cap) w := fun _ _ _ _ => rfl
  go_enter_defers Tryz.func77, Tryz.ntmps77
  have Hby := Lib.hid hby
  have Hok := Lib.hid hok
  clear hby hok
  go_wp2_with fail
  have hx0 := ((Bk.new w 42 zcUdp).alloc (.cells #[.int .i64 0] 28)).alloc (.cells #[.string (bs l)] 184)
  have he0 := (Bk.new (w.alloc (.cells zcUdp 42)) 28 #[.int .i64 0]).alloc (.cells #[.string (bs l)] 184)
  have hr0 := Bk.new ((w.alloc (.cells zcUdp 42)).alloc (.cells #[.int .i64 0] 28)) 184 #[.string (bs l)]
  rw [show ((w.alloc (.cells zcUdp 42)).alloc (.cells #[.int .i64 0] 28)).heap.size = w.heap.size + 1 + 1 by simp] at hr0
  rw [show (w.alloc (.cells zcUdp 42)).heap.size = w.heap.size + 1 by simp] at he0
  have hf0 : Fr noB w (((w.alloc (.cells zcUdp 42)).alloc (.cells #[.int .i64 0] 28)).alloc (.cells #[.string (bs l)] 184)) := (((Fr.refl _ _).alloc _).alloc _).alloc _
  unfold zcUdp at hx0 he0 hr0 hf0
  generalize ((w.alloc (.cells #[.int .u16 0, .int .u16 0, .string ⟨#[]⟩] 42)).alloc (.cells #[.int .i64 0] 28)).alloc (.cells #[.string (bs l)] 184) = w1 at *
  refine (Hby.out _ w1 (by omega) hr0 hf0).mono ?_
  rintro e w2 ⟨⟨x, hx, rfl⟩ | ⟨er, hbad, rfl⟩, hf1⟩
  · have hx1 := hx0.keep hf1 (by unfold oneB; omega)
    have he1 := he0.keep hf1 (by unfold oneB; omega)
    obtain ⟨hsx, hox⟩ := Hok.out x hx
    have Hsx := Lib.hid hsx
    have Hox := Lib.hid hox
    have hix : (Tryz.prog.info? 42).map (·.size) = some x.size := by rw [hsx]; kernel_rfl
    have Hix := Lib.hid hix
    clear hsx hox hix
    go_wp2_with ((refine wpList_store_bk rfl 42 (.tmp 4) (.tmp 11) rfl w.heap.size _ _ x rfl rfl hx1 Hsx.out Hix.out Hox.out ?_); intro w3 hx3 hf3; have he3 := he1.keep hf3 (by unfold oneB; omega); have hc3 := he3.cells; have hz3 := he3.frees)
    have hb3 : Bk (w3.setCell ⟨w.heap.size + 1, 0, none⟩ (.int .i64 0)) (w.heap.size + 1) 28 #[.int .i64 0] := by simpa using he3.set 0 (.int .i64 0)
    have hx4 := hx3.far (p := ⟨w.heap.size + 1, 0, none⟩) (by simp) (.int .i64 0)
    have hfin : Fr noB w (w3.setCell ⟨w.heap.size + 1, 0, none⟩ (.int .i64 0)) := by
      refine (((hf0.trans' hf1 ?_).trans' hf3 ?_).setCell ?_ _)
      · intro b hb e; unfold oneB at e; omega
      · intro b hb e; unfold oneB at e; omega
      · intro e; exact absurd e (by simp)
    generalize w3.setCell ⟨w.heap.size + 1, 0, none⟩ (.int .i64 0) = w4 at *
    refine leaves_cons (f := 113) (args := #[.pointer (some ⟨w.heap.size, 0, none⟩), .pointer (some ⟨w.heap.size + 1, 0, none⟩)]) (by simp) (by simp [go_sem]) ?_
    refine (idleUdp _ _ _).mono ?_
    rintro e u' w5 ⟨rfl, rfl, rfl⟩
    refine ⟨.tuple #[.agg x, .int .i64 0], ?_, ⟨.inl ⟨_, hx, rfl⟩, hfin⟩⟩
    exact results_row_int Tryz.results77 _ w5 w.heap.size (w.heap.size + 1) _ _ x 0 _ _ rfl rfl hx4 hb3 Tryz.underlying42 rfl Hix.out Tryz.underlying28
  · have hx1 := hx0.keep hf1 (by unfold oneB; omega)
    have he1 := he0.keep hf1 (by unfold oneB; omega)
    have hfin : Fr noB w w2 := hf0.trans' hf1 (fun b hb e => by unfold oneB at e; omega)
    refine leaves_cons (f := 113) (args := #[.pointer (some ⟨w.heap.size, 0, none⟩), .pointer (some ⟨w.heap.size + 1, 0, none⟩)]) (by simp) (by simp [go_sem]) ?_
    refine (catchUdp w.heap.size (w.heap.size + 1) er w2 hx1 he1 (by omega)).mono ?_
    rintro e u' w5 ⟨rfl, rfl, hx5, he5, hf5⟩
    refine ⟨.tuple #[.agg zcUdp, .int .i64 er], ?_, ⟨.inr ⟨er, hbad, rfl⟩, hfin.trans' hf5 ?_⟩⟩
    · exact results_row_int Tryz.results77 _ w5 w.heap.size (w.heap.size + 1) _ _ _ er _ _ rfl rfl hx5 he5 Tryz.underlying42 rfl (by kernel_rfl) Tryz.underlying28
    · intro b hb e; unfold twoB at e; omega
end Go.Proofs.YtcbkaiakdhiloabGreatDoor
namespace Go.Proofs.YtcbkaiakdhiloabGreatDoor
open Go.RowKit Go.Proofs
attribute [local go_sem] bs_size bs_append bs_sub bs_toList
structure UdpD where
  fm : Nat
  tp : Nat
  ld : List UInt8
def udp0 : UdpD := ⟨0, 0, []⟩
def udpC (a : UdpD) : Array Value := #[.int .u16 (a.fm : Int), .int .u16 (a.tp : Int), .string (bs a.ld)]
def readUDP (l : List UInt8) (fi ti : Nat) : UdpD × Nat :=
  if l.length < 8 then (udp0, 1)
  else if num (sub l 4 6) < 8 then (udp0, 2)
  else if l.length < num (sub l 4 6) then (udp0, 1)
  else if num (sub l 6 8) ≠ 0 ∧ check (besideB fi ti (num (sub l 4 6)) ++ sub l 0 (num (sub l 4 6))) ≠ 0 then (udp0, 6)
  else (⟨num (sub l 0 2), num (sub l 2 4), sub l 8 (num (sub l 4 6))⟩, 0)
theorem readUDP_short (l : List UInt8) (fi ti : Nat) (h : l.length < 8) : readUDP l fi ti = (udp0, 1) := by unfold readUDP; rw [if_pos h]
theorem readUDP_of (l a1 a2 a3 a4 r : List UInt8) (fi ti : Nat) (e : l = (((a1 ++ a2) ++ a3) ++ a4) ++ r) (l1 : a1.length = 2) (l2 : a2.length = 2) (l3 : a3.length = 2) (l4 : a4.length = 2) :
    readUDP l fi ti = if num a3 < 8 then (udp0, 2)
  else if l.length < num a3 then (udp0, 1)
  else if num a4 ≠ 0 ∧ check (besideB fi ti (num a3) ++ sub l 0 (num a3)) ≠ 0 then (udp0, 6)
  else (⟨num a1, num a2, r.take (num a3 - 8)⟩, 0) := by
  have h8 : ¬ l.length < 8 := by rw [e]; simp [l1, l2, l3, l4]; omega
  match a1, l1 with
  | [x0, x1], _ => match a2, l2 with
   | [x2, x3], _ => match a3, l3 with
    | [x4, x5], _ => match a4, l4 with
     | [x6, x7], _ =>
       unfold readUDP
       rw [if_neg h8]
       have d1 : sub l 0 2 = [x0, x1] := by subst e; rfl
       have d2 : sub l 2 4 = [x2, x3] := by subst e; rfl
       have d3 : sub l 4 6 = [x4, x5] := by subst e; rfl
       have d4 : sub l 6 8 = [x6, x7] := by subst e; rfl
       have d5 : sub l 8 (num [x4, x5]) = r.take (num [x4, x5] - 8) := by
         have hd : l.drop 8 = r := by subst e; rfl
         rw [← hd, sub, List.drop_take]
       rw [d1, d2, d3, d4, d5]
def udpOk (l : List UInt8) (fi ti : Nat) (c : Array Value) : Prop := ∃ x, c = udpC x ∧ readUDP l fi ti = (x, 0)
def udpBad (l : List UInt8) (fi ti : Nat) (er : Int) : Prop := ∃ k : Nat, er = k ∧ readUDP l fi ti = (udp0, k)
theorem udpBy (l : List UInt8) (fi ti : Nat) (hfi : fi < 4294967296) (hti : ti < 4294967296) (hl : l.length ≤ 9223372036854775807) (p q qi qt : Nat) (w : World) (hR : Rd w p l)
    (hq : Bk w q 9 #[.string (bs l)]) (hqi : Bk w qi 34 #[.int .u32 (fi : Int)]) (hqt : Bk w qt 34 #[.int .u32 (ti : Int)]) (n1 : q ≠ p) (n2 : qi ≠ p) (n3' : qt ≠ p) :
    Calls Tryz.prog 78 #[.pointer (some ⟨p, 0, none⟩), .pointer (some ⟨q, 0, none⟩), .pointer (some ⟨qi, 0, none⟩), .pointer (some ⟨qt, 0, none⟩)] w (byPost (udpOk l fi ti) (udpBad l fi ti) p w) := by
  have hp := Bk.lt hR
  have hql := hq.lt
  have hqil := hqi.lt
  have hqtl := hqt.lt
  go_enter Tryz.func78, Tryz.ntmps78
  have hr0 := Bk.alloc hR (.cells zcUdp 42)
  have hx0 := Bk.new w 42 zcUdp
  have hs0 := hq.alloc (.cells zcUdp 42)
  have hi0 := hqi.alloc (.cells zcUdp 42)
  have ht0 := hqt.alloc (.cells zcUdp 42)
  have hf0 : Fr (oneB p) w (w.alloc (.cells zcUdp 42)) := (Fr.refl _ _).alloc _
  unfold zcUdp at hr0 hx0 hs0 hi0 ht0 hf0
  have hbad : ∀ w', l.length < 8 → Fr (oneB p) w w' → byPost (udpOk l fi ti) (udpBad l fi ti) p w (.panicked (faultC 1)) w' :=
    fun w' h hf => ⟨.inr ⟨1, ⟨1, rfl, readUDP_short l fi ti h⟩, rfl⟩, hf⟩
  have Hbad := Lib.hid hbad
  clear hbad
  go_wp2_with fail
  generalize w.alloc (.cells #[.int .u16 0, .int .u16 0, .string ⟨#[]⟩] 42) = w1 at *
  refine (tU16 p l _ hr0 hl).mono ?_
  rintro e w2 (⟨a1, r1, c1, b1, rfl, hr1, hf1⟩ | ⟨hlt, rfl, hf1⟩)
  rotate_left
  · exact ⟨rfl, Hbad.out _ (by omega) (hf0.trans hf1)⟩
  have g1 := hf1
  have C1 : Hid (Cut l a1 r1 2) := c1
  clear c1 hf1 hr0
  go_wp2_with fail
  refine (tU16 p r1 _ hr1 b1).mono ?_
  rintro e w3 (⟨a2, r2, c2, b2, rfl, hr2, hf2⟩ | ⟨hlt, rfl, hf2⟩)
  rotate_left
  · exact ⟨rfl, Hbad.out _ (by have x1 := C1.out; have x2 := congrArg List.length x1.1; rw [List.length_append, x1.2] at x2; omega) (hf0.trans (g1.trans hf2))⟩
  have g2 := g1.trans hf2
  have C2 : Hid (Cut l (a1 ++ a2) r2 4) := by
    refine ⟨?_, ?_⟩
    · rw [C1.out.1, c2.1]; simp
    · rw [List.length_append, C1.out.2, c2.2]
  clear g1
  clear c2 hf2 hr1
  have F2 := (hf0.trans g2).alloc (.cells #[.int .u16 (num a1 : Int), .int .u16 (num a2 : Int), .string ⟨#[]⟩] 42)
  have hx2 := (hx0.keep g2 (by unfold oneB; omega)).alloc (.cells #[.int .u16 (num a1 : Int), .int .u16 (num a2 : Int), .string ⟨#[]⟩] 42)
  have hs2 := (hs0.keep g2 (by unfold oneB; omega)).alloc (.cells #[.int .u16 (num a1 : Int), .int .u16 (num a2 : Int), .string ⟨#[]⟩] 42)
  have hi2 := (hi0.keep g2 (by unfold oneB; omega)).alloc (.cells #[.int .u16 (num a1 : Int), .int .u16 (num a2 : Int), .string ⟨#[]⟩] 42)
  have ht2 := (ht0.keep g2 (by unfold oneB; omega)).alloc (.cells #[.int .u16 (num a1 : Int), .int .u16 (num a2 : Int), .string ⟨#[]⟩] 42)
  have hr2' := Bk.alloc hr2 (.cells #[.int .u16 (num a1 : Int), .int .u16 (num a2 : Int), .string ⟨#[]⟩] 42)
  have hb2 := Bk.new w3 42 #[.int .u16 (num a1 : Int), .int .u16 (num a2 : Int), .string ⟨#[]⟩]
  have hp2 : p < w3.heap.size := Bk.lt hr2
  have hx2l : w.heap.size < w3.heap.size := (hx0.keep g2 (by unfold oneB; omega)).lt
  clear hx0 hs0 hi0 ht0 g2 hr2
  go_wp2_with fail
  generalize w3.alloc (.cells #[.int .u16 (num a1 : Int), .int .u16 (num a2 : Int), .string ⟨#[]⟩] 42) = v3 at *
  generalize w3.heap.size = g at *
  refine (tU16 p r2 _ hr2' b2).mono ?_
  rintro e w4 (⟨a3, r3, c3, b3, rfl, hr3, hf3⟩ | ⟨hlt, rfl, hf3⟩)
  rotate_left
  · exact ⟨rfl, Hbad.out _ (by have x1 := C2.out; have x2 := congrArg List.length x1.1; rw [List.length_append, x1.2] at x2; omega) (F2.trans hf3)⟩
  have g3 := hf3
  have C3 : Hid (Cut l (a1 ++ a2 ++ a3) r3 6) := by
    refine ⟨?_, ?_⟩
    · rw [C2.out.1, c3.1]; simp
    · rw [List.length_append, C2.out.2, c3.2]
  clear c3 hf3 hr2'
  go_wp2_with fail
  refine (tU16 p r3 _ hr3 b3).mono ?_
  rintro e w5 (⟨a4, r4, c4, b4, rfl, hr4, hf4⟩ | ⟨hlt, rfl, hf4⟩)
  rotate_left
  · exact ⟨rfl, Hbad.out _ (by have x1 := C3.out; have x2 := congrArg List.length x1.1; rw [List.length_append, x1.2] at x2; omega) (F2.trans (g3.trans hf4))⟩
  have g4 := g3.trans hf4
  have C4 : Hid (Cut l ((a1 ++ a2 ++ a3) ++ a4) r4 8) := by
    refine ⟨?_, ?_⟩
    · rw [C3.out.1, c4.1]; simp
    · rw [List.length_append, C3.out.2, c4.2]
  clear g3
  clear c4 hf4 hr3
  have hspec : Hid (readUDP l fi ti = if num a3 < 8 then (udp0, 2)
      else if l.length < num a3 then (udp0, 1)
      else if num a4 ≠ 0 ∧ check (besideB fi ti (num a3) ++ sub l 0 (num a3)) ≠ 0 then (udp0, 6)
      else (⟨num a1, num a2, r4.take (num a3 - 8)⟩, 0)) := by
    have x1 := C1.out.2
    have x2 := C2.out.2
    have x3 := C3.out.2
    have x4 := C4.out.2
    simp only [List.length_append] at x2 x3 x4
    exact readUDP_of l a1 a2 a3 a4 r4 fi ti C4.out.1 x1 (by omega) (by omega) (by omega)
  have hlen : Hid (l.length = 8 + r4.length) := by
    have x1 := C4.out
    have x2 := congrArg List.length x1.1
    rw [List.length_append, x1.2] at x2; exact x2
  have n3 : num a3 < 65536 := by
    have h := num_le a3
    have h2 : a3.length = 2 := by have x1 := C3.out.2; have x2 := C2.out.2; rw [List.length_append, x2] at x1; omega
    rw [h2] at h; exact h
  have e3w : wrap64 (num a3 : Int) = num a3 := wr64 (by omega) (by omega)
  have N3 := Lib.hid n3
  have hxA := hx2.keep g4 (by unfold oneB; omega)
  have hsA := hs2.keep g4 (by unfold oneB; omega)
  have hiA := hi2.keep g4 (by unfold oneB; omega)
  have htA := ht2.keep g4 (by unfold oneB; omega)
  have hbA := hb2.keep g4 (by unfold oneB; omega)
  have FA := F2.trans g4
  have hsc := hsA.cells
  clear hx2 hs2 hi2 ht2 hb2 F2 g4 C1 C2 C3 C4 n3 b1 b2 b3
  go_wp2_with fail
  refine (must_any _ _ _).mono ?_
  rintro e w12 (⟨hb8, rfl, rfl⟩ | ⟨hb8, rfl, rfl⟩)
  rotate_left
  · have T := show num a3 < 8 by simp at hb8; omega
    exact ⟨rfl, .inr ⟨2, ⟨2, rfl, by rw [hspec.out, if_pos T]⟩, rfl⟩, FA⟩
  have T4 : Hid (¬ num a3 < 8) := by unfold Hid; simp at hb8; omega
  clear hb8
  go_upto_region 5 with fail
  by_cases t5 : l.length < num a3
  · have b5 : (num a3 : Int) ≤ (l.length : Int) ↔ False := by simp; omega
    have T5 := Lib.hid t5
    clear t5
    go_wp2_with fail
    refine (must_no _ _).mono ?_
    rintro e w13 ⟨rfl, rfl⟩
    exact ⟨rfl, .inr ⟨1, ⟨1, rfl, by rw [hspec.out, if_neg T4.out, if_pos T5.out]⟩, rfl⟩, FA⟩
  have b5 : (num a3 : Int) ≤ (l.length : Int) := by omega
  have T5 := Lib.hid t5
  clear t5
  go_cut [] from 9 to 26 (fun wx => wx = w5)
  case first =>
    go_wp2_with fail
    refine (must_yes _ _).mono ?_
    rintro e w13 ⟨rfl, rfl⟩
    go_wp2_with fail
    go_meet
    case rel => rfl
  case rest =>
  subst hcut
  clear e3w hsc
  go_upto_region 6 with fail
  go_cut [] from 9 to 41 (fun wx => (num a4 = 0 ∨ check (besideB fi ti (num a3) ++ sub l 0 (num a3)) = 0) ∧ Fr noB wc wx)
  case first =>
    have hf0 : Fr noB wc wc := Fr.refl _ _
    have b0 : (0 : Int) ≤ (num a3 : Int) := by omega
    have n3 := N3.out
    have T40 := T4.out
    by_cases h0 : num a4 = 0
    · have B28 : ((num a4 : Int) == 0) = true := by simp; omega
      have H0 := Lib.hid h0
      clear h0
      obtain ⟨V, hV⟩ : ∃ V : Nat → Value, V = (fun j => match j with | 0 => .int .u16 (num a4 : Int) | 1 => .bool true | 2 => .bool true | 3 => undef | 4 => undef | 5 => undef | 6 => undef | 7 => undef | 8 => undef | 9 => undef | 10 => undef | 11 => undef | 12 => undef | 13 => .bool true | 14 => .tuple #[] | _ => undef) := ⟨_, rfl⟩
      have v0 : V 0 = .int .u16 (num a4 : Int) := congrFun hV 0
      have v1 : V 1 = .bool true := congrFun hV 1
      have v2 : V 2 = .bool true := congrFun hV 2
      have v3 : V 3 = undef := congrFun hV 3
      have v4 : V 4 = undef := congrFun hV 4
      have v5 : V 5 = undef := congrFun hV 5
      have v6 : V 6 = undef := congrFun hV 6
      have v7 : V 7 = undef := congrFun hV 7
      have v8 : V 8 = undef := congrFun hV 8
      have v9 : V 9 = undef := congrFun hV 9
      have v10 : V 10 = undef := congrFun hV 10
      have v11 : V 11 = undef := congrFun hV 11
      have v12 : V 12 = undef := congrFun hV 12
      have v13 : V 13 = .bool true := congrFun hV 13
      have v14 : V 14 = .tuple #[] := congrFun hV 14
      clear hV
      refine wp_region_ssag (by kernel_rfl) (by kernel_rfl)
        (fun u => ⟨#[.pointer (some ⟨p, 0, none⟩), .pointer (some ⟨q, 0, none⟩), .pointer (some ⟨qi, 0, none⟩), .pointer (some ⟨qt, 0, none⟩), undef, .pointer (some ⟨w.heap.size, 0, none⟩), .pointer (some ⟨g, 0, none⟩), .int .i64 (num a3 : Int), .int .u16 (num a4 : Int), u9, u10, u11, u12, u13, u14, u15, u16, u17, u18, u19, u20, u21, u22, u23, u24, u25, u26, u 0, u 1, u 2, u 3, u 4, u 5, u 6, u 7, u 8, u 9, u 10, u 11, u 12, u 13, u 14, undef, undef, undef, undef, undef, undef], []⟩)
        (fun j v w3 => v = V j)
        (fun L u w3 => Fr noB wc w3) (fun j => undef) ((Fr.refl _ _).drew) ?_ ?_
      · rintro L u w3 i o hG hΦ ho hL hd K hK
        match i, ho with
        | 0, ho =>
          simp at ho; subst ho
          clear hΦ hd
          refine .inl ⟨rfl, ?_⟩
          go_simp
          exact hK _ _ v0.symm hG (fun _ _ _ h => h)
        | 1, ho =>
          simp at ho; subst ho
          have hu0 : u 0 = V 0 := hΦ 0 (hd ⟨0, .data⟩ (by simp) (by rfl))
          rw [v0] at hu0
          clear hΦ hd
          have hx : ∃ x, u = (upd x 0 (.int .u16 (num a4 : Int))) := ⟨u, by rw [← upd_self hu0]⟩
          clear hu0
          obtain ⟨x, rfl⟩ := hx
          simp only [upd, reduceIte, Nat.reduceEqDiff]
          refine .inl ⟨rfl, ?_⟩
          go_simp
          exact hK _ _ v1.symm hG (fun _ _ _ h => h)
        | 2, ho =>
          simp at ho; subst ho
          have hu1 : u 1 = V 1 := hΦ 1 (hd ⟨1, .data⟩ (by simp) (by rfl))
          rw [v1] at hu1
          clear hΦ hd
          have hx : ∃ x, u = (upd x 1 (.bool true)) := ⟨u, by rw [← upd_self hu1]⟩
          clear hu1
          obtain ⟨x, rfl⟩ := hx
          simp only [upd, reduceIte, Nat.reduceEqDiff]
          refine .inl ⟨rfl, ?_⟩
          go_simp
          exact hK _ _ v2.symm hG (fun _ _ _ h => h)
        | 3, ho =>
          simp at ho; subst ho
          have hu2 : u 2 = V 2 := hΦ 2 (hd ⟨2, .guard⟩ (by simp) (by rfl))
          rw [v2] at hu2
          clear hΦ hd
          have hx : ∃ x, u = (upd x 2 (.bool true)) := ⟨u, by rw [← upd_self hu2]⟩
          clear hu2
          obtain ⟨x, rfl⟩ := hx
          simp only [upd, reduceIte, Nat.reduceEqDiff]
          exact .inr ⟨rfl, hK undef _ v3.symm hG (fun _ _ _ h => h)⟩
        | 4, ho =>
          simp at ho; subst ho
          have hu2 : u 2 = V 2 := hΦ 2 (hd ⟨2, .guard⟩ (by simp) (by rfl))
          rw [v2] at hu2
          clear hΦ hd
          have hx : ∃ x, u = (upd x 2 (.bool true)) := ⟨u, by rw [← upd_self hu2]⟩
          clear hu2
          obtain ⟨x, rfl⟩ := hx
          simp only [upd, reduceIte, Nat.reduceEqDiff]
          exact .inr ⟨rfl, hK undef _ v4.symm hG (fun _ _ _ h => h)⟩
        | 5, ho =>
          simp at ho; subst ho
          have hu2 : u 2 = V 2 := hΦ 2 (hd ⟨2, .guard⟩ (by simp) (by rfl))
          rw [v2] at hu2
          clear hΦ hd
          have hx : ∃ x, u = (upd x 2 (.bool true)) := ⟨u, by rw [← upd_self hu2]⟩
          clear hu2
          obtain ⟨x, rfl⟩ := hx
          simp only [upd, reduceIte, Nat.reduceEqDiff]
          exact .inr ⟨rfl, hK undef _ v5.symm hG (fun _ _ _ h => h)⟩
        | 6, ho =>
          simp at ho; subst ho
          have hu3 : u 3 = V 3 := hΦ 3 (hd ⟨3, .data⟩ (by simp) (by rfl))
          rw [v3] at hu3
          have hu4 : u 4 = V 4 := hΦ 4 (hd ⟨4, .data⟩ (by simp) (by rfl))
          rw [v4] at hu4
          have hu5 : u 5 = V 5 := hΦ 5 (hd ⟨5, .data⟩ (by simp) (by rfl))
          rw [v5] at hu5
          have hu2 : u 2 = V 2 := hΦ 2 (hd ⟨2, .guard⟩ (by simp) (by rfl))
          rw [v2] at hu2
          clear hΦ hd
          have hx : ∃ x, u = (upd (upd (upd (upd x 3 (undef)) 4 (undef)) 5 (undef)) 2 (.bool true)) := ⟨u, by rw [← upd_self hu3, ← upd_self hu4, ← upd_self hu5, ← upd_self hu2]⟩
          clear hu3 hu4 hu5 hu2
          obtain ⟨x, rfl⟩ := hx
          simp only [upd, reduceIte, Nat.reduceEqDiff]
          exact .inr ⟨rfl, hK undef _ v6.symm hG (fun _ _ _ h => h)⟩
        | 7, ho =>
          simp at ho; subst ho
          have hu2 : u 2 = V 2 := hΦ 2 (hd ⟨2, .guard⟩ (by simp) (by rfl))
          rw [v2] at hu2
          clear hΦ hd
          have hx : ∃ x, u = (upd x 2 (.bool true)) := ⟨u, by rw [← upd_self hu2]⟩
          clear hu2
          obtain ⟨x, rfl⟩ := hx
          simp only [upd, reduceIte, Nat.reduceEqDiff]
          exact .inr ⟨rfl, hK undef _ v7.symm hG (fun _ _ _ h => h)⟩
        | 8, ho =>
          simp at ho; subst ho
          have hu2 : u 2 = V 2 := hΦ 2 (hd ⟨2, .guard⟩ (by simp) (by rfl))
          rw [v2] at hu2
          clear hΦ hd
          have hx : ∃ x, u = (upd x 2 (.bool true)) := ⟨u, by rw [← upd_self hu2]⟩
          clear hu2
          obtain ⟨x, rfl⟩ := hx
          simp only [upd, reduceIte, Nat.reduceEqDiff]
          exact .inr ⟨rfl, hK undef _ v8.symm hG (fun _ _ _ h => h)⟩
        | 9, ho =>
          simp at ho; subst ho
          have hu7 : u 7 = V 7 := hΦ 7 (hd ⟨7, .data⟩ (by simp) (by rfl))
          rw [v7] at hu7
          have hu8 : u 8 = V 8 := hΦ 8 (hd ⟨8, .data⟩ (by simp) (by rfl))
          rw [v8] at hu8
          have hu2 : u 2 = V 2 := hΦ 2 (hd ⟨2, .guard⟩ (by simp) (by rfl))
          rw [v2] at hu2
          clear hΦ hd
          have hx : ∃ x, u = (upd (upd (upd x 7 (undef)) 8 (undef)) 2 (.bool true)) := ⟨u, by rw [← upd_self hu7, ← upd_self hu8, ← upd_self hu2]⟩
          clear hu7 hu8 hu2
          obtain ⟨x, rfl⟩ := hx
          simp only [upd, reduceIte, Nat.reduceEqDiff]
          exact .inr ⟨rfl, hK undef _ v9.symm hG (fun _ _ _ h => h)⟩
        | 10, ho =>
          simp at ho; subst ho
          have hu6 : u 6 = V 6 := hΦ 6 (hd ⟨6, .data⟩ (by simp) (by rfl))
          rw [v6] at hu6
          have hu9 : u 9 = V 9 := hΦ 9 (hd ⟨9, .data⟩ (by simp) (by rfl))
          rw [v9] at hu9
          have hu2 : u 2 = V 2 := hΦ 2 (hd ⟨2, .guard⟩ (by simp) (by rfl))
          rw [v2] at hu2
          clear hΦ hd
          have hx : ∃ x, u = (upd (upd (upd x 6 (undef)) 9 (undef)) 2 (.bool true)) := ⟨u, by rw [← upd_self hu6, ← upd_self hu9, ← upd_self hu2]⟩
          clear hu6 hu9 hu2
          obtain ⟨x, rfl⟩ := hx
          simp only [upd, reduceIte, Nat.reduceEqDiff]
          exact .inr ⟨rfl, hK undef _ v10.symm hG (fun _ _ _ h => h)⟩
        | 11, ho =>
          simp at ho; subst ho
          have hu10 : u 10 = V 10 := hΦ 10 (hd ⟨10, .data⟩ (by simp) (by rfl))
          rw [v10] at hu10
          have hu2 : u 2 = V 2 := hΦ 2 (hd ⟨2, .guard⟩ (by simp) (by rfl))
          rw [v2] at hu2
          clear hΦ hd
          have hx : ∃ x, u = (upd (upd x 10 (undef)) 2 (.bool true)) := ⟨u, by rw [← upd_self hu10, ← upd_self hu2]⟩
          clear hu10 hu2
          obtain ⟨x, rfl⟩ := hx
          simp only [upd, reduceIte, Nat.reduceEqDiff]
          exact .inr ⟨rfl, hK undef _ v11.symm hG (fun _ _ _ h => h)⟩
        | 12, ho =>
          simp at ho; subst ho
          have hu11 : u 11 = V 11 := hΦ 11 (hd ⟨11, .data⟩ (by simp) (by rfl))
          rw [v11] at hu11
          have hu2 : u 2 = V 2 := hΦ 2 (hd ⟨2, .guard⟩ (by simp) (by rfl))
          rw [v2] at hu2
          clear hΦ hd
          have hx : ∃ x, u = (upd (upd x 11 (undef)) 2 (.bool true)) := ⟨u, by rw [← upd_self hu11, ← upd_self hu2]⟩
          clear hu11 hu2
          obtain ⟨x, rfl⟩ := hx
          simp only [upd, reduceIte, Nat.reduceEqDiff]
          exact .inr ⟨rfl, hK undef _ v12.symm hG (fun _ _ _ h => h)⟩
        | 13, ho =>
          simp at ho; subst ho
          have hu2 : u 2 = V 2 := hΦ 2 (hd ⟨2, .data⟩ (by simp) (by rfl))
          rw [v2] at hu2
          have hu12 : u 12 = V 12 := hΦ 12 (hd ⟨12, .data⟩ (by simp) (by rfl))
          rw [v12] at hu12
          clear hΦ hd
          have hx : ∃ x, u = (upd (upd x 2 (.bool true)) 12 (undef)) := ⟨u, by rw [← upd_self hu2, ← upd_self hu12]⟩
          clear hu2 hu12
          obtain ⟨x, rfl⟩ := hx
          simp only [upd, reduceIte, Nat.reduceEqDiff]
          refine .inl ⟨rfl, ?_⟩
          go_simp
          exact hK _ _ v13.symm hG (fun _ _ _ h => h)
        | 14, ho =>
          simp at ho; subst ho
          have hu13 : u 13 = V 13 := hΦ 13 (hd ⟨13, .data⟩ (by simp) (by rfl))
          rw [v13] at hu13
          clear hΦ hd
          have hG0 := hG
          have hx : ∃ x, u = (upd x 13 (.bool true)) := ⟨u, by rw [← upd_self hu13]⟩
          clear hu13
          obtain ⟨x, rfl⟩ := hx
          simp only [upd, reduceIte, Nat.reduceEqDiff]
          refine .inl ⟨rfl, ?_⟩
          go_simp
          refine (must_yes 6 w3).mono ?_
          rintro e w4 ⟨rfl, rfl⟩
          exact hK _ _ v14.symm hG0 (fun _ _ _ h => h)
      · rintro u w3 hu L hall hG
        have hG0 := hG
        clear hu hall
        go_wp2_with fail
        go_meet
        case rel => exact ⟨.inl H0.out, hf0.none hG0⟩
    · have B28 : ((num a4 : Int) == 0) = false := by simp; omega
      have H0 := Lib.hid h0
      clear h0
      by_cases hc : check (besideB fi ti (num a3) ++ sub l 0 (num a3)) = 0
      · have HC := Lib.hid hc
        clear hc
        obtain ⟨x1, Hx1⟩ : ∃ s : List UInt8, Hid (s = besideB fi ti (num a3)) := ⟨besideB fi ti (num a3), Lib.hid rfl⟩
        obtain ⟨x2, Hx2⟩ : ∃ s : List UInt8, Hid (s = sub l 0 (num a3)) := ⟨sub l 0 (num a3), Lib.hid rfl⟩
        have Lx1 : Hid (x1.length ≤ 12) := by unfold Hid; rw [Hx1.out]; first | (rw [beside_length]; omega) | (have hsl := sub_le l 0 (num a3); omega)
        have Lx2 : Hid (x2.length ≤ 65536) := by have l_x1 := Lx1.out; unfold Hid; rw [Hx2.out]; first | (rw [beside_length]; omega) | (have hsl := sub_le l 0 (num a3); omega)
        obtain ⟨V, hV⟩ : ∃ V : Nat → Value, V = (fun j => match j with | 0 => .int .u16 (num a4 : Int) | 1 => .bool false | 2 => .bool false | 3 => .int .u32 (fi : Int) | 4 => .int .u32 (ti : Int) | 5 => .int .i64 (num a3 : Int) | 6 => .string (bs x1) | 7 => .string (bs l) | 8 => .int .i64 (num a3 : Int) | 9 => .string (bs x2) | 11 => .int .u16 (check (x1 ++ x2) : Int) | 12 => .bool true | 13 => .bool true | 14 => .tuple #[] | _ => undef) := ⟨_, rfl⟩
        have v0 : V 0 = .int .u16 (num a4 : Int) := congrFun hV 0
        have v1 : V 1 = .bool false := congrFun hV 1
        have v2 : V 2 = .bool false := congrFun hV 2
        have v3 : V 3 = .int .u32 (fi : Int) := congrFun hV 3
        have v4 : V 4 = .int .u32 (ti : Int) := congrFun hV 4
        have v5 : V 5 = .int .i64 (num a3 : Int) := congrFun hV 5
        have v6 : V 6 = .string (bs x1) := congrFun hV 6
        have v7 : V 7 = .string (bs l) := congrFun hV 7
        have v8 : V 8 = .int .i64 (num a3 : Int) := congrFun hV 8
        have v9 : V 9 = .string (bs x2) := congrFun hV 9
        have v11 : V 11 = .int .u16 (check (x1 ++ x2) : Int) := congrFun hV 11
        have v12 : V 12 = .bool true := congrFun hV 12
        have v13 : V 13 = .bool true := congrFun hV 13
        have v14 : V 14 = .tuple #[] := congrFun hV 14
        clear hV
        refine wp_region_ssag (by kernel_rfl) (by kernel_rfl)
          (fun u => ⟨#[.pointer (some ⟨p, 0, none⟩), .pointer (some ⟨q, 0, none⟩), .pointer (some ⟨qi, 0, none⟩), .pointer (some ⟨qt, 0, none⟩), undef, .pointer (some ⟨w.heap.size, 0, none⟩), .pointer (some ⟨g, 0, none⟩), .int .i64 (num a3 : Int), .int .u16 (num a4 : Int), u9, u10, u11, u12, u13, u14, u15, u16, u17, u18, u19, u20, u21, u22, u23, u24, u25, u26, u 0, u 1, u 2, u 3, u 4, u 5, u 6, u 7, u 8, u 9, u 10, u 11, u 12, u 13, u 14, undef, undef, undef, undef, undef, undef], []⟩)
          (fun j v w3 => if j = 10 then True else v = V j)
          (fun L u w3 => Fr noB wc w3 ∧ AlS (L 10) (u 10) 2 9 #[.string (bs x1), .string (bs x2)] 0 none w3) (fun j => undef) ⟨(Fr.refl _ _).drew, AlS.false⟩ ?_ ?_
        · rintro L u w3 i o hG hΦ ho hL hd K hK
          match i, ho with
          | 0, ho =>
            simp at ho; subst ho
            clear hΦ hd
            refine .inl ⟨rfl, ?_⟩
            go_simp
            exact hK _ _ v0.symm hG (fun _ _ _ h => h)
          | 1, ho =>
            simp at ho; subst ho
            have hu0 : u 0 = V 0 := hΦ 0 (hd ⟨0, .data⟩ (by simp) (by rfl))
            rw [v0] at hu0
            clear hΦ hd
            have hx : ∃ x, u = (upd x 0 (.int .u16 (num a4 : Int))) := ⟨u, by rw [← upd_self hu0]⟩
            clear hu0
            obtain ⟨x, rfl⟩ := hx
            simp only [upd, reduceIte, Nat.reduceEqDiff]
            refine .inl ⟨rfl, ?_⟩
            go_simp
            exact hK _ _ v1.symm hG (fun _ _ _ h => h)
          | 2, ho =>
            simp at ho; subst ho
            have hu1 : u 1 = V 1 := hΦ 1 (hd ⟨1, .data⟩ (by simp) (by rfl))
            rw [v1] at hu1
            clear hΦ hd
            have hx : ∃ x, u = (upd x 1 (.bool false)) := ⟨u, by rw [← upd_self hu1]⟩
            clear hu1
            obtain ⟨x, rfl⟩ := hx
            simp only [upd, reduceIte, Nat.reduceEqDiff]
            refine .inl ⟨rfl, ?_⟩
            go_simp
            exact hK _ _ v2.symm hG (fun _ _ _ h => h)
          | 3, ho =>
            simp at ho; subst ho
            have hu2 : u 2 = V 2 := hΦ 2 (hd ⟨2, .guard⟩ (by simp) (by rfl))
            rw [v2] at hu2
            clear hΦ hd
            obtain ⟨hG0, s10⟩ := hG
            have hx : ∃ x, u = (upd x 2 (.bool false)) := ⟨u, by rw [← upd_self hu2]⟩
            clear hu2
            obtain ⟨x, rfl⟩ := hx
            simp only [upd, reduceIte, Nat.reduceEqDiff]
            refine .inl ⟨rfl, ?_⟩
            have hc0 := ((hiA).keep hG0 (fun x => x)).cells
            go_simp
            exact hK _ _ v3.symm ⟨hG0, s10⟩ (fun _ _ _ h => h)
          | 4, ho =>
            simp at ho; subst ho
            have hu2 : u 2 = V 2 := hΦ 2 (hd ⟨2, .guard⟩ (by simp) (by rfl))
            rw [v2] at hu2
            clear hΦ hd
            obtain ⟨hG0, s10⟩ := hG
            have hx : ∃ x, u = (upd x 2 (.bool false)) := ⟨u, by rw [← upd_self hu2]⟩
            clear hu2
            obtain ⟨x, rfl⟩ := hx
            simp only [upd, reduceIte, Nat.reduceEqDiff]
            refine .inl ⟨rfl, ?_⟩
            have hc0 := ((htA).keep hG0 (fun x => x)).cells
            go_simp
            exact hK _ _ v4.symm ⟨hG0, s10⟩ (fun _ _ _ h => h)
          | 5, ho =>
            simp at ho; subst ho
            have hu2 : u 2 = V 2 := hΦ 2 (hd ⟨2, .guard⟩ (by simp) (by rfl))
            rw [v2] at hu2
            clear hΦ hd
            have hx : ∃ x, u = (upd x 2 (.bool false)) := ⟨u, by rw [← upd_self hu2]⟩
            clear hu2
            obtain ⟨x, rfl⟩ := hx
            simp only [upd, reduceIte, Nat.reduceEqDiff]
            refine .inl ⟨rfl, ?_⟩
            go_simp
            exact hK _ _ v5.symm hG (fun _ _ _ h => h)
          | 6, ho =>
            simp at ho; subst ho
            have hu3 : u 3 = V 3 := hΦ 3 (hd ⟨3, .data⟩ (by simp) (by rfl))
            rw [v3] at hu3
            have hu4 : u 4 = V 4 := hΦ 4 (hd ⟨4, .data⟩ (by simp) (by rfl))
            rw [v4] at hu4
            have hu5 : u 5 = V 5 := hΦ 5 (hd ⟨5, .data⟩ (by simp) (by rfl))
            rw [v5] at hu5
            have hu2 : u 2 = V 2 := hΦ 2 (hd ⟨2, .guard⟩ (by simp) (by rfl))
            rw [v2] at hu2
            clear hΦ hd
            obtain ⟨hG0, s10⟩ := hG
            have hx : ∃ x, u = (upd (upd (upd (upd x 3 (.int .u32 (fi : Int))) 4 (.int .u32 (ti : Int))) 5 (.int .i64 (num a3 : Int))) 2 (.bool false)) := ⟨u, by rw [← upd_self hu3, ← upd_self hu4, ← upd_self hu5, ← upd_self hu2]⟩
            clear hu3 hu4 hu5 hu2
            obtain ⟨x, rfl⟩ := hx
            simp only [upd, reduceIte, Nat.reduceEqDiff]
            refine .inl ⟨rfl, ?_⟩
            go_simp
            refine (pseudoFn fi ti (num a3 : Int) w3 hfi hti (by omega) (by omega)).mono ?_
            rintro e w4 ⟨rfl, hf4⟩
            rw [Int.toNat_natCast, ← Hx1.out]
            exact hK _ _ v6.symm ⟨(hG0.none hf4), AlS.quiet s10 hf4⟩ (fun _ _ _ h => h)
          | 7, ho =>
            simp at ho; subst ho
            have hu2 : u 2 = V 2 := hΦ 2 (hd ⟨2, .guard⟩ (by simp) (by rfl))
            rw [v2] at hu2
            clear hΦ hd
            obtain ⟨hG0, s10⟩ := hG
            have hx : ∃ x, u = (upd x 2 (.bool false)) := ⟨u, by rw [← upd_self hu2]⟩
            clear hu2
            obtain ⟨x, rfl⟩ := hx
            simp only [upd, reduceIte, Nat.reduceEqDiff]
            refine .inl ⟨rfl, ?_⟩
            have hc0 := ((hsA).keep hG0 (fun x => x)).cells
            go_simp
            exact hK _ _ v7.symm ⟨hG0, s10⟩ (fun _ _ _ h => h)
          | 8, ho =>
            simp at ho; subst ho
            have hu2 : u 2 = V 2 := hΦ 2 (hd ⟨2, .guard⟩ (by simp) (by rfl))
            rw [v2] at hu2
            clear hΦ hd
            have hx : ∃ x, u = (upd x 2 (.bool false)) := ⟨u, by rw [← upd_self hu2]⟩
            clear hu2
            obtain ⟨x, rfl⟩ := hx
            simp only [upd, reduceIte, Nat.reduceEqDiff]
            refine .inl ⟨rfl, ?_⟩
            go_simp
            exact hK _ _ v8.symm hG (fun _ _ _ h => h)
          | 9, ho =>
            simp at ho; subst ho
            have hu7 : u 7 = V 7 := hΦ 7 (hd ⟨7, .data⟩ (by simp) (by rfl))
            rw [v7] at hu7
            have hu8 : u 8 = V 8 := hΦ 8 (hd ⟨8, .data⟩ (by simp) (by rfl))
            rw [v8] at hu8
            have hu2 : u 2 = V 2 := hΦ 2 (hd ⟨2, .guard⟩ (by simp) (by rfl))
            rw [v2] at hu2
            clear hΦ hd
            have hx : ∃ x, u = (upd (upd (upd x 7 (.string (bs l))) 8 (.int .i64 (num a3 : Int))) 2 (.bool false)) := ⟨u, by rw [← upd_self hu7, ← upd_self hu8, ← upd_self hu2]⟩
            clear hu7 hu8 hu2
            obtain ⟨x, rfl⟩ := hx
            simp only [upd, reduceIte, Nat.reduceEqDiff]
            refine .inl ⟨rfl, ?_⟩
            go_simp
            rw [← Hx2.out]
            exact hK _ _ v9.symm hG (fun _ _ _ h => h)
          | 10, ho =>
            simp at ho; subst ho
            have hu6 : u 6 = V 6 := hΦ 6 (hd ⟨6, .data⟩ (by simp) (by rfl))
            rw [v6] at hu6
            have hu9 : u 9 = V 9 := hΦ 9 (hd ⟨9, .data⟩ (by simp) (by rfl))
            rw [v9] at hu9
            have hu2 : u 2 = V 2 := hΦ 2 (hd ⟨2, .guard⟩ (by simp) (by rfl))
            rw [v2] at hu2
            clear hΦ hd
            obtain ⟨hG0, s10⟩ := hG
            have hx : ∃ x, u = (upd (upd (upd x 6 (.string (bs x1))) 9 (.string (bs x2))) 2 (.bool false)) := ⟨u, by rw [← upd_self hu6, ← upd_self hu9, ← upd_self hu2]⟩
            clear hu6 hu9 hu2
            obtain ⟨x, rfl⟩ := hx
            simp only [upd, reduceIte, Nat.reduceEqDiff]
            refine .inl ⟨rfl, ?_⟩
            go_simp
            exact hK _ _ trivial ⟨(hG0.alloc _), AlS.new0 w3 2 9 #[.string (bs x1), .string (bs x2)]⟩ (fun _ _ _ h => h)
          | 11, ho =>
            simp at ho; subst ho
            have hu2 : u 2 = V 2 := hΦ 2 (hd ⟨2, .guard⟩ (by simp) (by rfl))
            rw [v2] at hu2
            have hl10 : L 10 = true := hd ⟨10, .data⟩ (by simp) (by rfl)
            clear hΦ hd
            obtain ⟨hG0, s10⟩ := hG
            obtain ⟨g10, hg10, hb10, -, -⟩ := s10 hl10
            have hx : ∃ x, u = (upd (upd x 2 (.bool false)) 10 (.slice (some ⟨g10, 0, none⟩) 2 2)) := ⟨u, by rw [← upd_self hu2, ← upd_self hg10]⟩
            clear hu2 hg10
            obtain ⟨x, rfl⟩ := hx
            simp only [upd, reduceIte, Nat.reduceEqDiff]
            refine .inl ⟨rfl, ?_⟩
            go_simp
            refine (hashCheck_two _ 2 x1 x2 w3 (SlR.of_bk (n := 2) (size := 1) hb10 (fun x => x) rfl) (by have := Lx1.out; omega) (by have := Lx2.out; omega)).mono ?_
            rintro e w4 ⟨rfl, rfl⟩
            exact hK _ _ v11.symm ⟨hG0, s10⟩ (fun _ _ _ h => h)
          | 12, ho =>
            simp at ho; subst ho
            have hu11 : u 11 = V 11 := hΦ 11 (hd ⟨11, .data⟩ (by simp) (by rfl))
            rw [v11] at hu11
            have hu2 : u 2 = V 2 := hΦ 2 (hd ⟨2, .guard⟩ (by simp) (by rfl))
            rw [v2] at hu2
            clear hΦ hd
            have hx : ∃ x, u = (upd (upd x 11 (.int .u16 (check (x1 ++ x2) : Int))) 2 (.bool false)) := ⟨u, by rw [← upd_self hu11, ← upd_self hu2]⟩
            clear hu11 hu2
            obtain ⟨x, rfl⟩ := hx
            simp only [upd, reduceIte, Nat.reduceEqDiff]
            refine .inl ⟨rfl, ?_⟩
            have hck : ((check (x1 ++ x2) : Int) == 0) = true := by rw [Hx1.out, Hx2.out, HC.out]; rfl
            go_simp
            exact hK _ _ v12.symm hG (fun _ _ _ h => h)
          | 13, ho =>
            simp at ho; subst ho
            have hu2 : u 2 = V 2 := hΦ 2 (hd ⟨2, .data⟩ (by simp) (by rfl))
            rw [v2] at hu2
            have hu12 : u 12 = V 12 := hΦ 12 (hd ⟨12, .data⟩ (by simp) (by rfl))
            rw [v12] at hu12
            clear hΦ hd
            have hx : ∃ x, u = (upd (upd x 2 (.bool false)) 12 (.bool true)) := ⟨u, by rw [← upd_self hu2, ← upd_self hu12]⟩
            clear hu2 hu12
            obtain ⟨x, rfl⟩ := hx
            simp only [upd, reduceIte, Nat.reduceEqDiff]
            refine .inl ⟨rfl, ?_⟩
            go_simp
            exact hK _ _ v13.symm hG (fun _ _ _ h => h)
          | 14, ho =>
            simp at ho; subst ho
            have hu13 : u 13 = V 13 := hΦ 13 (hd ⟨13, .data⟩ (by simp) (by rfl))
            rw [v13] at hu13
            clear hΦ hd
            obtain ⟨hG0, s10⟩ := hG
            have hx : ∃ x, u = (upd x 13 (.bool true)) := ⟨u, by rw [← upd_self hu13]⟩
            clear hu13
            obtain ⟨x, rfl⟩ := hx
            simp only [upd, reduceIte, Nat.reduceEqDiff]
            refine .inl ⟨rfl, ?_⟩
            go_simp
            refine (must_yes 6 w3).mono ?_
            rintro e w4 ⟨rfl, rfl⟩
            exact hK _ _ v14.symm ⟨hG0, s10⟩ (fun _ _ _ h => h)
        · rintro u w3 hu L hall hG
          obtain ⟨hG0, s10⟩ := hG
          clear hu hall
          go_wp2_with fail
          go_meet
          case rel => exact ⟨.inr HC.out, hf0.none hG0⟩
      · have HC := Lib.hid hc
        clear hc
        obtain ⟨x1, Hx1⟩ : ∃ s : List UInt8, Hid (s = besideB fi ti (num a3)) := ⟨besideB fi ti (num a3), Lib.hid rfl⟩
        obtain ⟨x2, Hx2⟩ : ∃ s : List UInt8, Hid (s = sub l 0 (num a3)) := ⟨sub l 0 (num a3), Lib.hid rfl⟩
        have Lx1 : Hid (x1.length ≤ 12) := by unfold Hid; rw [Hx1.out]; first | (rw [beside_length]; omega) | (have hsl := sub_le l 0 (num a3); omega)
        have Lx2 : Hid (x2.length ≤ 65536) := by have l_x1 := Lx1.out; unfold Hid; rw [Hx2.out]; first | (rw [beside_length]; omega) | (have hsl := sub_le l 0 (num a3); omega)
        obtain ⟨V, hV⟩ : ∃ V : Nat → Value, V = (fun j => match j with | 0 => .int .u16 (num a4 : Int) | 1 => .bool false | 2 => .bool false | 3 => .int .u32 (fi : Int) | 4 => .int .u32 (ti : Int) | 5 => .int .i64 (num a3 : Int) | 6 => .string (bs x1) | 7 => .string (bs l) | 8 => .int .i64 (num a3 : Int) | 9 => .string (bs x2) | 11 => .int .u16 (check (x1 ++ x2) : Int) | 12 => .bool false | 13 => .bool false | 14 => undef | _ => undef) := ⟨_, rfl⟩
        have v0 : V 0 = .int .u16 (num a4 : Int) := congrFun hV 0
        have v1 : V 1 = .bool false := congrFun hV 1
        have v2 : V 2 = .bool false := congrFun hV 2
        have v3 : V 3 = .int .u32 (fi : Int) := congrFun hV 3
        have v4 : V 4 = .int .u32 (ti : Int) := congrFun hV 4
        have v5 : V 5 = .int .i64 (num a3 : Int) := congrFun hV 5
        have v6 : V 6 = .string (bs x1) := congrFun hV 6
        have v7 : V 7 = .string (bs l) := congrFun hV 7
        have v8 : V 8 = .int .i64 (num a3 : Int) := congrFun hV 8
        have v9 : V 9 = .string (bs x2) := congrFun hV 9
        have v11 : V 11 = .int .u16 (check (x1 ++ x2) : Int) := congrFun hV 11
        have v12 : V 12 = .bool false := congrFun hV 12
        have v13 : V 13 = .bool false := congrFun hV 13
        have v14 : V 14 = undef := congrFun hV 14
        clear hV
        refine wp_region_ssag (by kernel_rfl) (by kernel_rfl)
          (fun u => ⟨#[.pointer (some ⟨p, 0, none⟩), .pointer (some ⟨q, 0, none⟩), .pointer (some ⟨qi, 0, none⟩), .pointer (some ⟨qt, 0, none⟩), undef, .pointer (some ⟨w.heap.size, 0, none⟩), .pointer (some ⟨g, 0, none⟩), .int .i64 (num a3 : Int), .int .u16 (num a4 : Int), u9, u10, u11, u12, u13, u14, u15, u16, u17, u18, u19, u20, u21, u22, u23, u24, u25, u26, u 0, u 1, u 2, u 3, u 4, u 5, u 6, u 7, u 8, u 9, u 10, u 11, u 12, u 13, u 14, undef, undef, undef, undef, undef, undef], []⟩)
          (fun j v w3 => if j = 10 then True else if j = 14 then False else v = V j)
          (fun L u w3 => Fr noB wc w3 ∧ AlS (L 10) (u 10) 2 9 #[.string (bs x1), .string (bs x2)] 0 none w3) (fun j => undef) ⟨(Fr.refl _ _).drew, AlS.false⟩ ?_ ?_
        · rintro L u w3 i o hG hΦ ho hL hd K hK
          match i, ho with
          | 0, ho =>
            simp at ho; subst ho
            clear hΦ hd
            refine .inl ⟨rfl, ?_⟩
            go_simp
            exact hK _ _ v0.symm hG (fun _ _ _ h => h)
          | 1, ho =>
            simp at ho; subst ho
            have hu0 : u 0 = V 0 := hΦ 0 (hd ⟨0, .data⟩ (by simp) (by rfl))
            rw [v0] at hu0
            clear hΦ hd
            have hx : ∃ x, u = (upd x 0 (.int .u16 (num a4 : Int))) := ⟨u, by rw [← upd_self hu0]⟩
            clear hu0
            obtain ⟨x, rfl⟩ := hx
            simp only [upd, reduceIte, Nat.reduceEqDiff]
            refine .inl ⟨rfl, ?_⟩
            go_simp
            exact hK _ _ v1.symm hG (fun _ _ _ h => h)
          | 2, ho =>
            simp at ho; subst ho
            have hu1 : u 1 = V 1 := hΦ 1 (hd ⟨1, .data⟩ (by simp) (by rfl))
            rw [v1] at hu1
            clear hΦ hd
            have hx : ∃ x, u = (upd x 1 (.bool false)) := ⟨u, by rw [← upd_self hu1]⟩
            clear hu1
            obtain ⟨x, rfl⟩ := hx
            simp only [upd, reduceIte, Nat.reduceEqDiff]
            refine .inl ⟨rfl, ?_⟩
            go_simp
            exact hK _ _ v2.symm hG (fun _ _ _ h => h)
          | 3, ho =>
            simp at ho; subst ho
            have hu2 : u 2 = V 2 := hΦ 2 (hd ⟨2, .guard⟩ (by simp) (by rfl))
            rw [v2] at hu2
            clear hΦ hd
            obtain ⟨hG0, s10⟩ := hG
            have hx : ∃ x, u = (upd x 2 (.bool false)) := ⟨u, by rw [← upd_self hu2]⟩
            clear hu2
            obtain ⟨x, rfl⟩ := hx
            simp only [upd, reduceIte, Nat.reduceEqDiff]
            refine .inl ⟨rfl, ?_⟩
            have hc0 := ((hiA).keep hG0 (fun x => x)).cells
            go_simp
            exact hK _ _ v3.symm ⟨hG0, s10⟩ (fun _ _ _ h => h)
          | 4, ho =>
            simp at ho; subst ho
            have hu2 : u 2 = V 2 := hΦ 2 (hd ⟨2, .guard⟩ (by simp) (by rfl))
            rw [v2] at hu2
            clear hΦ hd
            obtain ⟨hG0, s10⟩ := hG
            have hx : ∃ x, u = (upd x 2 (.bool false)) := ⟨u, by rw [← upd_self hu2]⟩
            clear hu2
            obtain ⟨x, rfl⟩ := hx
            simp only [upd, reduceIte, Nat.reduceEqDiff]
            refine .inl ⟨rfl, ?_⟩
            have hc0 := ((htA).keep hG0 (fun x => x)).cells
            go_simp
            exact hK _ _ v4.symm ⟨hG0, s10⟩ (fun _ _ _ h => h)
          | 5, ho =>
            simp at ho; subst ho
            have hu2 : u 2 = V 2 := hΦ 2 (hd ⟨2, .guard⟩ (by simp) (by rfl))
            rw [v2] at hu2
            clear hΦ hd
            have hx : ∃ x, u = (upd x 2 (.bool false)) := ⟨u, by rw [← upd_self hu2]⟩
            clear hu2
            obtain ⟨x, rfl⟩ := hx
            simp only [upd, reduceIte, Nat.reduceEqDiff]
            refine .inl ⟨rfl, ?_⟩
            go_simp
            exact hK _ _ v5.symm hG (fun _ _ _ h => h)
          | 6, ho =>
            simp at ho; subst ho
            have hu3 : u 3 = V 3 := hΦ 3 (hd ⟨3, .data⟩ (by simp) (by rfl))
            rw [v3] at hu3
            have hu4 : u 4 = V 4 := hΦ 4 (hd ⟨4, .data⟩ (by simp) (by rfl))
            rw [v4] at hu4
            have hu5 : u 5 = V 5 := hΦ 5 (hd ⟨5, .data⟩ (by simp) (by rfl))
            rw [v5] at hu5
            have hu2 : u 2 = V 2 := hΦ 2 (hd ⟨2, .guard⟩ (by simp) (by rfl))
            rw [v2] at hu2
            clear hΦ hd
            obtain ⟨hG0, s10⟩ := hG
            have hx : ∃ x, u = (upd (upd (upd (upd x 3 (.int .u32 (fi : Int))) 4 (.int .u32 (ti : Int))) 5 (.int .i64 (num a3 : Int))) 2 (.bool false)) := ⟨u, by rw [← upd_self hu3, ← upd_self hu4, ← upd_self hu5, ← upd_self hu2]⟩
            clear hu3 hu4 hu5 hu2
            obtain ⟨x, rfl⟩ := hx
            simp only [upd, reduceIte, Nat.reduceEqDiff]
            refine .inl ⟨rfl, ?_⟩
            go_simp
            refine (pseudoFn fi ti (num a3 : Int) w3 hfi hti (by omega) (by omega)).mono ?_
            rintro e w4 ⟨rfl, hf4⟩
            rw [Int.toNat_natCast, ← Hx1.out]
            exact hK _ _ v6.symm ⟨(hG0.none hf4), AlS.quiet s10 hf4⟩ (fun _ _ _ h => h)
          | 7, ho =>
            simp at ho; subst ho
            have hu2 : u 2 = V 2 := hΦ 2 (hd ⟨2, .guard⟩ (by simp) (by rfl))
            rw [v2] at hu2
            clear hΦ hd
            obtain ⟨hG0, s10⟩ := hG
            have hx : ∃ x, u = (upd x 2 (.bool false)) := ⟨u, by rw [← upd_self hu2]⟩
            clear hu2
            obtain ⟨x, rfl⟩ := hx
            simp only [upd, reduceIte, Nat.reduceEqDiff]
            refine .inl ⟨rfl, ?_⟩
            have hc0 := ((hsA).keep hG0 (fun x => x)).cells
            go_simp
            exact hK _ _ v7.symm ⟨hG0, s10⟩ (fun _ _ _ h => h)
          | 8, ho =>
            simp at ho; subst ho
            have hu2 : u 2 = V 2 := hΦ 2 (hd ⟨2, .guard⟩ (by simp) (by rfl))
            rw [v2] at hu2
            clear hΦ hd
            have hx : ∃ x, u = (upd x 2 (.bool false)) := ⟨u, by rw [← upd_self hu2]⟩
            clear hu2
            obtain ⟨x, rfl⟩ := hx
            simp only [upd, reduceIte, Nat.reduceEqDiff]
            refine .inl ⟨rfl, ?_⟩
            go_simp
            exact hK _ _ v8.symm hG (fun _ _ _ h => h)
          | 9, ho =>
            simp at ho; subst ho
            have hu7 : u 7 = V 7 := hΦ 7 (hd ⟨7, .data⟩ (by simp) (by rfl))
            rw [v7] at hu7
            have hu8 : u 8 = V 8 := hΦ 8 (hd ⟨8, .data⟩ (by simp) (by rfl))
            rw [v8] at hu8
            have hu2 : u 2 = V 2 := hΦ 2 (hd ⟨2, .guard⟩ (by simp) (by rfl))
            rw [v2] at hu2
            clear hΦ hd
            have hx : ∃ x, u = (upd (upd (upd x 7 (.string (bs l))) 8 (.int .i64 (num a3 : Int))) 2 (.bool false)) := ⟨u, by rw [← upd_self hu7, ← upd_self hu8, ← upd_self hu2]⟩
            clear hu7 hu8 hu2
            obtain ⟨x, rfl⟩ := hx
            simp only [upd, reduceIte, Nat.reduceEqDiff]
            refine .inl ⟨rfl, ?_⟩
            go_simp
            rw [← Hx2.out]
            exact hK _ _ v9.symm hG (fun _ _ _ h => h)
          | 10, ho =>
            simp at ho; subst ho
            have hu6 : u 6 = V 6 := hΦ 6 (hd ⟨6, .data⟩ (by simp) (by rfl))
            rw [v6] at hu6
            have hu9 : u 9 = V 9 := hΦ 9 (hd ⟨9, .data⟩ (by simp) (by rfl))
            rw [v9] at hu9
            have hu2 : u 2 = V 2 := hΦ 2 (hd ⟨2, .guard⟩ (by simp) (by rfl))
            rw [v2] at hu2
            clear hΦ hd
            obtain ⟨hG0, s10⟩ := hG
            have hx : ∃ x, u = (upd (upd (upd x 6 (.string (bs x1))) 9 (.string (bs x2))) 2 (.bool false)) := ⟨u, by rw [← upd_self hu6, ← upd_self hu9, ← upd_self hu2]⟩
            clear hu6 hu9 hu2
            obtain ⟨x, rfl⟩ := hx
            simp only [upd, reduceIte, Nat.reduceEqDiff]
            refine .inl ⟨rfl, ?_⟩
            go_simp
            exact hK _ _ trivial ⟨(hG0.alloc _), AlS.new0 w3 2 9 #[.string (bs x1), .string (bs x2)]⟩ (fun _ _ _ h => h)
          | 11, ho =>
            simp at ho; subst ho
            have hu2 : u 2 = V 2 := hΦ 2 (hd ⟨2, .guard⟩ (by simp) (by rfl))
            rw [v2] at hu2
            have hl10 : L 10 = true := hd ⟨10, .data⟩ (by simp) (by rfl)
            clear hΦ hd
            obtain ⟨hG0, s10⟩ := hG
            obtain ⟨g10, hg10, hb10, -, -⟩ := s10 hl10
            have hx : ∃ x, u = (upd (upd x 2 (.bool false)) 10 (.slice (some ⟨g10, 0, none⟩) 2 2)) := ⟨u, by rw [← upd_self hu2, ← upd_self hg10]⟩
            clear hu2 hg10
            obtain ⟨x, rfl⟩ := hx
            simp only [upd, reduceIte, Nat.reduceEqDiff]
            refine .inl ⟨rfl, ?_⟩
            go_simp
            refine (hashCheck_two _ 2 x1 x2 w3 (SlR.of_bk (n := 2) (size := 1) hb10 (fun x => x) rfl) (by have := Lx1.out; omega) (by have := Lx2.out; omega)).mono ?_
            rintro e w4 ⟨rfl, rfl⟩
            exact hK _ _ v11.symm ⟨hG0, s10⟩ (fun _ _ _ h => h)
          | 12, ho =>
            simp at ho; subst ho
            have hu11 : u 11 = V 11 := hΦ 11 (hd ⟨11, .data⟩ (by simp) (by rfl))
            rw [v11] at hu11
            have hu2 : u 2 = V 2 := hΦ 2 (hd ⟨2, .guard⟩ (by simp) (by rfl))
            rw [v2] at hu2
            clear hΦ hd
            have hx : ∃ x, u = (upd (upd x 11 (.int .u16 (check (x1 ++ x2) : Int))) 2 (.bool false)) := ⟨u, by rw [← upd_self hu11, ← upd_self hu2]⟩
            clear hu11 hu2
            obtain ⟨x, rfl⟩ := hx
            simp only [upd, reduceIte, Nat.reduceEqDiff]
            refine .inl ⟨rfl, ?_⟩
            have hck : ((check (x1 ++ x2) : Int) == 0) = false := by rw [Hx1.out, Hx2.out]; simp; exact HC.out
            go_simp
            exact hK _ _ v12.symm hG (fun _ _ _ h => h)
          | 13, ho =>
            simp at ho; subst ho
            have hu2 : u 2 = V 2 := hΦ 2 (hd ⟨2, .data⟩ (by simp) (by rfl))
            rw [v2] at hu2
            have hu12 : u 12 = V 12 := hΦ 12 (hd ⟨12, .data⟩ (by simp) (by rfl))
            rw [v12] at hu12
            clear hΦ hd
            have hx : ∃ x, u = (upd (upd x 2 (.bool false)) 12 (.bool false)) := ⟨u, by rw [← upd_self hu2, ← upd_self hu12]⟩
            clear hu2 hu12
            obtain ⟨x, rfl⟩ := hx
            simp only [upd, reduceIte, Nat.reduceEqDiff]
            refine .inl ⟨rfl, ?_⟩
            go_simp
            exact hK _ _ v13.symm hG (fun _ _ _ h => h)
          | 14, ho =>
            simp at ho; subst ho
            have hu13 : u 13 = V 13 := hΦ 13 (hd ⟨13, .data⟩ (by simp) (by rfl))
            rw [v13] at hu13
            clear hΦ hd
            obtain ⟨hG0, s10⟩ := hG
            have hx : ∃ x, u = (upd x 13 (.bool false)) := ⟨u, by rw [← upd_self hu13]⟩
            clear hu13
            obtain ⟨x, rfl⟩ := hx
            simp only [upd, reduceIte, Nat.reduceEqDiff]
            refine .inl ⟨rfl, ?_⟩
            go_simp
            refine (must_no 6 w3).mono ?_
            rintro e w4 ⟨rfl, rfl⟩
            exact ⟨rfl, .inr ⟨6, ⟨6, rfl, by rw [hspec.out, if_neg T4.out, if_neg T5.out, if_pos ⟨H0.out, HC.out⟩]⟩, rfl⟩, FA.none hG0⟩
        · rintro u w3 hu L hall hG
          have hno := hu 14 (by simp)
          simp at hno
  case rest =>
  obtain ⟨hor, hfc⟩ := hcut
  have T6 : Hid (¬ (num a4 ≠ 0 ∧ check (besideB fi ti (num a3) ++ sub l 0 (num a3)) ≠ 0)) := by unfold Hid; omega
  clear hor
  have hbC := hbA.keep hfc (fun x => x)
  have hxC := hxA.keep hfc (fun x => x)
  have hrC := Bk.keep hr4 hfc (fun x => x)
  have FC := FA.none hfc
  clear hbA hxA hsA hiA htA FA hr4 hfc
  have n3 := N3.out
  have e8 : ((num a3 : Int) - 8) = ((num a3 - 8 : Nat) : Int) := by have := T4.out; omega
  have b8 : (8 : Int) ≤ (num a3 : Int) := by have := T4.out; omega
  clear n3
  go_wp2_with fail
  refine (rTake_ok (num a3 - 8) p r4 _ hrC (by have := hlen.out; have := T5.out; omega) b4).mono ?_
  rintro e w12 ⟨rfl, hr12, hf12⟩
  have hb12 := hbC.keep hf12 (by unfold oneB; omega)
  have hx12 := hxC.keep hf12 (by unfold oneB; omega)
  have F12 := FC.trans hf12
  have hcA := hb12.cells
  have hzA := hb12.frees
  have hbB := hb12.set 2 (.string (bs (r4.take (num a3 - 8))))
  have hxB := hx12.far (p := ⟨g, 2, none⟩) (by simp; omega) (.string (bs (r4.take (num a3 - 8))))
  have FB := F12.setCell (p := ⟨g, 2, none⟩) (fun e => absurd e (by simp; omega)) (.string (bs (r4.take (num a3 - 8))))
  have HB := Lib.hid hbB
  have HC := Lib.hid hxB
  clear hbB hbC hxC FC hrC hr12 hf12 F12 hx12 e8 hxB
  go_wp2_with ((refine wpList_store_bk rfl 42 (.tmp 5) (.tmp 47) rfl w.heap.size _ _ _ rfl rfl HC.out rfl (by kernel_rfl) (by kernel_rfl) ?_); intro w9 hx9 hf9)
  have hcx := hx9.cells
  refine bodyPost_ret (v := Value.agg (udpC ⟨num a1, num a2, r4.take (num a3 - 8)⟩)) (by simp [results, Tryz.results78, go_sem, hcx, udpC]) rfl ?_
  refine ⟨.inl ⟨_, ⟨_, rfl, ?_⟩, rfl⟩, FB.trans' hf9 (fun b hb e => by unfold oneB at e; omega)⟩
  rw [hspec.out, if_neg T4.out, if_neg T5.out, if_neg T6.out]
def udpPost (l : List UInt8) (fi ti : Nat) (w : World) (e : Ending) (w' : World) : Prop := e = .returned (.tuple #[.agg (udpC (readUDP l fi ti).1), .int .i64 ((readUDP l fi ti).2 : Int)]) ∧ Fr noB w w'
theorem udpRead (l : List UInt8) (fi ti q qi qt : Nat) (w : World) (hfi : fi < 4294967296) (hti : ti < 4294967296) (hq : Bk w q 9 #[.string (bs l)]) (hqi : Bk w qi 34 #[.int .u32 (fi : Int)]) (hqt : Bk w qt 34 #[.int .u32 (ti : Int)]) (hl : l.length ≤ 9223372036854775807) :
    Calls Tryz.prog 77 #[.string (bs l), .func (.func 78) #[] #[.pointer (some ⟨q, 0, none⟩), .pointer (some ⟨qi, 0, none⟩), .pointer (some ⟨qt, 0, none⟩)]] w (udpPost l fi ti w) := by
  refine (readUdp l w _ _ _ (udpOk l fi ti) (udpBad l fi ti) (by rintro c ⟨x, rfl, _⟩; exact ⟨rfl, by kernel_rfl⟩) (fun p w1 hp hR hf => udpBy l fi ti hfi hti hl p q qi qt w1 hR (hq.keep hf (fun x => x)) (hqi.keep hf (fun x => x)) (hqt.keep hf (fun x => x)) (by have := hq.lt; omega) (by have := hqi.lt; omega) (by have := hqt.lt; omega))).mono ?_
  rintro e w' ⟨⟨c, ⟨x, rfl, hx⟩, rfl⟩ | ⟨er, ⟨k, rfl, hk⟩, rfl⟩, hf⟩
  · exact ⟨by rw [hx]; rfl, hf⟩
  · exact ⟨by rw [hk]; rfl, hf⟩
end Go.Proofs.YtcbkaiakdhiloabGreatDoor
namespace Go.Proofs.YtcbkaiakdhiloabGreatDoor
structure OptD where
  code : UInt8
  data : List UInt8
def chunkF : Nat → UInt8 → List UInt8 → List UInt8
  | 0, c, d => [c, UInt8.ofNat d.length] ++ d
  | n + 1, c, d => if d.length ≤ 255 then [c, UInt8.ofNat d.length] ++ d else [c, 255] ++ d.take 255 ++ chunkF n c (d.drop 255)
def chunk (c : UInt8) (d : List UInt8) : List UInt8 := chunkF d.length c d
def zeroTo (l : List UInt8) (n : Nat) : List UInt8 := l ++ List.replicate (n - l.length) 0
def optBad (o : OptD) : Bool := o.code == 0 || o.code == 255 || o.code == 52
def dhcHead (reply : Bool) (xid client yours next : Nat) (mac : List UInt8) : List UInt8 :=
  zeroTo ([if reply then 2 else 1, 1, 6, 0] ++ big 4 xid ++ [0, 0] ++ (if client = 0 then [128, 0] else [0, 0]) ++ big 4 client ++ big 4 yours ++ big 4 next ++ big 4 0 ++ mac) 236 ++ [99, 130, 83, 99]
def dhcBody (head : List UInt8) (os : List OptD) : List UInt8 := zeroTo (head ++ os.flatMap (fun o => chunk o.code o.data) ++ [255]) 300
def wrDHCP (reply : Bool) (xid client yours next : Nat) (mac : List UInt8) (os : List OptD) : List UInt8 × Nat :=
  if os.any optBad then ([], 2)
  else if 1472 < (dhcBody (dhcHead reply xid client yours next mac) os).length then ([], 7)
  else (dhcBody (dhcHead reply xid client yours next mac) os, 0)
/-! How one is read. -/
def optAdd : List OptD → UInt8 → List UInt8 → List OptD
  | [], c, d => [⟨c, d⟩]
  | o :: r, c, d => if o.code = c then ⟨o.code, o.data ++ d⟩ :: r else o :: optAdd r c d
def optOf : List OptD → UInt8 → Option (List UInt8)
  | [], _ => none
  | o :: r, c => if o.code = c then some o.data else optOf r c
def optRead : Nat → List OptD → List UInt8 → Option (List OptD)
  | 0, _, _ => none
  | _ + 1, _, [] => none
  | n + 1, os, c :: r =>
    if c = 255 then some os
    else if c = 0 then optRead n os r
    else match r with
      | [] => none
      | k :: r => if r.length < k.toNat then none else optRead n (optAdd os c (r.take k.toNat)) (r.drop k.toNat)
end Go.Proofs.YtcbkaiakdhiloabGreatDoor
namespace Go.Proofs.YtcbkaiakdhiloabGreatDoor
theorem optRead_fuel : ∀ (n m : Nat) (os : List OptD) (l : List UInt8), l.length < n → l.length < m → optRead n os l = optRead m os l
  | 0, _, _, _, h, _ => absurd h (Nat.not_lt_zero _)
  | _, 0, _, _, _, h => absurd h (Nat.not_lt_zero _)
  | n + 1, m + 1, os, [], _, _ => rfl
  | n + 1, m + 1, os, c :: r, h1, h2 => by
    simp only [List.length_cons] at h1 h2
    simp only [optRead]
    split
    · rfl
    · split
      · exact optRead_fuel n m os r (by omega) (by omega)
      · cases r with
        | nil => rfl
        | cons k r =>
          simp only [List.length_cons] at h1 h2
          simp only
          split
          · rfl
          · exact optRead_fuel n m _ _ (by rw [List.length_drop]; omega) (by rw [List.length_drop]; omega)
theorem optRead_cons (n : Nat) (os : List OptD) (c : UInt8) (r : List UInt8) : optRead (n + 1) os (c :: r) =
    (if c = 255 then some os
    else if c = 0 then optRead n os r
    else match r with
      | [] => none
      | k :: r => if r.length < k.toNat then none else optRead n (optAdd os c (r.take k.toNat)) (r.drop k.toNat)) := rfl
def optRd (os : List OptD) (l : List UInt8) : Option (List OptD) := optRead (l.length + 1) os l
theorem optRd_end (os : List OptD) (r : List UInt8) : optRd os (255 :: r) = some os := rfl
theorem optRd_pad (os : List OptD) (r : List UInt8) : optRd os (0 :: r) = optRd os r := by
  unfold optRd
  rw [List.length_cons, optRead_cons, if_neg (by decide), if_pos rfl]
theorem optRd_one (os : List OptD) (c : UInt8) (h1 : c ≠ 255) (h2 : c ≠ 0) : optRd os [c] = none := by
  unfold optRd
  rw [List.length_cons, optRead_cons, if_neg h1, if_neg h2]
theorem optRd_short (os : List OptD) (c k : UInt8) (r : List UInt8) (h1 : c ≠ 255) (h2 : c ≠ 0) (h : r.length < k.toNat) : optRd os (c :: k :: r) = none := by
  unfold optRd
  rw [List.length_cons, optRead_cons, if_neg h1, if_neg h2]
  exact if_pos h
theorem optRd_opt (os : List OptD) (c k : UInt8) (r : List UInt8) (h1 : c ≠ 255) (h2 : c ≠ 0) (h : ¬ r.length < k.toNat) :
    optRd os (c :: k :: r) = optRd (optAdd os c (r.take k.toNat)) (r.drop k.toNat) := by
  unfold optRd
  rw [List.length_cons, optRead_cons, if_neg h1, if_neg h2]
  refine (if_neg h).trans ?_
  exact optRead_fuel _ _ _ _ (by rw [List.length_drop, List.length_cons]; omega) (by omega)
structure DhcD where
  reply : Bool
  xid : Nat
  client : Nat
  yours : Nat
  next : Nat
  mac : Mac
  os : List OptD
def dhc0 : DhcD := ⟨false, 0, 0, 0, 0, (0, 0, 0, 0, 0, 0), []⟩
def overs (os : List OptD) (name file : List UInt8) : List OptD × Nat :=
  match optOf os 52 with
  | none => (os, 0)
  | some [x] =>
    if x.toNat < 1 ∨ 3 < x.toNat then ([], 2)
    else match (if x.toNat % 2 = 1 then optRd (os.filter (fun o => !(o.code == 52))) file else some (os.filter (fun o => !(o.code == 52)))) with
    | none => ([], 1)
    | some a => match (if 2 ≤ x.toNat then optRd a name else some a) with
      | none => ([], 1)
      | some a => if (optOf a 52).isSome then ([], 2) else (a, 0)
  | some _ => ([], 2)
def readDHCP (l : List UInt8) : DhcD × Nat :=
  if l.length < 240 then (dhc0, 1)
  else if ¬ ((sub l 0 1 = [1] ∨ sub l 0 1 = [2]) ∧ sub l 1 3 = [1, 6] ∧ sub l 236 240 = [99, 130, 83, 99]) then (dhc0, 2)
  else match optRd [] (l.drop 240) with
  | none => (dhc0, 1)
  | some os => match overs os (sub l 44 108) (sub l 108 236) with
    | (a, 0) => (⟨sub l 0 1 == [2], num (sub l 4 8), num (sub l 12 16), num (sub l 16 20), num (sub l 20 24), macOf (l.drop 28), a⟩, 0)
    | (_, e + 1) => (dhc0, e + 1)
end Go.Proofs.YtcbkaiakdhiloabGreatDoor
