/- Parts of the walk; written by programs, merged. -/
import Derived.Test.YtcbkaiakdhiloabGreatDoorRak
set_option linter.unusedSimpArgs false
set_option linter.unusedVariables false
set_option maxRecDepth 20000
set_option maxHeartbeats 8000000
namespace Go.Proofs.YtcbkaiakdhiloabGreatDoor
open Go.RowKit Go.Proofs
attribute [local go_sem] bs_size bs_append bs_extract
def zcU32 : Array Value := #[.int .u32 0]
theorem catchU32 (gx ge : Nat) (er : Int) (w : World) (hx : Bk w gx 33 zcU32) (he : Bk w ge 28 #[.int .i64 0]) (hne : gx ≠ ge) :
    CallsD Tryz.prog 291 #[.pointer (some ⟨gx, 0, none⟩), .pointer (some ⟨ge, 0, none⟩)] (.panicking (faultC er)) w fun r u' w' =>
      r = .returned (.tuple #[]) ∧ u' = .panicking [{ v := .iface 182 (.agg #[.int .i64 er]), recovered := true }] ∧ Bk w' gx 33 zcU32 ∧ Bk w' ge 28 #[.int .i64 er] ∧ Fr (twoB gx ge) w w' := by
  have hta := fault_is er
  have hbf := Bk.new w 182 #[.int .i64 er]
  have hx2 := hx.alloc (.cells #[.int .i64 er] 182)
  have he2 := he.alloc (.cells #[.int .i64 er] 182)
  have hf2 : Fr (twoB gx ge) w (w.alloc (.cells #[.int .i64 er] 182)) := (Fr.refl _ _).alloc _
  have hgx := hx.lt
  have hge := he.lt
  refine callsD_of_wpS Tryz.func291 rfl fun c₀ cs hu => ?_
  apply wpS_seq
  apply wpS_region
  simp [wpOpsS, go_sem, recoverD, hu, Tryz.ntmps291, Exit.thenS, faultC]
  refine wpS_of_wp ?_
  simp only [Array.replicate_succ, Array.replicate_zero, List.push_toArray, List.append_toArray, List.nil_append, List.cons_append, List.setIfInBounds_toArray, List.set_cons_zero, List.set_cons_succ]
  go_wp2_with fail
  unfold zcU32 at hx2
  generalize w.alloc (.cells #[.int .i64 er] 182) = w2 at *
  refine wp_region_ssa (by kernel_rfl) (by kernel_rfl) (by kernel_rfl)
    (fun u => ⟨#[.pointer (some ⟨gx, 0, none⟩), .pointer (some ⟨ge, 0, none⟩), undef, .pointer (some ⟨w.heap.size, 0, none⟩), .int .u32 0, undef,
      .iface 182 (.agg #[.int .i64 er]), undef, .bool false, .tuple #[.agg #[.int .i64 er], .bool true], .bool true, .agg #[.int .i64 er], u 0, u 1, u 2], []⟩)
    (fun j v _ => match j with | 0 => v = .int .u32 0 | 1 => v = .pointer (some ⟨w.heap.size, 0, none⟩) | 2 => v = .int .i64 er | _ => True)
    (fun L w3 => Bk w3 w.heap.size 182 #[.int .i64 er] ∧ Bk w3 gx 33 zcU32 ∧ Bk w3 ge 28 #[if L 4 then .int .i64 er else .int .i64 0] ∧ Fr (twoB gx ge) w w3) (fun _ => undef) ⟨hbf.drew, hx2.drew, he2.drew, hf2.drew⟩ ?_ ?_
  · rintro L u w3 i o ⟨g1, g3, g4, g5⟩ hΦ ho hL hd K hK
    match i, ho with
    | 0, ho =>
      simp at ho; subst ho
      clear hΦ hd
      go_simp
      exact hK _ _ rfl ⟨g1, g3, g4, g5⟩ (fun _ _ _ h => h)
    | 1, ho =>
      simp at ho; subst ho
      clear hΦ hd
      go_simp
      exact hK _ _ rfl ⟨g1, g3, g4, g5⟩ (fun _ _ _ h => h)
    | 2, ho =>
      simp at ho; subst ho
      have hu1 := hΦ 1 (hd ⟨1, .data⟩ (by simp) (by rfl))
      simp only at hu1
      have hc := g1.cells
      clear hΦ hd
      go_simp
      have hk := hK _ w3 rfl ⟨g1, g3, g4, g5⟩ (fun _ _ _ h => h)
      simp only [upd, hu1] at hk
      exact hk
    | 3, ho =>
      simp at ho; subst ho
      have hu0 := hΦ 0 (hd ⟨0, .data⟩ (by simp) (by rfl))
      simp only at hu0
      have hc := g3.cells
      have hz := g3.frees
      clear hΦ hd
      go_simp
      have h3 : Bk (w3.setCell ⟨gx, 0, none⟩ (.int .u32 0)) gx 33 zcU32 := by simpa [zcU32] using g3.set 0 (.int .u32 0)
      have hk := hK undef (w3.setCell ⟨gx, 0, none⟩ (.int .u32 0)) trivial ⟨g1.far (by simp; omega) _, h3, g4.far (by simp; omega) _, g5.setCell (p := ⟨gx, 0, none⟩) (fun _ => .inl rfl) _⟩ (fun _ _ _ h => h)
      simp only [upd, hu0] at hk
      exact hk
    | 4, ho =>
      simp at ho; subst ho
      have hu2 := hΦ 2 (hd ⟨2, .data⟩ (by simp) (by rfl))
      simp only [hL] at g4 hu2
      have hc := g4.cells
      have hz := g4.frees
      clear hΦ hd
      go_simp
      have h4 : Bk (w3.setCell ⟨ge, 0, none⟩ (.int .i64 er)) ge 28 #[.int .i64 er] := by simpa using g4.set 0 (.int .i64 er)
      have hk := hK undef (w3.setCell ⟨ge, 0, none⟩ (.int .i64 er)) trivial ⟨g1.far (by simp; omega) _, g3.far (by simpa using hne) _, h4, g5.setCell (p := ⟨ge, 0, none⟩) (fun _ => .inr rfl) _⟩ (fun _ _ _ h => h)
      simp only [upd, hu2] at hk
      exact hk
  · rintro u w3 hΦ L hall ⟨g1, g3, g4, g5⟩
    rw [hall 4 (by simp)] at g4
    exact ⟨rfl, _, rfl, .tuple #[], by simp [results, Tryz.results291], rfl, rfl, g3, by simpa using g4, g5⟩
theorem idleU32 (gx ge : Nat) (w : World) :
    CallsD Tryz.prog 291 #[.pointer (some ⟨gx, 0, none⟩), .pointer (some ⟨ge, 0, none⟩)] .returning w fun r u' w' =>
      r = .returned (.tuple #[]) ∧ u' = .returning ∧ w' = w := by
  refine callsD_of_wpS Tryz.func291 rfl fun c₀ cs hu => ?_
  apply wpS_seq
  apply wpS_region
  simp [wpOpsS, go_sem, recoverD, hu, Tryz.ntmps291, Exit.thenS]
  refine wpS_of_wp ?_
  simp only [Array.replicate_succ, Array.replicate_zero, List.push_toArray, List.append_toArray, List.nil_append, List.cons_append, List.setIfInBounds_toArray, List.set_cons_zero, List.set_cons_succ]
  go_wp2_with fail
  simp [Exit.inBlock, bodyPostS, results, Tryz.results291]
  cases c₀
  simp at hu
  simp [hu]
theorem readWU32 (l : List UInt8) (w : World) (S : Nat → Prop) (ok : Value → World → Prop) (bad : Int → Prop) (hS : ∀ k, w.heap.size ≤ k → k < w.heap.size + 2 → ¬ S k)
    (hok : ∀ x w1, ok x w1 → ∃ n : Int, x = .int .u32 n) (hst : ∀ x w1 w2, ok x w1 → Fr (twoB w.heap.size (w.heap.size + 1)) w1 w2 → ok x w2)
    (hby : ∀ (p : Nat) (w1 : World), p = w.heap.size + 2 → Rd w1 p l → Fr noB w w1 → Calls Tryz.prog 118 #[.pointer (some ⟨p, 0, none⟩)] w1 (byPostW S ok bad p w1)) :
    Calls Tryz.prog 284 #[.string (bs l), .func (.func 118) #[] #[]] w (readPostW (.int .u32 0) S ok bad w) := by
  have hmf : ∀ (fn : Fn) (first cap : Array Value) (w : World), (Instr.makeFunc fn first cap).run Tryz.prog w = .ok (.func fn first cap) w := fun _ _ _ _ => rfl
  go_enter_defers Tryz.func284, Tryz.ntmps284
  have Hby := Lib.hid hby
  have Hok := Lib.hid hok
  have Hst := Lib.hid hst
  have HS := Lib.hid hS
  clear hby hok hst hS
  go_wp2_with fail
  have hx0 := ((Bk.new w 33 zcU32).alloc (.cells #[.int .i64 0] 28)).alloc (.cells #[.string (bs l)] 184)
  have he0 := (Bk.new (w.alloc (.cells zcU32 33)) 28 #[.int .i64 0]).alloc (.cells #[.string (bs l)] 184)
  have hr0 := Bk.new ((w.alloc (.cells zcU32 33)).alloc (.cells #[.int .i64 0] 28)) 184 #[.string (bs l)]
  rw [show ((w.alloc (.cells zcU32 33)).alloc (.cells #[.int .i64 0] 28)).heap.size = w.heap.size + 1 + 1 by simp] at hr0
  rw [show (w.alloc (.cells zcU32 33)).heap.size = w.heap.size + 1 by simp] at he0
  have hf0 : Fr noB w (((w.alloc (.cells zcU32 33)).alloc (.cells #[.int .i64 0] 28)).alloc (.cells #[.string (bs l)] 184)) := (((Fr.refl _ _).alloc _).alloc _).alloc _
  unfold zcU32 at hx0 he0 hr0 hf0
  generalize ((w.alloc (.cells #[.int .u32 0] 33)).alloc (.cells #[.int .i64 0] 28)).alloc (.cells #[.string (bs l)] 184) = w1 at *
  refine (Hby.out _ w1 (by omega) hr0 hf0).mono ?_
  have HX : ¬ orB (w.heap.size + 1 + 1) S w.heap.size := by rintro (h | h); omega; exact HS.out _ (by omega) (by omega) h
  have HE : ¬ orB (w.heap.size + 1 + 1) S (w.heap.size + 1) := by rintro (h | h); omega; exact HS.out _ (by omega) (by omega) h
  rintro e w2 ⟨⟨x0, hx, rfl⟩ | ⟨er, hbad, rfl⟩, hf1⟩
  · have hx1 := hx0.keep hf1 HX
    have he1 := he0.keep hf1 HE
    obtain ⟨n, rfl⟩ := Hok.out x0 w2 hx
    have hc1 := hx1.cells
    have hz1 := hx1.frees
    have hc2 := he1.cells
    have hz2 := he1.frees
    go_wp2_with fail
    have hx4 : Bk ((w2.setCell ⟨w.heap.size, 0, none⟩ (.int .u32 n)).setCell ⟨w.heap.size + 1, 0, none⟩ (.int .i64 0)) w.heap.size 33 #[.int .u32 n] := by
      have h := hx1.set 0 (.int .u32 n)
      simp at h
      exact Bk.far h (p := ⟨w.heap.size + 1, 0, none⟩) (by simp) _
    have hb3 : Bk ((w2.setCell ⟨w.heap.size, 0, none⟩ (.int .u32 n)).setCell ⟨w.heap.size + 1, 0, none⟩ (.int .i64 0)) (w.heap.size + 1) 28 #[.int .i64 0] := by
      have h := (he1.far (p := ⟨w.heap.size, 0, none⟩) (by simp) (.int .u32 n)).set 0 (.int .i64 0)
      simpa using h
    have hst4 : Fr (twoB w.heap.size (w.heap.size + 1)) w2 ((w2.setCell ⟨w.heap.size, 0, none⟩ (.int .u32 n)).setCell ⟨w.heap.size + 1, 0, none⟩ (.int .i64 0)) :=
      ((Fr.refl _ _).setCell (p := ⟨w.heap.size, 0, none⟩) (fun _ => .inl rfl) _).setCell (p := ⟨w.heap.size + 1, 0, none⟩) (fun _ => .inr rfl) _
    have hfin : Fr S w ((w2.setCell ⟨w.heap.size, 0, none⟩ (.int .u32 n)).setCell ⟨w.heap.size + 1, 0, none⟩ (.int .i64 0)) := by
      refine (((hf0.of_no S).trans' hf1 ?_).setCell ?_ _).setCell ?_ _
      · rintro b hb (e | e); omega; exact e
      · intro e; exact absurd e (by simp)
      · intro e; exact absurd e (by simp)
    generalize (w2.setCell ⟨w.heap.size, 0, none⟩ (.int .u32 n)).setCell ⟨w.heap.size + 1, 0, none⟩ (.int .i64 0) = w4 at *
    refine leaves_cons (f := 291) (args := #[.pointer (some ⟨w.heap.size, 0, none⟩), .pointer (some ⟨w.heap.size + 1, 0, none⟩)]) (by simp) (by simp [go_sem]) ?_
    refine (idleU32 _ _ _).mono ?_
    rintro e u' w5 ⟨rfl, rfl, rfl⟩
    refine ⟨.tuple #[.int .u32 n, .int .i64 0], ?_, ⟨.inl ⟨_, Hst.out _ _ _ hx hst4, rfl⟩, hfin⟩⟩
    exact results_int_int Tryz.results284 _ w5 w.heap.size (w.heap.size + 1) _ _ n 0 _ _ rfl rfl hx4 hb3 Tryz.underlying33 Tryz.underlying28
  · have hx1 := hx0.keep hf1 HX
    have he1 := he0.keep hf1 HE
    have hfin : Fr S w w2 := (hf0.of_no S).trans' hf1 (by rintro b hb (e | e); omega; exact e)
    refine leaves_cons (f := 291) (args := #[.pointer (some ⟨w.heap.size, 0, none⟩), .pointer (some ⟨w.heap.size + 1, 0, none⟩)]) (by simp) (by simp [go_sem]) ?_
    refine (catchU32 w.heap.size (w.heap.size + 1) er w2 hx1 he1 (by omega)).mono ?_
    rintro e u' w5 ⟨rfl, rfl, hx5, he5, hf5⟩
    refine ⟨.tuple #[.int .u32 0, .int .i64 er], ?_, ⟨.inr ⟨er, hbad, rfl⟩, hfin.trans' hf5 ?_⟩⟩
    · exact results_int_int Tryz.results284 _ w5 w.heap.size (w.heap.size + 1) _ _ 0 er _ _ rfl rfl hx5 he5 Tryz.underlying33 Tryz.underlying28
    · intro b hb e; unfold twoB at e; omega
end Go.Proofs.YtcbkaiakdhiloabGreatDoor
namespace Go.Proofs.YtcbkaiakdhiloabGreatDoor
open Go.RowKit Go.Proofs
attribute [local go_sem] bs_size bs_append bs_extract
theorem take_drop_sub (l : List UInt8) (i n : Nat) : (l.drop i).take n = sub l i (i + n) := by unfold sub; rw [List.drop_take, Nat.add_sub_cancel_left]
theorem drop_drop_at (l : List UInt8) (i n : Nat) : (l.drop i).drop n = l.drop (i + n) := by rw [List.drop_drop]
section
variable (i p : Nat) (l : List UInt8) (w : World) (hR : Rd w p (l.drop i)) (hl : l.length ≤ 9223372036854775807)
include hR hl
theorem aTake (n : Nat) (h : i + n ≤ l.length) :
    Calls Tryz.prog 74 #[.pointer (some ⟨p, 0, none⟩), .int .i64 n] w fun e w' => e = .returned (.string (bs (sub l i (i + n)))) ∧ Rd w' p (l.drop (i + n)) ∧ Fr (oneB p) w w' :=
  (rTake n p (l.drop i) w hR (by omega) (by rw [List.length_drop]; omega)).mono fun e w' h' => by
    rw [Took, List.length_drop, take_drop_sub, drop_drop_at] at h'
    rcases h' with ⟨_, h'⟩ | ⟨h', _⟩
    · exact h'
    · omega
theorem aU8 (h : i + 1 ≤ l.length) :
    Calls Tryz.prog 72 #[.pointer (some ⟨p, 0, none⟩)] w fun e w' => e = .returned (.int .u8 (num (sub l i (i + 1)) : Int)) ∧ Rd w' p (l.drop (i + 1)) ∧ Fr (oneB p) w w' :=
  (rU8 p (l.drop i) w hR (by rw [List.length_drop]; omega)).mono fun e w' h' => by
    rw [Took, List.length_drop, take_drop_sub, drop_drop_at] at h'
    rcases h' with ⟨_, h'⟩ | ⟨h', _⟩
    · exact h'
    · omega
theorem aIP (h : i + 4 ≤ l.length) :
    Calls Tryz.prog 73 #[.pointer (some ⟨p, 0, none⟩)] w fun e w' => e = .returned (.int .u32 (num (sub l i (i + 4)) : Int)) ∧ Rd w' p (l.drop (i + 4)) ∧ Fr (oneB p) w w' :=
  (rIP p (l.drop i) w hR (by rw [List.length_drop]; omega)).mono fun e w' h' => by
    rw [Took, List.length_drop, take_drop_sub, drop_drop_at] at h'
    rcases h' with ⟨_, h'⟩ | ⟨h', _⟩
    · exact h'
    · omega
theorem aMAC (h : i + 6 ≤ l.length) :
    Calls Tryz.prog 62 #[.pointer (some ⟨p, 0, none⟩)] w fun e w' => e = .returned (macV (macOf (l.drop i))) ∧ Rd w' p (l.drop (i + 6)) ∧ Fr (oneB p) w w' :=
  (rMAC p (l.drop i) w hR (by rw [List.length_drop]; omega)).mono fun e w' h' => by
    rw [Took, List.length_drop, drop_drop_at] at h'
    rcases h' with ⟨_, h'⟩ | ⟨h', _⟩
    · exact h'
    · omega
end
theorem rU32 (p : Nat) (l : List UInt8) (w : World) (hR : Rd w p l) (hl : l.length ≤ 9223372036854775807) :
    Calls Tryz.prog 118 #[.pointer (some ⟨p, 0, none⟩)] w (Took p l 4 w (.int .u32 (num (l.take 4)))) := by
  go_enter Tryz.func118, Tryz.ntmps118
  go_wp2_with fail
  refine (rNum 4 p l _ hR (by omega) hl).mono ?_
  rintro e w1 (⟨hle, rfl, hR1, hf1⟩ | ⟨hlt, rfl, hf1⟩)
  · generalize num (l.take 4) = x at *
    go_wp2_with fail
    go_ret
    exact .inl ⟨hle, rfl, hR1, hf1⟩
  · exact ⟨rfl, .inr ⟨hlt, rfl, hf1⟩⟩
theorem aU32 (i p : Nat) (l : List UInt8) (w : World) (hR : Rd w p (l.drop i)) (hl : l.length ≤ 9223372036854775807) (h : i + 4 ≤ l.length) :
    Calls Tryz.prog 118 #[.pointer (some ⟨p, 0, none⟩)] w fun e w' => e = .returned (.int .u32 (num (sub l i (i + 4)) : Int)) ∧ Rd w' p (l.drop (i + 4)) ∧ Fr (oneB p) w w' :=
  (rU32 p (l.drop i) w hR (by rw [List.length_drop]; omega)).mono fun e w' h' => by
    rw [Took, List.length_drop, take_drop_sub, drop_drop_at] at h'
    rcases h' with ⟨_, h'⟩ | ⟨h', _⟩
    · exact h'
    · omega
end Go.Proofs.YtcbkaiakdhiloabGreatDoor
namespace Go.Proofs.YtcbkaiakdhiloabGreatDoor
open Go.RowKit Go.Proofs
attribute [local go_sem] bs_size bs_append bs_extract bs_toList
theorem readU32 (l : List UInt8) (w : World) (hl : 4 ≤ l.length) (hl2 : l.length ≤ 9223372036854775807) :
    Calls Tryz.prog 284 #[.string (bs l), .func (.func 118) #[] #[]] w fun e w' => e = .returned (.tuple #[.int .u32 (num (l.take 4) : Int), .int .i64 0]) ∧ Fr noB w w' := by
  refine (readWU32 l w noB (fun x _ => x = .int .u32 (num (l.take 4) : Int)) (fun _ => False) (fun _ _ _ x => x) (fun x _ h => ⟨_, h⟩) (fun x _ _ h _ => h) ?_).mono ?_
  · intro p w1 hp hR hf
    refine (rU32 p l w1 hR hl2).mono ?_
    rintro e w2 (⟨_, rfl, _, hf2⟩ | ⟨hlt, _, _⟩)
    · exact ⟨.inl ⟨_, rfl, rfl⟩, hf2.mono fun k _ h => .inl h⟩
    · omega
  · rintro e w' ⟨⟨x, rfl, rfl⟩ | ⟨_, h, _⟩, hf⟩
    · exact ⟨rfl, hf⟩
    · exact h.elim
def numO (os : List OptD) (code : UInt8) (more : Bool) : Option Nat := match optOf os code with
  | some d => if d.length = 4 ∨ (more = true ∧ 4 ≤ d.length) then some (num (d.take 4)) else none
  | none => none
theorem optOf_len : ∀ (os : List OptD) (c : UInt8) (dd : List UInt8), optOf os c = some dd → dd.length ≤ wtO os
  | [], _, _, h => by cases h
  | o :: r, c, dd, h => by
    unfold optOf at h
    simp only [wtO]
    split at h
    · cases h; omega
    · have := optOf_len r c dd h; omega
theorem bootNumber (d : DhcD) (A : Option Addr) (cap n : Nat) (code : UInt8) (more : Bool) (w : World) (hn : d.os.length = n) (hA : SlR w noB 2 A n (optC d.os)) (hwt : wtO d.os ≤ 1099511627776) :
    Calls Tryz.prog 266 #[.agg #[.bool d.reply, .int .u32 (d.xid : Int), .int .u32 (d.client : Int), .int .u32 (d.yours : Int), .int .u32 (d.next : Int), .int .u8 (d.mac.1.toNat : Int), .int .u8 (d.mac.2.1.toNat : Int), .int .u8 (d.mac.2.2.1.toNat : Int), .int .u8 (d.mac.2.2.2.1.toNat : Int), .int .u8 (d.mac.2.2.2.2.1.toNat : Int), .int .u8 (d.mac.2.2.2.2.2.toNat : Int), .slice A n cap], .int .u8 (code.toNat : Int), .bool more] w fun e w' => e = .returned (.tuple #[.int .u32 (((numO d.os code more).getD 0 : Nat) : Int), .bool (numO d.os code more).isSome]) ∧ Fr noB w w' := by
  have hpa := (Bk.new w 75 #[.bool d.reply, .int .u32 (d.xid : Int), .int .u32 (d.client : Int), .int .u32 (d.yours : Int), .int .u32 (d.next : Int), .int .u8 (d.mac.1.toNat : Int), .int .u8 (d.mac.2.1.toNat : Int), .int .u8 (d.mac.2.2.1.toNat : Int), .int .u8 (d.mac.2.2.2.1.toNat : Int), .int .u8 (d.mac.2.2.2.2.1.toNat : Int), .int .u8 (d.mac.2.2.2.2.2.toNat : Int), .slice A n cap]).cells
  have hf0 : Fr noB w (w.alloc (.cells #[.bool d.reply, .int .u32 (d.xid : Int), .int .u32 (d.client : Int), .int .u32 (d.yours : Int), .int .u32 (d.next : Int), .int .u8 (d.mac.1.toNat : Int), .int .u8 (d.mac.2.1.toNat : Int), .int .u8 (d.mac.2.2.1.toNat : Int), .int .u8 (d.mac.2.2.2.1.toNat : Int), .int .u8 (d.mac.2.2.2.2.1.toNat : Int), .int .u8 (d.mac.2.2.2.2.2.toNat : Int), .slice A n cap] 75)) := (Fr.refl _ _).alloc _
  have hnl : n ≤ 1099511627776 := by have := wtO_len d.os; omega
  have hcall := dhcOf noB A n cap d.os code _ (hA.keep hf0) (by omega)
  have Hcall := Lib.hid hcall
  have Hn := Lib.hid hn
  clear hcall hn
  go_enter Tryz.func266, Tryz.ntmps266
  go_wp2_with fail
  refine Hcall.out.mono ?_
  rintro e w2 ⟨rfl, f2⟩
  have hF2 := hf0.none f2
  clear hpa hf0 f2 Hcall
  cases ho : optOf d.os code with
  | none =>
    have hnu : numO d.os code more = none := by unfold numO; rw [ho]
    have Hh := Lib.hid (And.intro ho hnu)
    clear ho hnu
    simp only [Option.getD_none, Option.isSome_none]
    go_wp2_with fail
    go_ret2
    exact ⟨by rw [Hh.out.2]; rfl, hF2⟩
  | some dd =>
    have hdl := optOf_len d.os code dd ho
    simp only [Option.getD_some, Option.isSome_some]
    have hdl2 : dd.length ≤ 1099511627776 := by omega
    by_cases h4 : dd.length = 4
    · have hnu : numO d.os code more = some (num (dd.take 4)) := by unfold numO; rw [ho]; exact if_pos (.inl h4)
      have b4 : ((dd.length : Int) != 4) = false := by simp; omega
      have hr := fun w => readU32 dd w (by omega) (by omega)
      generalize num (dd.take 4) = x at *
      have Hr := Lib.hid hr
      have Hh := Lib.hid (And.intro ho (And.intro hnu h4))
      clear ho hnu h4 hr hwt
      go_wp2_with fail
      refine (Hr.out _).mono ?_
      rintro e w3 ⟨rfl, f3⟩
      go_wp2_with fail
      go_ret2
      exact ⟨by rw [Hh.out.2.1]; rfl, hF2.none f3⟩
    · have b4 : ((dd.length : Int) != 4) = true := by simp; omega
      cases more with
      | false =>
        have hnu : numO d.os code false = none := by unfold numO; rw [ho]; exact if_neg (by rintro (x | ⟨x, _⟩); exact h4 x; cases x)
        have Hh := Lib.hid (And.intro ho (And.intro hnu h4))
        clear ho hnu h4 hwt
        go_wp2_with fail
        go_ret2
        exact ⟨by rw [Hh.out.2.1]; rfl, hF2⟩
      | true =>
        by_cases h5 : 4 ≤ dd.length
        · have hnu : numO d.os code true = some (num (dd.take 4)) := by unfold numO; rw [ho]; exact if_pos (.inr ⟨rfl, h5⟩)
          have b5 : ((dd.length : Int) < 4) = False := by simp; omega
          have hr := fun w => readU32 dd w (by omega) (by omega)
          generalize num (dd.take 4) = x at *
          have Hr := Lib.hid hr
          have Hh := Lib.hid (And.intro ho (And.intro hnu (And.intro h4 h5)))
          clear ho hnu h4 hr hwt h5
          go_wp2_with fail
          refine (Hr.out _).mono ?_
          rintro e w3 ⟨rfl, f3⟩
          go_wp2_with fail
          go_ret2
          exact ⟨by rw [Hh.out.2.1]; rfl, hF2.none f3⟩
        · have hnu : numO d.os code true = none := by unfold numO; rw [ho]; exact if_neg (by rintro (x | ⟨_, x⟩); exact h4 x; exact h5 x)
          have b5 : ((dd.length : Int) < 4) = True := by simp; omega
          have Hh := Lib.hid (And.intro ho (And.intro hnu (And.intro h4 h5)))
          clear ho hnu h4 hwt h5
          go_wp2_with fail
          go_ret2
          exact ⟨by rw [Hh.out.2.1]; rfl, hF2⟩
end Go.Proofs.YtcbkaiakdhiloabGreatDoor
namespace Go.Proofs.YtcbkaiakdhiloabGreatDoor
open Go.RowKit Go.Proofs
attribute [local go_sem] bs_size bs_append bs_extract bs_toList
theorem num_ltA : ∀ (l : List UInt8) (a : Nat), l.foldl (fun n b => 256 * n + b.toNat) a < (a + 1) * 256 ^ l.length
  | [], a => by simp
  | b :: l, a => by
    have h := num_ltA l (256 * a + b.toNat)
    have hb := b.toNat_lt
    have h2 : (256 * a + b.toNat + 1) * 256 ^ l.length ≤ ((a + 1) * 256) * 256 ^ l.length := Nat.mul_le_mul_right _ (by omega)
    rw [List.foldl_cons, List.length_cons, Nat.pow_succ, Nat.mul_comm (256 ^ l.length) 256, ← Nat.mul_assoc]
    omega
theorem num_lt (l : List UInt8) : num l < 256 ^ l.length := by
  have := num_ltA l 0
  unfold num; omega
end Go.Proofs.YtcbkaiakdhiloabGreatDoor
namespace Go.Proofs.YtcbkaiakdhiloabGreatDoor
open Go.RowKit Go.Proofs
attribute [local go_sem] bs_size bs_append bs_extract bs_toList
structure DhAt (w : World) (L : Lay) (d : DhcD) (A : Option Addr) (cap n g : Nat) : Prop where
  bk : Bk w g 75 #[.bool d.reply, .int .u32 (d.xid : Int), .int .u32 (d.client : Int), .int .u32 (d.yours : Int), .int .u32 (d.next : Int), .int .u8 (d.mac.1.toNat : Int), .int .u8 (d.mac.2.1.toNat : Int), .int .u8 (d.mac.2.2.1.toNat : Int), .int .u8 (d.mac.2.2.2.1.toNat : Int), .int .u8 (d.mac.2.2.2.2.1.toNat : Int), .int .u8 (d.mac.2.2.2.2.2.toNat : Int), .slice A n cap]
  sl : SlR w (own' L) 2 A n (optC d.os)
  ng : ¬ own' L g
  hn : d.os.length = n
  wt : wtO d.os ≤ 1099511627776
  yours : d.yours < 4294967296
  next : d.next < 4294967296
theorem DhAt.keep {w w' : World} {L : Lay} {d : DhcD} {A : Option Addr} {cap n g : Nat} (h : DhAt w L d A cap n g) (hf : Fr (own' L) w w') : DhAt w' L d A cap n g :=
  ⟨h.bk.keep hf h.ng, h.sl.keep hf, h.ng, h.hn, h.wt, h.yours, h.next⟩
theorem DhAt.none {w w' : World} {L : Lay} {d : DhcD} {A : Option Addr} {cap n g : Nat} (h : DhAt w L d A cap n g) (hf : Fr noB w w') : DhAt w' L d A cap n g := h.keep (hf.of_no _)
def akF (u : Nat → Value) : Act := ⟨#[u 0, u 1, u 2, u 3, u 4, u 5, u 6, u 7, u 8, u 9, u 10, u 11, u 12, u 13, u 14, u 15, u 16, u 17, u 18, u 19, u 20, u 21, u 22, u 23, u 24, u 25, u 26, u 27, u 28, u 29, u 30, u 31, u 32, u 33, u 34, u 35, u 36, u 37, u 38, u 39, u 40, u 41, u 42, u 43, u 44, u 45, u 46, u 47, u 48, u 49, u 50, u 51, u 52, u 53, u 54, u 55, u 56, u 57, u 58, u 59, u 60, u 61, u 62, u 63, u 64, u 65, u 66, u 67, u 68, u 69, u 70, u 71, u 72, u 73, u 74, u 75, u 76, u 77, u 78, u 79, u 80, u 81, u 82, u 83, u 84, u 85, u 86, u 87, u 88, u 89, u 90, u 91, u 92, u 93, u 94, u 95, u 96, u 97, u 98, u 99, u 100, u 101, u 102, u 103, u 104, u 105, u 106, u 107, u 108, u 109, u 110, u 111, u 112, u 113, u 114, u 115, u 116, u 117, u 118, u 119, u 120, u 121, u 122, u 123, u 124, u 125, u 126, u 127, u 128, u 129, u 130, u 131, u 132, u 133, u 134, u 135, u 136, u 137, u 138, u 139, u 140, u 141, u 142, u 143, u 144, u 145], []⟩
set_option maxRecDepth 100000 in
theorem akF_eq (u : Nat → Value) : akF u = frN 146 u := rfl
theorem akF_of {a : Act} (h : Sz 146 a) : a = akF (sl a) := h.eq.trans (akF_eq _).symm
theorem akR0 (L : Lay) (s : St) (d : DhcD) (A : Option Addr) (cap n g : Nat) (a : Act) (w : World) (K : Exit → Act → World → Prop) (hs : Sz 146 a)
    (h1 : sl a 1 = .agg #[.bool d.reply, .int .u32 (d.xid : Int), .int .u32 (d.client : Int), .int .u32 (d.yours : Int), .int .u32 (d.next : Int), .int .u8 (d.mac.1.toNat : Int), .int .u8 (d.mac.2.1.toNat : Int), .int .u8 (d.mac.2.2.1.toNat : Int), .int .u8 (d.mac.2.2.2.1.toNat : Int), .int .u8 (d.mac.2.2.2.2.1.toNat : Int), .int .u8 (d.mac.2.2.2.2.2.toNat : Int), .slice A n cap]) 
    (hK : ∀ a' w', Sz 146 a' → Kp [0, 1, 2, 6, 7, 8, 9, 10, 11, 12, 13] a a' → sl a' 4 = .pointer (some ⟨w.heap.size, 0, none⟩) → Fr noB w w' → Bk w' w.heap.size 75 #[.bool d.reply, .int .u32 (d.xid : Int), .int .u32 (d.client : Int), .int .u32 (d.yours : Int), .int .u32 (d.next : Int), .int .u8 (d.mac.1.toNat : Int), .int .u8 (d.mac.2.1.toNat : Int), .int .u8 (d.mac.2.2.1.toNat : Int), .int .u8 (d.mac.2.2.2.1.toNat : Int), .int .u8 (d.mac.2.2.2.2.1.toNat : Int), .int .u8 (d.mac.2.2.2.2.2.toNat : Int), .slice A n cap] → K .normal a' w') :
    (regionOf Tryz.f267 0).wp Tryz.prog K a w := by
  unfold Kp at hK; rw [akF_of hs]; clear hs; generalize sl a = u at *; clear a; have HK := Lib.hid hK; clear hK; conv => arg 2; whnf
  simp only [akF, h1]
  go_wp2_with fail
  exact HK.out _ _  ⟨rfl, rfl⟩ (Kc rfl (Kc h1.symm (Kc rfl (Kc rfl (Kc rfl (Kc rfl (Kc rfl (Kc rfl (Kc rfl (Kc rfl (Kc rfl (Kn _ _)))))))))))) (rfl) ((Fr.refl _ _).alloc _) (Bk.new _ _ _)
theorem akR1 (L : Lay) (s : St) (a : Act) (w : World) (K : Exit → Act → World → Prop) (hs : Sz 146 a)
    (h0 : sl a 0 = .pointer (some ⟨L.p, 0, none⟩)) (h : BootAt w L s)
    (hK : ∀ a' w', Sz 146 a' → Kp [0, 1, 2, 4, 7, 8, 9, 10, 11, 12, 13] a a' → sl a' 6 = .pointer (some ⟨L.p, 21, none⟩) → w' = w → K .normal a' w') :
    (regionOf Tryz.f267 1).wp Tryz.prog K a w := by
  unfold Kp at hK; rw [akF_of hs]; clear hs; generalize sl a = u at *; clear a; have HK := Lib.hid hK; clear hK; conv => arg 2; whnf
  have c21 := h.g21
  simp only [akF, h0]
  go_wp2_with fail
  exact HK.out _ _  ⟨rfl, rfl⟩ (Kc h0.symm (Kc rfl (Kc rfl (Kc rfl (Kc rfl (Kc rfl (Kc rfl (Kc rfl (Kc rfl (Kc rfl (Kc rfl (Kn _ _)))))))))))) (rfl) rfl
theorem akR2 (L : Lay) (s : St) (d : DhcD) (A : Option Addr) (cap n g : Nat) (a : Act) (w : World) (K : Exit → Act → World → Prop) (hs : Sz 146 a)
    (h4 : sl a 4 = .pointer (some ⟨g, 0, none⟩)) (hD : DhAt w L d A cap n g)
    (hK : ∀ a' w', Sz 146 a' → Kp [0, 1, 2, 4, 6, 9, 10, 11, 12, 13] a a' → sl a' 7 = .int .u32 (((numO d.os 51 false).getD 0 : Nat) : Int) → sl a' 8 = .bool (numO d.os 51 false).isSome → Fr noB w w' → K .normal a' w') :
    (regionOf Tryz.f267 2).wp Tryz.prog K a w := by
  unfold Kp at hK; rw [akF_of hs]; clear hs; generalize sl a = u at *; clear a; have HK := Lib.hid hK; clear hK; conv => arg 2; whnf
  simp only [akF, h4]
  have hGc := hD.bk.cells
  have hcall := bootNumber d A cap n 51 false w hD.hn (hD.sl.sub fun b _ x => x.elim) hD.wt
  have Hcall := Lib.hid hcall
  clear hcall
  go_wp2_with fail
  refine Hcall.out.mono ?_
  rintro e w1 ⟨rfl, hf1⟩
  go_wp2_with fail
  exact HK.out _ _  ⟨rfl, rfl⟩ (Kc rfl (Kc rfl (Kc rfl (Kc h4.symm (Kc rfl (Kc rfl (Kc rfl (Kc rfl (Kc rfl (Kc rfl (Kn _ _))))))))))) (rfl) (rfl) hf1
theorem akR3d (L : Lay) (s : St) (a : Act) (w : World) (K : Exit → Act → World → Prop) (hs : Sz 146 a)
    (h6 : sl a 6 = .pointer (some ⟨L.p, 21, none⟩)) (h : BootAt w L s) (q2 : ((s.lease : Int) == 2) = false) (q5 : ((s.lease : Int) == 5) = false) (q6 : ((s.lease : Int) == 6) = false)
    (hK : ∀ a' w', Sz 146 a' → Kp [0, 1, 2, 4, 6, 7, 8, 10, 11, 12, 13] a a' → sl a' 9 = .bool false → w' = w → K .normal a' w') :
    (regionOf Tryz.f267 3).wp Tryz.prog K a w := by
  unfold Kp at hK; rw [akF_of hs]; clear hs; generalize sl a = u at *; clear a; have HK := Lib.hid hK; clear hK; conv => arg 2; whnf
  simp only [akF, h6]
  have c21 := h.g21
  go_wp2_with fail
  exact HK.out _ _  ⟨rfl, rfl⟩ (Kc rfl (Kc rfl (Kc rfl (Kc rfl (Kc h6.symm (Kc rfl (Kc rfl (Kc rfl (Kc rfl (Kc rfl (Kc rfl (Kn _ _)))))))))))) (rfl) rfl
theorem akR4a (L : Lay) (s : St) (d : DhcD) (A : Option Addr) (cap n g : Nat) (fm time : Nat) (ok : Bool) (a : Act) (w : World) (K : Exit → Act → World → Prop) (hs : Sz 146 a)
    (h0 : sl a 0 = .pointer (some ⟨L.p, 0, none⟩)) (h4 : sl a 4 = .pointer (some ⟨g, 0, none⟩)) (h6 : sl a 6 = .pointer (some ⟨L.p, 21, none⟩)) (h2 : sl a 2 = .int .u32 (fm : Int)) (h7 : sl a 7 = .int .u32 (time : Int)) (h8 : sl a 8 = .bool ok) (h9 : sl a 9 = .bool false) (h : BootAt w L s) (hD : DhAt w L d A cap n g) 
    (hK : ∀ a' w', Sz 146 a' → Kp [0, 1, 2, 4, 6, 7, 8, 9, 10, 11, 12, 13] a a' → sl a' 74 = .bool true → BootAt w' L s → DhAt w' L d A cap n g → Fr noB w w' → K .normal a' w') :
    (regionOf Tryz.f267 4).wp Tryz.prog K a w := by
  unfold Kp at hK; rw [akF_of hs]; clear hs; generalize sl a = u at *; clear a; have HK := Lib.hid hK; clear hK; conv => arg 2; whnf
  simp only [akF, h0, h4, h6, h2, h7, h8, h9]
  refine wp_region_pls (by kernel_rfl) (fun w' => BootAt w' L s ∧ DhAt w' L d A cap n g ∧ Fr noB w w') [] (.p 0 (.p 1 (.p 2 (.p 3 (.p 4 (.p 5 (.p 6 (.p 7 (.p 8 (.p 9 (.p 10 (.p 11 (.p 13 (.p 14 (.p 15 (.q 12 (.q 16 (.p 17 (.p 18 (.p 19 (.p 20 (.p 21 (.p 22 (.p 23 (.q 24 (.p 25 (.p 26 (.p 27 (.p 28 (.p 29 (.q 30 (.p 31 (.p 32 (.p 33 .nil)))))))))))))))))))))))))))))))))) (by kernel_rfl) (⟨h.drew, hD.none ((Fr.refl _ _).drew), (Fr.refl _ _).drew⟩) ?_
  intro ops Q' hO hQ' wr1 hR1
  iterate 3 (refine pl_p0 hO rfl rfl ?_ (fun w' => ?_) ?_; rotate_left 1; (focus (go_simp; ((try with_reducible rfl); done))); simp only [Act.put, List.setIfInBounds_toArray, List.set_cons_zero, List.set_cons_succ])
  iterate 2 (refine pl_pn hO rfl rfl rfl rfl ?_; simp only [Act.put, List.setIfInBounds_toArray, List.set_cons_zero, List.set_cons_succ])
  iterate 2 (refine pl_p0 hO rfl rfl ?_ (fun w' => ?_) ?_; rotate_left 1; (focus (go_simp; ((try with_reducible rfl); done))); simp only [Act.put, List.setIfInBounds_toArray, List.set_cons_zero, List.set_cons_succ])
  iterate 2 (refine pl_pn hO rfl rfl rfl rfl ?_; simp only [Act.put, List.setIfInBounds_toArray, List.set_cons_zero, List.set_cons_succ])
  iterate 2 (refine pl_p0 hO rfl rfl ?_ (fun w' => ?_) ?_; rotate_left 1; (focus (go_simp; ((try with_reducible rfl); done))); simp only [Act.put, List.setIfInBounds_toArray, List.set_cons_zero, List.set_cons_succ])
  iterate 4 (refine pl_pn hO rfl rfl rfl rfl ?_; simp only [Act.put, List.setIfInBounds_toArray, List.set_cons_zero, List.set_cons_succ])
  iterate 2 (refine pl_qn hO rfl rfl rfl rfl ?_; simp only [Act.put, List.setIfInBounds_toArray, List.set_cons_zero, List.set_cons_succ])
  refine pl_pn hO rfl rfl rfl rfl ?_; simp only [Act.put, List.setIfInBounds_toArray, List.set_cons_zero, List.set_cons_succ]
  iterate 2 (refine pl_p0 hO rfl rfl ?_ (fun w' => ?_) ?_; rotate_left 1; (focus (go_simp; ((try with_reducible rfl); done))); simp only [Act.put, List.setIfInBounds_toArray, List.set_cons_zero, List.set_cons_succ])
  iterate 4 (refine pl_pn hO rfl rfl rfl rfl ?_; simp only [Act.put, List.setIfInBounds_toArray, List.set_cons_zero, List.set_cons_succ])
  refine pl_qn hO rfl rfl rfl rfl ?_; simp only [Act.put, List.setIfInBounds_toArray, List.set_cons_zero, List.set_cons_succ]
  iterate 2 (refine pl_pn hO rfl rfl rfl rfl ?_; simp only [Act.put, List.setIfInBounds_toArray, List.set_cons_zero, List.set_cons_succ])
  iterate 3 (refine pl_pu hO rfl rfl rfl rfl ?_; simp only [Act.put, List.setIfInBounds_toArray, List.set_cons_zero, List.set_cons_succ])
  refine pl_qu hO rfl rfl rfl rfl ?_; simp only [Act.put, List.setIfInBounds_toArray, List.set_cons_zero, List.set_cons_succ]
  refine pl_pu hO rfl rfl rfl rfl ?_; simp only [Act.put, List.setIfInBounds_toArray, List.set_cons_zero, List.set_cons_succ]
  refine pl_pn hO rfl rfl rfl rfl ?_; simp only [Act.put, List.setIfInBounds_toArray, List.set_cons_zero, List.set_cons_succ]
  refine pl_p0 hO rfl rfl ?_ (fun w' => ?_) ?_; rotate_left 1; (focus (go_simp; ((try with_reducible rfl); done))); simp only [Act.put, List.setIfInBounds_toArray, List.set_cons_zero, List.set_cons_succ]
  refine pl_nil (hQ' _ _ ?_)
  exact HK.out _ _  ⟨rfl, rfl⟩ (Kc h0.symm (Kc rfl (Kc h2.symm (Kc h4.symm (Kc h6.symm (Kc h7.symm (Kc h8.symm (Kc h9.symm (Kc rfl (Kc rfl (Kc rfl (Kc rfl (Kn _ _))))))))))))) (rfl) hR1.1 hR1.2.1 hR1.2.2
end Go.Proofs.YtcbkaiakdhiloabGreatDoor
namespace Go.Proofs.YtcbkaiakdhiloabGreatDoor
open Go.RowKit Go.Proofs
attribute [local go_sem] bs_size bs_append bs_extract
def leftR (p : Nat) (w : World) : Nat := match w.cell? ⟨p, 0, none⟩ with
  | some (.string s) => s.size
  | _ => 0
theorem leftR_of {p : Nat} {w : World} {l : List UInt8} (h : Rd w p l) : leftR p w = l.length := by
  unfold leftR
  rw [Bk.cell h 0]
  exact bs_size l
def prB (p : Nat) (F : Nat → Prop) : Nat → Prop := fun k => k = p ∨ F k
def FromP (pl : Nat) (F : Nat → Prop) (p : Nat) (os : List OptD) (l : List UInt8) (w : World) (e : Ending) (w' : World) : Prop :=
  (∃ os' r, optRd os l = some os' ∧ e = .returned (.tuple #[]) ∧ LsA w' pl F os' ∧ Rd w' p r ∧ wtO os' ≤ wtO os + l.length ∧ Fr (prB p F) w w') ∨
  (optRd os l = none ∧ e = .panicked (faultC 1) ∧ Fr (prB p F) w w')
theorem u8_num1 {a : List UInt8} (h : a.length = 1) : ∃ c : UInt8, a = [c] ∧ num a = c.toNat := by
  match a, h with
  | [c], _ => exact ⟨c, rfl, by simp [num]⟩
theorem dhcFrom (pl : Nat) (F : Nat → Prop) (p : Nat) (os : List OptD) (l : List UInt8) (w : World) (hL : LsA w pl F os) (hR : Rd w p l) (hpb : ¬ F p) (hF : ∀ k, w.heap.size ≤ k → F k) (hwt : wtO os + l.length ≤ 1099511627000) :
    Calls Tryz.prog 119 #[.pointer (some ⟨pl, 0, none⟩), .pointer (some ⟨p, 0, none⟩)] w (FromP pl F p os l w) := by
  have HF := Lib.hid hF
  clear hF
  go_enter Tryz.func119, Tryz.ntmps119
  go_wp2_with fail
  go_loopw [] (fun wr => ∃ os1 l1, optRd os l = optRd os1 l1 ∧ LsA wr pl F os1 ∧ Rd wr p l1 ∧ wtO os1 + l1.length ≤ wtO os + l.length ∧ Fr (prB p F) w wr) (fun wr => leftR p wr)
  case atStart => exact ⟨os, l, rfl, hL, hR, by omega, Fr.refl _ _⟩
  case round =>
    obtain ⟨os1, l1, e1, hL1, hR1, hw1, hf1⟩ := hrel
    have hno : ∀ k, F k → ¬ oneB p k := fun k hk e => by unfold oneB at e; exact hpb (e ▸ hk)
    have hone : ∀ {x y : World}, Fr (oneB p) x y → Fr (prB p F) x y := fun h => h.mono fun b _ e => .inl e
    go_wp2_with fail
    refine (tU8 p l1 _ hR1 (by omega)).mono ?_
    rintro e w2 (⟨a1, r1, c1, b1, rfl, hR2, hf2⟩ | ⟨hlt, rfl, hf2⟩)
    rotate_left
    · refine ⟨rfl, .inr ⟨?_, rfl, hf1.trans (hone hf2)⟩⟩
      rw [e1, List.eq_nil_of_length_eq_zero (by omega : l1.length = 0)]; rfl
    obtain ⟨c, rfl, hn1⟩ := u8_num1 c1.2
    have hl1 : l1 = c :: r1 := c1.1
    have hL2 := hL1.keep hf2 hno
    have hf3 := hf1.trans (hone hf2)
    have hlen : l1.length = r1.length + 1 := by rw [hl1]; rfl
    have hmu := leftR_of hR1
    have hmu2 := leftR_of hR2
    have hv : (fun a => Value.int .u8 (num a)) [c] = .int .u8 (c.toNat : Int) := by simp only [hn1]
    rw [hv]
    clear hv
    have E1 := Lib.hid e1
    have HL1 := Lib.hid hl1
    clear e1 hl1 c1 hn1 hR1 hL1
    by_cases h0 : c = 0
    · subst h0
      have hrel2 : Hid (optRd os l = optRd os1 r1) := Lib.hid (by rw [E1.out, HL1.out, optRd_pad])
      go_wp2_with fail
      exact ⟨⟨os1, r1, hrel2.out, hL2, hR2, by omega, hf3⟩, by omega⟩
    · have h0i : ¬ (c.toNat : Int) = 0 := fun e => h0 (UInt8.toNat.inj (by simpa using e))
      by_cases h5 : c = 255
      · subst h5
        have hrel2 : Hid (optRd os l = some os1) := Lib.hid (by rw [E1.out, HL1.out, optRd_end])
        go_wp2_with fail
        refine bodyPost_ret (v := .tuple #[]) ?_ ?_ ?_
        · exact results_none rfl _ _ _
        · rfl
        exact .inl ⟨os1, r1, hrel2.out, rfl, hL2, hR2, by omega, hf3⟩
      · have h5i : ¬ (c.toNat : Int) = 255 := fun e => h5 (UInt8.toNat.inj (show c.toNat = 255 by omega))
        have H0 := Lib.hid h0
        have H5 := Lib.hid h5
        clear h0 h5
        go_wp2_with fail
        refine (tU8 p r1 _ hR2 (by omega)).mono ?_
        rintro e w3 (⟨a2, r2, c2, b2, rfl, hR3, hf4⟩ | ⟨hlt, rfl, hf4⟩)
        rotate_left
        · refine ⟨rfl, .inr ⟨?_, rfl, hf3.trans (hone hf4)⟩⟩
          rw [E1.out, HL1.out, List.eq_nil_of_length_eq_zero (by omega : r1.length = 0)]
          exact optRd_one _ _ H5.out H0.out
        obtain ⟨k, rfl, hn2⟩ := u8_num1 c2.2
        have hl2 : r1 = k :: r2 := c2.1
        have hL3 := hL2.keep hf4 hno
        have hf5 := hf3.trans (hone hf4)
        have hlen2 : r1.length = r2.length + 1 := by rw [hl2]; rfl
        have hmu3 := leftR_of hR3
        have hv : (fun a => Value.int .u8 (num a)) [k] = .int .u8 (k.toNat : Int) := by simp only [hn2]
        rw [hv]
        clear hv
        have HL2 := Lib.hid hl2
        have hk := k.toNat_lt
        clear hl2 c2 hn2 hR2 hL2
        go_wp2_with fail
        refine (tTake k.toNat p r2 _ hR3 (by omega) (by omega)).mono ?_
        rintro e w4 (⟨a3, r3, c3, b3, rfl, hR4, hf6⟩ | ⟨hlt, rfl, hf6⟩)
        rotate_left
        · refine ⟨rfl, .inr ⟨?_, rfl, hf5.trans (hone hf6)⟩⟩
          rw [E1.out, HL1.out, HL2.out]
          exact optRd_short _ _ _ _ H5.out H0.out hlt
        have hL4 := hL3.keep hf6 hno
        have hf7 := hf5.trans (hone hf6)
        have hl3 : r2 = a3 ++ r3 := c3.1
        have hla : a3.length = k.toNat := c3.2
        have hlen3 : r2.length = a3.length + r3.length := by rw [hl3, List.length_append]
        have hmu4 := leftR_of hR4
        have HL3 := Lib.hid hl3
        clear hl3 c3 hR3 hL3
        go_wp2_with fail
        refine (dhcAdd pl F os1 c a3 _ hL4 (by omega) (fun k hk => HF.out k (Nat.le_trans hf7.size hk))).mono ?_
        rintro e w5 ⟨rfl, hL5, hf8⟩
        have hwa := wtO_add os1 c a3
        have hR5 : Rd w5 p r3 := Bk.keep hR4 hf8 hpb
        have hmu5 := leftR_of hR5
        have hf9 : Fr (prB p F) w w5 := hf7.trans (hf8.mono fun b _ e => .inr e)
        have hrel2 : Hid (optRd os l = optRd (optAdd os1 c a3) r3) := Lib.hid (by
          rw [E1.out, HL1.out, HL2.out, optRd_opt _ _ _ _ H5.out H0.out (by omega), HL3.out, ← hla, List.take_left, List.drop_left])
        go_wp2_with fail
        exact ⟨⟨_, r3, hrel2.out, hL5, hR5, by omega, hf9⟩, by omega⟩
end Go.Proofs.YtcbkaiakdhiloabGreatDoor
namespace Go.Proofs.YtcbkaiakdhiloabGreatDoor
open Go.RowKit Go.Proofs
attribute [local go_sem] bs_size bs_append bs_extract
def zcInt : Array Value := #[.int .i64 0]
theorem catchInt (gx ge : Nat) (er : Int) (w : World) (hx : Bk w gx 3 zcInt) (he : Bk w ge 28 #[.int .i64 0]) (hne : gx ≠ ge) :
    CallsD Tryz.prog 189 #[.pointer (some ⟨gx, 0, none⟩), .pointer (some ⟨ge, 0, none⟩)] (.panicking (faultC er)) w fun r u' w' =>
      r = .returned (.tuple #[]) ∧ u' = .panicking [{ v := .iface 182 (.agg #[.int .i64 er]), recovered := true }] ∧ Bk w' gx 3 zcInt ∧ Bk w' ge 28 #[.int .i64 er] ∧ Fr (twoB gx ge) w w' := by
  have hta := fault_is er
  have hbf := Bk.new w 182 #[.int .i64 er]
  have hx2 := hx.alloc (.cells #[.int .i64 er] 182)
  have he2 := he.alloc (.cells #[.int .i64 er] 182)
  have hf2 : Fr (twoB gx ge) w (w.alloc (.cells #[.int .i64 er] 182)) := (Fr.refl _ _).alloc _
  have hgx := hx.lt
  have hge := he.lt
  refine callsD_of_wpS Tryz.func189 rfl fun c₀ cs hu => ?_
  apply wpS_seq
  apply wpS_region
  simp [wpOpsS, go_sem, recoverD, hu, Tryz.ntmps189, Exit.thenS, faultC]
  refine wpS_of_wp ?_
  simp only [Array.replicate_succ, Array.replicate_zero, List.push_toArray, List.append_toArray, List.nil_append, List.cons_append, List.setIfInBounds_toArray, List.set_cons_zero, List.set_cons_succ]
  go_wp2_with fail
  unfold zcInt at hx2
  generalize w.alloc (.cells #[.int .i64 er] 182) = w2 at *
  refine wp_region_ssa (by kernel_rfl) (by kernel_rfl) (by kernel_rfl)
    (fun u => ⟨#[.pointer (some ⟨gx, 0, none⟩), .pointer (some ⟨ge, 0, none⟩), undef, .pointer (some ⟨w.heap.size, 0, none⟩), .int .i64 0, undef,
      .iface 182 (.agg #[.int .i64 er]), undef, .bool false, .tuple #[.agg #[.int .i64 er], .bool true], .bool true, .agg #[.int .i64 er], u 0, u 1, u 2], []⟩)
    (fun j v _ => match j with | 0 => v = .int .i64 0 | 1 => v = .pointer (some ⟨w.heap.size, 0, none⟩) | 2 => v = .int .i64 er | _ => True)
    (fun L w3 => Bk w3 w.heap.size 182 #[.int .i64 er] ∧ Bk w3 gx 3 zcInt ∧ Bk w3 ge 28 #[if L 4 then .int .i64 er else .int .i64 0] ∧ Fr (twoB gx ge) w w3) (fun _ => undef) ⟨hbf.drew, hx2.drew, he2.drew, hf2.drew⟩ ?_ ?_
  · rintro L u w3 i o ⟨g1, g3, g4, g5⟩ hΦ ho hL hd K hK
    match i, ho with
    | 0, ho =>
      simp at ho; subst ho
      clear hΦ hd
      go_simp
      exact hK _ _ rfl ⟨g1, g3, g4, g5⟩ (fun _ _ _ h => h)
    | 1, ho =>
      simp at ho; subst ho
      clear hΦ hd
      go_simp
      exact hK _ _ rfl ⟨g1, g3, g4, g5⟩ (fun _ _ _ h => h)
    | 2, ho =>
      simp at ho; subst ho
      have hu1 := hΦ 1 (hd ⟨1, .data⟩ (by simp) (by rfl))
      simp only at hu1
      have hc := g1.cells
      clear hΦ hd
      go_simp
      have hk := hK _ w3 rfl ⟨g1, g3, g4, g5⟩ (fun _ _ _ h => h)
      simp only [upd, hu1] at hk
      exact hk
    | 3, ho =>
      simp at ho; subst ho
      have hu0 := hΦ 0 (hd ⟨0, .data⟩ (by simp) (by rfl))
      simp only at hu0
      have hc := g3.cells
      have hz := g3.frees
      clear hΦ hd
      go_simp
      have h3 : Bk (w3.setCell ⟨gx, 0, none⟩ (.int .i64 0)) gx 3 zcInt := by simpa [zcInt] using g3.set 0 (.int .i64 0)
      have hk := hK undef (w3.setCell ⟨gx, 0, none⟩ (.int .i64 0)) trivial ⟨g1.far (by simp; omega) _, h3, g4.far (by simp; omega) _, g5.setCell (p := ⟨gx, 0, none⟩) (fun _ => .inl rfl) _⟩ (fun _ _ _ h => h)
      simp only [upd, hu0] at hk
      exact hk
    | 4, ho =>
      simp at ho; subst ho
      have hu2 := hΦ 2 (hd ⟨2, .data⟩ (by simp) (by rfl))
      simp only [hL] at g4 hu2
      have hc := g4.cells
      have hz := g4.frees
      clear hΦ hd
      go_simp
      have h4 : Bk (w3.setCell ⟨ge, 0, none⟩ (.int .i64 er)) ge 28 #[.int .i64 er] := by simpa using g4.set 0 (.int .i64 er)
      have hk := hK undef (w3.setCell ⟨ge, 0, none⟩ (.int .i64 er)) trivial ⟨g1.far (by simp; omega) _, g3.far (by simpa using hne) _, h4, g5.setCell (p := ⟨ge, 0, none⟩) (fun _ => .inr rfl) _⟩ (fun _ _ _ h => h)
      simp only [upd, hu2] at hk
      exact hk
  · rintro u w3 hΦ L hall ⟨g1, g3, g4, g5⟩
    rw [hall 4 (by simp)] at g4
    exact ⟨rfl, _, rfl, .tuple #[], by simp [results, Tryz.results189], rfl, rfl, g3, by simpa using g4, g5⟩
theorem idleInt (gx ge : Nat) (w : World) :
    CallsD Tryz.prog 189 #[.pointer (some ⟨gx, 0, none⟩), .pointer (some ⟨ge, 0, none⟩)] .returning w fun r u' w' =>
      r = .returned (.tuple #[]) ∧ u' = .returning ∧ w' = w := by
  refine callsD_of_wpS Tryz.func189 rfl fun c₀ cs hu => ?_
  apply wpS_seq
  apply wpS_region
  simp [wpOpsS, go_sem, recoverD, hu, Tryz.ntmps189, Exit.thenS]
  refine wpS_of_wp ?_
  simp only [Array.replicate_succ, Array.replicate_zero, List.push_toArray, List.append_toArray, List.nil_append, List.cons_append, List.setIfInBounds_toArray, List.set_cons_zero, List.set_cons_succ]
  go_wp2_with fail
  simp [Exit.inBlock, bodyPostS, results, Tryz.results189]
  cases c₀
  simp at hu
  simp [hu]
theorem readWInt (l : List UInt8) (w : World) (q0 : Value) (S : Nat → Prop) (ok : Value → World → Prop) (bad : Int → Prop) (hS : ∀ k, w.heap.size ≤ k → k < w.heap.size + 2 → ¬ S k)
    (hok : ∀ x w1, ok x w1 → ∃ n : Int, x = .int .i64 n) (hst : ∀ x w1 w2, ok x w1 → Fr (twoB w.heap.size (w.heap.size + 1)) w1 w2 → ok x w2)
    (hby : ∀ (p : Nat) (w1 : World), p = w.heap.size + 2 → Rd w1 p l → Fr noB w w1 → Calls Tryz.prog 160 #[.pointer (some ⟨p, 0, none⟩), q0] w1 (byPostW S ok bad p w1)) :
    Calls Tryz.prog 159 #[.string (bs l), .func (.func 160) #[] #[q0]] w (readPostW (.int .i64 0) S ok bad w) := by
  have hmf : ∀ (fn : Fn) (first cap : Array Value) (w : World), (Instr.makeFunc fn first cap).run Tryz.prog w = .ok (.func fn first cap) w := fun _ _ _ _ => rfl
  go_enter_defers Tryz.func159, Tryz.ntmps159
  have Hby := Lib.hid hby
  have Hok := Lib.hid hok
  have Hst := Lib.hid hst
  have HS := Lib.hid hS
  clear hby hok hst hS
  go_wp2_with fail
  have hx0 := ((Bk.new w 3 zcInt).alloc (.cells #[.int .i64 0] 28)).alloc (.cells #[.string (bs l)] 184)
  have he0 := (Bk.new (w.alloc (.cells zcInt 3)) 28 #[.int .i64 0]).alloc (.cells #[.string (bs l)] 184)
  have hr0 := Bk.new ((w.alloc (.cells zcInt 3)).alloc (.cells #[.int .i64 0] 28)) 184 #[.string (bs l)]
  rw [show ((w.alloc (.cells zcInt 3)).alloc (.cells #[.int .i64 0] 28)).heap.size = w.heap.size + 1 + 1 by simp] at hr0
  rw [show (w.alloc (.cells zcInt 3)).heap.size = w.heap.size + 1 by simp] at he0
  have hf0 : Fr noB w (((w.alloc (.cells zcInt 3)).alloc (.cells #[.int .i64 0] 28)).alloc (.cells #[.string (bs l)] 184)) := (((Fr.refl _ _).alloc _).alloc _).alloc _
  unfold zcInt at hx0 he0 hr0 hf0
  generalize ((w.alloc (.cells #[.int .i64 0] 3)).alloc (.cells #[.int .i64 0] 28)).alloc (.cells #[.string (bs l)] 184) = w1 at *
  refine (Hby.out _ w1 (by omega) hr0 hf0).mono ?_
  have HX : ¬ orB (w.heap.size + 1 + 1) S w.heap.size := by rintro (h | h); omega; exact HS.out _ (by omega) (by omega) h
  have HE : ¬ orB (w.heap.size + 1 + 1) S (w.heap.size + 1) := by rintro (h | h); omega; exact HS.out _ (by omega) (by omega) h
  rintro e w2 ⟨⟨x0, hx, rfl⟩ | ⟨er, hbad, rfl⟩, hf1⟩
  · have hx1 := hx0.keep hf1 HX
    have he1 := he0.keep hf1 HE
    obtain ⟨n, rfl⟩ := Hok.out x0 w2 hx
    have hc1 := hx1.cells
    have hz1 := hx1.frees
    have hc2 := he1.cells
    have hz2 := he1.frees
    go_wp2_with fail
    have hx4 : Bk ((w2.setCell ⟨w.heap.size, 0, none⟩ (.int .i64 n)).setCell ⟨w.heap.size + 1, 0, none⟩ (.int .i64 0)) w.heap.size 3 #[.int .i64 n] := by
      have h := hx1.set 0 (.int .i64 n)
      simp at h
      exact Bk.far h (p := ⟨w.heap.size + 1, 0, none⟩) (by simp) _
    have hb3 : Bk ((w2.setCell ⟨w.heap.size, 0, none⟩ (.int .i64 n)).setCell ⟨w.heap.size + 1, 0, none⟩ (.int .i64 0)) (w.heap.size + 1) 28 #[.int .i64 0] := by
      have h := (he1.far (p := ⟨w.heap.size, 0, none⟩) (by simp) (.int .i64 n)).set 0 (.int .i64 0)
      simpa using h
    have hst4 : Fr (twoB w.heap.size (w.heap.size + 1)) w2 ((w2.setCell ⟨w.heap.size, 0, none⟩ (.int .i64 n)).setCell ⟨w.heap.size + 1, 0, none⟩ (.int .i64 0)) :=
      ((Fr.refl _ _).setCell (p := ⟨w.heap.size, 0, none⟩) (fun _ => .inl rfl) _).setCell (p := ⟨w.heap.size + 1, 0, none⟩) (fun _ => .inr rfl) _
    have hfin : Fr S w ((w2.setCell ⟨w.heap.size, 0, none⟩ (.int .i64 n)).setCell ⟨w.heap.size + 1, 0, none⟩ (.int .i64 0)) := by
      refine (((hf0.of_no S).trans' hf1 ?_).setCell ?_ _).setCell ?_ _
      · rintro b hb (e | e); omega; exact e
      · intro e; exact absurd e (by simp)
      · intro e; exact absurd e (by simp)
    generalize (w2.setCell ⟨w.heap.size, 0, none⟩ (.int .i64 n)).setCell ⟨w.heap.size + 1, 0, none⟩ (.int .i64 0) = w4 at *
    refine leaves_cons (f := 189) (args := #[.pointer (some ⟨w.heap.size, 0, none⟩), .pointer (some ⟨w.heap.size + 1, 0, none⟩)]) (by simp) (by simp [go_sem]) ?_
    refine (idleInt _ _ _).mono ?_
    rintro e u' w5 ⟨rfl, rfl, rfl⟩
    refine ⟨.tuple #[.int .i64 n, .int .i64 0], ?_, ⟨.inl ⟨_, Hst.out _ _ _ hx hst4, rfl⟩, hfin⟩⟩
    exact results_int_int Tryz.results159 _ w5 w.heap.size (w.heap.size + 1) _ _ n 0 _ _ rfl rfl hx4 hb3 Tryz.underlying3 Tryz.underlying28
  · have hx1 := hx0.keep hf1 HX
    have he1 := he0.keep hf1 HE
    have hfin : Fr S w w2 := (hf0.of_no S).trans' hf1 (by rintro b hb (e | e); omega; exact e)
    refine leaves_cons (f := 189) (args := #[.pointer (some ⟨w.heap.size, 0, none⟩), .pointer (some ⟨w.heap.size + 1, 0, none⟩)]) (by simp) (by simp [go_sem]) ?_
    refine (catchInt w.heap.size (w.heap.size + 1) er w2 hx1 he1 (by omega)).mono ?_
    rintro e u' w5 ⟨rfl, rfl, hx5, he5, hf5⟩
    refine ⟨.tuple #[.int .i64 0, .int .i64 er], ?_, ⟨.inr ⟨er, hbad, rfl⟩, hfin.trans' hf5 ?_⟩⟩
    · exact results_int_int Tryz.results159 _ w5 w.heap.size (w.heap.size + 1) _ _ 0 er _ _ rfl rfl hx5 he5 Tryz.underlying3 Tryz.underlying28
    · intro b hb e; unfold twoB at e; omega
end Go.Proofs.YtcbkaiakdhiloabGreatDoor
