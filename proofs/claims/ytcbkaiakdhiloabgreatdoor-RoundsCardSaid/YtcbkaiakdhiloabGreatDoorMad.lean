/- octets.Read at netboot/api.IPv4: the deferred function's two contracts (behind a fault, and when nothing has gone wrong) and Read's own, over the reading function netboot/packet.ReadIP$1. Written by mkread.py. -/
import Derived.Test.YtcbkaiakdhiloabGreatDoorMac
import Derived.Test.YtcbkaiakdhiloabGreatDoorMaa
import Derived.Deep.QuietTactic
import Derived.BigQuiet
set_option linter.unusedSimpArgs false
set_option linter.unusedVariables false
namespace Go.Proofs.YtcbkaiakdhiloabGreatDoor
open Go.RowKit Go.Proofs
attribute [local go_sem] bs_size bs_append bs_extract

def zcIp4 : Array Value := #[.int .u16 0, .int .u8 0, .int .u8 0, .int .u32 0, .int .u32 0, .string ⟨#[]⟩]
set_option maxRecDepth 20000 in
set_option maxHeartbeats 1000000 in
theorem catchIp4 (gx ge : Nat) (er : Int) (w : World) (hx : Bk w gx 36 zcIp4) (he : Bk w ge 28 #[.int .i64 0]) (hne : gx ≠ ge) :
    CallsD Tryz.prog 112 #[.pointer (some ⟨gx, 0, none⟩), .pointer (some ⟨ge, 0, none⟩)] (.panicking (faultC er)) w fun r u' w' =>
      r = .returned (.tuple #[]) ∧ u' = .panicking [{ v := .iface 182 (.agg #[.int .i64 er]), recovered := true }] ∧ Bk w' gx 36 zcIp4 ∧ Bk w' ge 28 #[.int .i64 er] ∧ Fr (twoB gx ge) w w' := by
  have hta := fault_is er
  have hbf := (Bk.new w 182 #[.int .i64 er]).alloc (.cells zcIp4 36)
  have hbz := Bk.new (w.alloc (.cells #[.int .i64 er] 182)) 36 zcIp4
  rw [show (w.alloc (.cells #[.int .i64 er] 182)).heap.size = w.heap.size + 1 by simp] at hbz
  have hx2 := (hx.alloc (.cells #[.int .i64 er] 182)).alloc (.cells zcIp4 36)
  have he2 := (he.alloc (.cells #[.int .i64 er] 182)).alloc (.cells zcIp4 36)
  have hf2 : Fr (twoB gx ge) w ((w.alloc (.cells #[.int .i64 er] 182)).alloc (.cells zcIp4 36)) := ((Fr.refl _ _).alloc _).alloc _
  have hgx := hx.lt
  have hge := he.lt
  refine callsD_of_wpS Tryz.func112 rfl fun c₀ cs hu => ?_
  apply wpS_seq
  apply wpS_region
  simp [wpOpsS, go_sem, recoverD, hu, Tryz.ntmps112, Exit.thenS, faultC]
  refine wpS_of_wp ?_
  simp only [Array.replicate_succ, Array.replicate_zero, List.push_toArray, List.append_toArray, List.nil_append, List.cons_append, List.setIfInBounds_toArray, List.set_cons_zero, List.set_cons_succ]
  go_wp2_with fail
  unfold zcIp4 at hbf hbz hx2 he2 hf2
  generalize (w.alloc (.cells #[.int .i64 er] 182)).alloc (.cells #[.int .u16 0, .int .u8 0, .int .u8 0, .int .u32 0, .int .u32 0, .string ⟨#[]⟩] 36) = w2 at *
  refine wp_region_ssa (by kernel_rfl) (by kernel_rfl) (by kernel_rfl)
    (fun u => ⟨#[.pointer (some ⟨gx, 0, none⟩), .pointer (some ⟨ge, 0, none⟩), undef, .pointer (some ⟨w.heap.size, 0, none⟩), .pointer (some ⟨w.heap.size + 1, 0, none⟩), undef,
      .iface 182 (.agg #[.int .i64 er]), undef, .bool false, .tuple #[.agg #[.int .i64 er], .bool true], .bool true, .agg #[.int .i64 er], u 0, u 1, u 2], []⟩)
    (fun j v _ => match j with | 0 => v = .agg zcIp4 | 1 => v = .pointer (some ⟨w.heap.size, 0, none⟩) | 2 => v = .int .i64 er | _ => True)
    (fun L w3 => Bk w3 w.heap.size 182 #[.int .i64 er] ∧ Bk w3 (w.heap.size + 1) 36 zcIp4 ∧ Bk w3 gx 36 zcIp4 ∧ Bk w3 ge 28 #[if L 4 then .int .i64 er else .int .i64 0] ∧ Fr (twoB gx ge) w w3) (fun _ => undef) ⟨hbf.drew, hbz.drew, hx2.drew, he2.drew, hf2.drew⟩ ?_ ?_
  · rintro L u w3 i o ⟨g1, g2, g3, g4, g5⟩ hΦ ho hL hd K hK
    match i, ho with
    | 0, ho =>
      simp at ho; subst ho
      refine wp_load_row 36 (.tmp 4) rfl (w.heap.size + 1) rfl _ _ _ _ g2 Tryz.underlying36 rfl (by kernel_rfl) ?_
      exact hK _ _ rfl ⟨g1, g2, g3, g4, g5⟩ (fun _ _ _ h => h)
    | 1, ho =>
      simp at ho; subst ho
      clear hΦ hd
      go_simp
      exact hK _ _ rfl ⟨g1, g2, g3, g4, g5⟩ (fun _ _ _ h => h)
    | 2, ho =>
      simp at ho; subst ho
      have hu1 := hΦ 1 (hd ⟨1, .data⟩ (by simp) (by rfl))
      simp only at hu1
      have hc := g1.cells
      clear hΦ hd
      go_simp
      have hk := hK _ w3 rfl ⟨g1, g2, g3, g4, g5⟩ (fun _ _ _ h => h)
      simp only [upd, hu1] at hk
      exact hk
    | 3, ho =>
      simp at ho; subst ho
      have hu0 := hΦ 0 (hd ⟨0, .data⟩ (by simp) (by rfl))
      refine wp_store_bk 36 (.tmp 0) (.tmp 12) rfl gx _ _ _ rfl hu0 g3 rfl (by kernel_rfl) (by kernel_rfl) ?_
      intro w4 b4 f4
      refine hK undef _ trivial ⟨g1.keep f4 ?_, g2.keep f4 ?_, b4, g4.keep f4 ?_, g5.trans' f4 ?_⟩ (fun _ _ _ h => h)
      · unfold oneB; omega
      · unfold oneB; omega
      · unfold oneB; omega
      · intro b _ e; exact .inl e
    | 4, ho =>
      simp at ho; subst ho
      have hu2 := hΦ 2 (hd ⟨2, .data⟩ (by simp) (by rfl))
      simp only [hL] at g4 hu2
      have hc := g4.cells
      have hz := g4.frees
      clear hΦ hd
      go_simp
      have h4 : Bk (w3.setCell ⟨ge, 0, none⟩ (.int .i64 er)) ge 28 #[.int .i64 er] := by simpa using g4.set 0 (.int .i64 er)
      have hk := hK undef (w3.setCell ⟨ge, 0, none⟩ (.int .i64 er)) trivial ⟨g1.far (by simp; omega) _, g2.far (by simp; omega) _, g3.far (by simpa using hne) _, h4, g5.setCell (p := ⟨ge, 0, none⟩) (fun _ => .inr rfl) _⟩ (fun _ _ _ h => h)
      simp only [upd, hu2] at hk
      exact hk
  · rintro u w3 hΦ L hall ⟨g1, g2, g3, g4, g5⟩
    rw [hall 4 (by simp)] at g4
    exact ⟨rfl, _, rfl, .tuple #[], by simp [results, Tryz.results112], rfl, rfl, g3, by simpa using g4, g5⟩

theorem idleIp4 (gx ge : Nat) (w : World) :
    CallsD Tryz.prog 112 #[.pointer (some ⟨gx, 0, none⟩), .pointer (some ⟨ge, 0, none⟩)] .returning w fun r u' w' =>
      r = .returned (.tuple #[]) ∧ u' = .returning ∧ w' = w := by
  refine callsD_of_wpS Tryz.func112 rfl fun c₀ cs hu => ?_
  apply wpS_seq
  apply wpS_region
  simp [wpOpsS, go_sem, recoverD, hu, Tryz.ntmps112, Exit.thenS]
  refine wpS_of_wp ?_
  simp only [Array.replicate_succ, Array.replicate_zero, List.push_toArray, List.append_toArray, List.nil_append, List.cons_append, List.setIfInBounds_toArray, List.set_cons_zero, List.set_cons_succ]
  go_wp2_with fail
  simp [Exit.inBlock, bodyPostS, results, Tryz.results112]
  cases c₀
  simp at hu
  simp [hu]

set_option maxRecDepth 20000 in
set_option maxHeartbeats 1000000 in
/-- Read, over the reading function: what that returns, or its fault's error. -/
theorem readIp4 (l : List UInt8) (w : World) (q0 : Value) (ok : Array Value → Prop) (bad : Int → Prop) (hok : ∀ c, ok c → c.size = zcIp4.size ∧ c.all (·.oneCell') = true)
    (hby : ∀ (p : Nat) (w1 : World), w.heap.size ≤ p → Rd w1 p l → Fr noB w w1 → Calls Tryz.prog 71 #[.pointer (some ⟨p, 0, none⟩), q0] w1 (byPost ok bad p w1)) :
    Calls Tryz.prog 70 #[.string (bs l), .func (.func 71) #[] #[q0]] w (readPost zcIp4 ok bad w) := by
  have hmf : ∀ (fn : Fn) (first cap : Array Value) (w : World), (Instr.makeFunc fn first cap).run Tryz.prog w = .ok (.func fn first cap) w := fun _ _ _ _ => rfl
  go_enter_defers Tryz.func70, Tryz.ntmps70
  have Hby := Lib.hid hby
  have Hok := Lib.hid hok
  clear hby hok
  go_wp2_with fail
  have hx0 := ((Bk.new w 36 zcIp4).alloc (.cells #[.int .i64 0] 28)).alloc (.cells #[.string (bs l)] 184)
  have he0 := (Bk.new (w.alloc (.cells zcIp4 36)) 28 #[.int .i64 0]).alloc (.cells #[.string (bs l)] 184)
  have hr0 := Bk.new ((w.alloc (.cells zcIp4 36)).alloc (.cells #[.int .i64 0] 28)) 184 #[.string (bs l)]
  rw [show ((w.alloc (.cells zcIp4 36)).alloc (.cells #[.int .i64 0] 28)).heap.size = w.heap.size + 1 + 1 by simp] at hr0
  rw [show (w.alloc (.cells zcIp4 36)).heap.size = w.heap.size + 1 by simp] at he0
  have hf0 : Fr noB w (((w.alloc (.cells zcIp4 36)).alloc (.cells #[.int .i64 0] 28)).alloc (.cells #[.string (bs l)] 184)) := (((Fr.refl _ _).alloc _).alloc _).alloc _
  unfold zcIp4 at hx0 he0 hr0 hf0
  generalize ((w.alloc (.cells #[.int .u16 0, .int .u8 0, .int .u8 0, .int .u32 0, .int .u32 0, .string ⟨#[]⟩] 36)).alloc (.cells #[.int .i64 0] 28)).alloc (.cells #[.string (bs l)] 184) = w1 at *
  refine (Hby.out _ w1 (by omega) hr0 hf0).mono ?_
  rintro e w2 ⟨⟨x, hx, rfl⟩ | ⟨er, hbad, rfl⟩, hf1⟩
  · have hx1 := hx0.keep hf1 (by unfold oneB; omega)
    have he1 := he0.keep hf1 (by unfold oneB; omega)
    obtain ⟨hsx, hox⟩ := Hok.out x hx
    have Hsx := Lib.hid hsx
    have Hox := Lib.hid hox
    have hix : (Tryz.prog.info? 36).map (·.size) = some x.size := by rw [hsx]; kernel_rfl
    have Hix := Lib.hid hix
    clear hsx hox hix
    go_wp2_with ((refine wpList_store_bk rfl 36 (.tmp 4) (.tmp 11) rfl w.heap.size _ _ x rfl rfl hx1 Hsx.out Hix.out Hox.out ?_); intro w3 hx3 hf3; have he3 := he1.keep hf3 (by unfold oneB; omega); have hc3 := he3.cells; have hz3 := he3.frees)
    have hb3 : Bk (w3.setCell ⟨w.heap.size + 1, 0, none⟩ (.int .i64 0)) (w.heap.size + 1) 28 #[.int .i64 0] := by simpa using he3.set 0 (.int .i64 0)
    have hx4 := hx3.far (p := ⟨w.heap.size + 1, 0, none⟩) (by simp) (.int .i64 0)
    have hfin : Fr noB w (w3.setCell ⟨w.heap.size + 1, 0, none⟩ (.int .i64 0)) := by
      refine (((hf0.trans' hf1 ?_).trans' hf3 ?_).setCell ?_ _)
      · intro b hb e; unfold oneB at e; omega
      · intro b hb e; unfold oneB at e; omega
      · intro e; exact absurd e (by simp)
    generalize w3.setCell ⟨w.heap.size + 1, 0, none⟩ (.int .i64 0) = w4 at *
    refine leaves_cons (f := 112) (args := #[.pointer (some ⟨w.heap.size, 0, none⟩), .pointer (some ⟨w.heap.size + 1, 0, none⟩)]) (by simp) (by simp [go_sem]) ?_
    refine (idleIp4 _ _ _).mono ?_
    rintro e u' w5 ⟨rfl, rfl, rfl⟩
    refine ⟨.tuple #[.agg x, .int .i64 0], ?_, ⟨.inl ⟨_, hx, rfl⟩, hfin⟩⟩
    exact results_row_int Tryz.results70 _ w5 w.heap.size (w.heap.size + 1) _ _ x 0 _ _ rfl rfl hx4 hb3 Tryz.underlying36 rfl Hix.out Tryz.underlying28
  · have hx1 := hx0.keep hf1 (by unfold oneB; omega)
    have he1 := he0.keep hf1 (by unfold oneB; omega)
    have hfin : Fr noB w w2 := hf0.trans' hf1 (fun b hb e => by unfold oneB at e; omega)
    refine leaves_cons (f := 112) (args := #[.pointer (some ⟨w.heap.size, 0, none⟩), .pointer (some ⟨w.heap.size + 1, 0, none⟩)]) (by simp) (by simp [go_sem]) ?_
    refine (catchIp4 w.heap.size (w.heap.size + 1) er w2 hx1 he1 (by omega)).mono ?_
    rintro e u' w5 ⟨rfl, rfl, hx5, he5, hf5⟩
    refine ⟨.tuple #[.agg zcIp4, .int .i64 er], ?_, ⟨.inr ⟨er, hbad, rfl⟩, hfin.trans' hf5 ?_⟩⟩
    · exact results_row_int Tryz.results70 _ w5 w.heap.size (w.heap.size + 1) _ _ _ er _ _ rfl rfl hx5 he5 Tryz.underlying36 rfl (by kernel_rfl) Tryz.underlying28
    · intro b hb e; unfold twoB at e; omega
end Go.Proofs.YtcbkaiakdhiloabGreatDoor
namespace Go.Proofs.YtcbkaiakdhiloabGreatDoor
open Go.RowKit Go.Proofs
attribute [local go_sem] bs_size bs_append bs_extract bs_toList

theorem of_val (x : Nat) (b : UInt8) (hx : x < 281474976710656) : Value.int .i64 (wrap64 (256 * (x : Int) + wrap64 (b.toNat : Int))) = .int .i64 ((256 * x + b.toNat : Nat) : Int) := by
  have hb := b.toNat_lt
  rw [wr64 (n := (b.toNat : Int)) (by omega) (by omega), wr64 (by omega) (by omega)]
  congr 1
set_option maxRecDepth 20000 in
set_option maxHeartbeats 1000000 in
theorem refOf (l : List UInt8) (w : World) (hl : l.length ≤ 6) :
    Calls Tryz.prog 226 #[.string (bs l)] w fun e w' => e = .returned (.int .i64 (num l)) ∧ w = w' := by
  go_enter Tryz.func226, Tryz.ntmps226
  go_wp2_with fail
  go_loop [3, 4] (fun n i => ∃ j : Nat, j ≤ l.length ∧ i = .int .i64 j ∧ n = .int .i64 (num (l.take j) : Int)) (fun _ i => l.length - (intOf i).toNat)
  case atStart => exact ⟨0, by omega, rfl, rfl⟩
  case round =>
    obtain ⟨j, hj, rfl, rfl⟩ := hrel
    by_cases hlt : j < l.length
    · have hb : num (l.take j) < 281474976710656 := by
        have h := num_le (l.take j)
        have h2 : (l.take j).length ≤ 6 := by rw [List.length_take]; omega
        have h3 : 256 ^ (l.take j).length ≤ 256 ^ 6 := Nat.pow_le_pow_right (by omega) h2
        omega
      have Hs : Hid (num (l.take (j + 1)) = 256 * num (l.take j) + l[j].toNat) := by
        unfold Hid; rw [List.take_succ_eq_append_getElem hlt, num_snoc]
      have hgi : ∀ h : j < (bs l).size, (bs l)[j]'h = l[j] := fun h => bs_get l j h
      have hb8 := l[j].toNat_lt
      generalize num (l.take j) = x at *
      have hb2 : (x : Int) ≤ 281474976710656 := by omega
      go_wp2_with fail
      go_round
      case rel =>
        exact ⟨j + 1, by omega, by go_num, by rw [Hs.out] <;> go_num⟩
      case measure => simp [intOf]; omega
    · go_wp2_with fail
      go_ret
      obtain rfl : j = l.length := by omega
      rw [List.take_length]
      exact ⟨rfl, rfl⟩

theorem refIpOf (l : List UInt8) (w : World) (hl : l.length ≤ 4) :
    Calls Tryz.prog 227 #[.string (bs l)] w fun e w' => e = .returned (.int .u32 (num l)) ∧ w = w' := by
  have hb : num l < 4294967296 := by
    have h := num_le l
    have h3 : 256 ^ l.length ≤ 256 ^ 4 := Nat.pow_le_pow_right (by omega) hl
    omega
  go_enter Tryz.func227, Tryz.ntmps227
  go_wp2_with fail
  refine (refOf l _ (by omega)).mono ?_
  rintro e w1 ⟨rfl, rfl⟩
  generalize hnx : num l = x at *
  have Hx := Lib.hid hnx
  clear hnx
  have hx : IntKind.u32.wrap (x : Int) = x := by rw [IntKind.wrap_u32']; omega
  go_wp2_with fail
  go_ret
  exact ⟨by rw [Hx.out]; rfl, rfl⟩

/-- the first j bytes of six are those of a list, the others 0 -/
def part6 (a : List UInt8) (j : Nat) : Array Value := ((u8s (a.take j)) ++ List.replicate (6 - j) (Value.int .u8 0)).toArray
theorem part6_size (a : List UInt8) (j : Nat) (hj : j ≤ 6) (ha : 6 ≤ a.length) : (part6 a j).size = 6 := by simp [part6, u8s, List.length_take]; omega
theorem part6_set (a : List UInt8) (j : Nat) (hj : j < 6) (ha : 6 ≤ a.length) : (part6 a j).setIfInBounds j (.int .u8 ((a[j]'(by omega)).toNat : Int)) = part6 a (j + 1) := by
  match a, ha with
  | a0 :: a1 :: a2 :: a3 :: a4 :: a5 :: r, _ =>
    match j, hj with
    | 0, _ | 1, _ | 2, _ | 3, _ | 4, _ | 5, _ => rfl
set_option maxRecDepth 20000 in
set_option maxHeartbeats 1000000 in
theorem refMacOf (l : List UInt8) (w : World) (h6 : 6 ≤ l.length) (hl : l.length ≤ 9223372036854775807) :
    Calls Tryz.prog 225 #[.string (bs l)] w fun e w' => e = .returned (macV (macOf l)) ∧ Fr noB w w' := by
  go_enter Tryz.func225, Tryz.ntmps225
  go_wp2_with fail
  have hb1 := (Bk.new w 23 zero6).alloc (.cells zero6 23)
  have hb2 := Bk.new (w.alloc (.cells zero6 23)) 23 zero6
  rw [show (w.alloc (.cells zero6 23)).heap.size = w.heap.size + 1 by simp] at hb2
  have hf : Fr noB w ((w.alloc (.cells zero6 23)).alloc (.cells zero6 23)) := ((Fr.refl _ _).alloc _).alloc _
  unfold zero6 at hb1 hb2 hf
  generalize (w.alloc (.cells #[.int .u8 0, .int .u8 0, .int .u8 0, .int .u8 0, .int .u8 0, .int .u8 0] 23)).alloc (.cells #[.int .u8 0, .int .u8 0, .int .u8 0, .int .u8 0, .int .u8 0, .int .u8 0] 23) = w1 at *
  go_loopw [4] (fun i wr => ∃ j : Nat, j ≤ 6 ∧ i = .int .i64 j ∧ Bk wr w.heap.size 23 zero6 ∧ Bk wr (w.heap.size + 1) 23 (part6 l j) ∧ Fr noB w wr) (fun i _ => 6 - (intOf i).toNat)
  case atStart => exact ⟨0, by omega, rfl, hb1, hb2, hf⟩
  case round =>
    obtain ⟨j, hj, rfl, c1, c2, hfr⟩ := hrel
    by_cases hlt : j < 6
    · have hjl : j < l.length := by omega
      have hgi : ∀ h : j < (bs l).size, (bs l)[j]'h = l[j] := fun h => bs_get l j h
      have hps := part6_set l j hlt h6
      have hsz := part6_size l j (by omega) h6
      have hc := c2.cell j
      have hz := c2.free j
      have hset := c2.set j (.int .u8 (l[j].toNat : Int))
      rw [hps] at hset
      have Hset := Lib.hid hset
      have hc' : wr.cell? ⟨w.heap.size + 1, j, none⟩ = some ((part6 l j)[j]'(by omega)) := by rw [hc]; exact Array.getElem?_eq_getElem _
      generalize (part6 l j)[j]'(by omega) = old at *
      clear hps hset hc hsz
      go_wp2_with fail
      refine ⟨⟨j + 1, by omega, by go_num, c1.far (by simp) _, Hset.out, hfr.setCell (p := ⟨w.heap.size + 1, j, none⟩) (fun e => absurd e (by simp)) _⟩, by simp [intOf]; omega⟩
    · obtain rfl : j = 6 := by omega
      have hp6 : part6 l 6 = #[.int .u8 ((l.getD 0 0).toNat : Int), .int .u8 ((l.getD 1 0).toNat : Int), .int .u8 ((l.getD 2 0).toNat : Int), .int .u8 ((l.getD 3 0).toNat : Int), .int .u8 ((l.getD 4 0).toNat : Int), .int .u8 ((l.getD 5 0).toNat : Int)] := by
        match l, h6 with
        | a0 :: a1 :: a2 :: a3 :: a4 :: a5 :: r, _ => rfl
      rw [hp6] at c2
      have hv : macV (macOf l) = .agg #[.int .u8 ((l.getD 0 0).toNat : Int), .int .u8 ((l.getD 1 0).toNat : Int), .int .u8 ((l.getD 2 0).toNat : Int), .int .u8 ((l.getD 3 0).toNat : Int), .int .u8 ((l.getD 4 0).toNat : Int), .int .u8 ((l.getD 5 0).toNat : Int)] := rfl
      have Hv := Lib.hid hv
      clear hp6 hv hb1 hb2 hf
      generalize l.getD 0 0 = d0 at *
      generalize l.getD 1 0 = d1 at *
      generalize l.getD 2 0 = d2 at *
      generalize l.getD 3 0 = d3 at *
      generalize l.getD 4 0 = d4 at *
      generalize l.getD 5 0 = d5 at *
      have hc := c2.cells
      go_wp2_with ((refine wpList_store_bk rfl 23 (.tmp 2) (.tmp 14) rfl w.heap.size _ _ _ rfl rfl c1 rfl (by kernel_rfl) (by kernel_rfl) ?_); intro w9 hx9 hf9)
      have hcx := hx9.cells
      refine bodyPost_ret (v := .agg #[.int .u8 (d0.toNat : Int), .int .u8 (d1.toNat : Int), .int .u8 (d2.toNat : Int), .int .u8 (d3.toNat : Int), .int .u8 (d4.toNat : Int), .int .u8 (d5.toNat : Int)]) (by simp [results, Tryz.results225, go_sem, hcx]) rfl ?_
      exact ⟨by rw [Hv.out], hfr.trans' hf9 (fun b hb e => by unfold oneB at e; omega)⟩
end Go.Proofs.YtcbkaiakdhiloabGreatDoor
namespace Go.Proofs.YtcbkaiakdhiloabGreatDoor
open Go.RowKit Go.Proofs

def strs (l : List (List UInt8)) : List Value := l.map fun p => .string (bs p)
theorem strs_length (l : List (List UInt8)) : (strs l).length = l.length := by simp [strs]
theorem strs_get (l : List (List UInt8)) (k : Nat) (hk : k < l.length) : (strs l)[k]? = some (.string (bs l[k])) := by simp [strs, hk]

def CkRel (st : Bool × Nat) (o s : Value) : Prop := o = .bool st.1 ∧ s = .int .u32 (st.2 : Int)
theorem ret_u16 {a b : Int} (h : a = b) : Ending.returned (.int .u16 a) = .returned (.int .u16 b) := by rw [h]
theorem ck_tail (y : Nat) (hy : y < 200000) : (bits .and .u32 (y : Int) 65535 + (y : Int) / 65536) % 4294967296 = ((y % 65536 + y / 65536 : Nat) : Int) := by
  have h := u32_and_nat y 65535 (by omega) (by omega)
  rw [nat_mask16] at h
  rw [show (65535 : Int) = ((65535 : Nat) : Int) from rfl, h]; omega
theorem ck_false (s : Nat) (b : UInt8) (hs : s ≤ 65535) : CkRel (ckStep (false, s) b) (.bool true)
    (.int .u32 ((bits .and .u32 (((s : Int) + (b.toNat : Int) % 4294967296 * 256) % 4294967296) 65535 + ((s : Int) + (b.toNat : Int) % 4294967296 * 256) % 4294967296 / 65536) % 4294967296)) := by
  have hb := b.toNat_lt
  have e : ((s : Int) + (b.toNat : Int) % 4294967296 * 256) % 4294967296 = ((s + b.toNat * 256 : Nat) : Int) := by omega
  rw [e, ck_tail _ (by omega)]
  exact ⟨rfl, by simp [ckStep]⟩
theorem ck_true (s : Nat) (b : UInt8) (hs : s ≤ 65535) : CkRel (ckStep (true, s) b) (.bool false)
    (.int .u32 ((bits .and .u32 (((s : Int) + (b.toNat : Int)) % 4294967296) 65535 + ((s : Int) + (b.toNat : Int)) % 4294967296 / 65536) % 4294967296)) := by
  have hb := b.toNat_lt
  have e : ((s : Int) + (b.toNat : Int)) % 4294967296 = ((s + b.toNat : Nat) : Int) := by omega
  rw [e, ck_tail _ (by omega)]
  exact ⟨rfl, by simp [ckStep]⟩
theorem ck_end (l : List UInt8) : bits .xor .u16 IntKind.u16.max (IntKind.u16.wrap ((ck l).2 : Int)) = (check l : Int) := by
  have h := ck_le l
  rw [IntKind.wrap_u16, show IntKind.u16.max = ((65535 : Nat) : Int) from rfl, show ((ck l).2 : Int) % 65536 = (((ck l).2 : Nat) : Int) by omega, u16_xor_nat _ _ (by omega) (by omega), xor_max16 _ (by omega), ck_check]
set_option maxRecDepth 20000 in
set_option maxHeartbeats 1000000 in
theorem hashCheck_any (A : Option Addr) (n c : Nat) (ps : List (List UInt8)) (w : World) (S : Nat → Prop) (hr : SlR w S 1 A n (strs ps)) (hn : n ≤ 9223372036854775807) (hz : ∀ p ∈ ps, p.length ≤ 9223372036854775807) :
    Calls Tryz.prog 28 #[.slice A n c] w fun e w' => e = .returned (.int .u16 (check ps.flatten)) ∧ w = w' := by
  have hlen : ps.length = n := by have := hr.1; rw [strs_length] at this; omega
  go_enter Tryz.func28, Tryz.ntmps28
  go_wp2_with fail
  go_loop [3, 4, 11] (fun s o i => ∃ k : Nat, k ≤ n ∧ i = .int .i64 k ∧ CkRel (ck (ps.take k).flatten) o s) (fun _ _ i => n - (intOf i).toNat)
  case atStart => exact ⟨0, Nat.zero_le _, rfl, rfl, rfl⟩
  case round =>
    obtain ⟨k, hk, rfl, rfl, rfl⟩ := hrel
    by_cases hlt : k < n
    · obtain ⟨ad, u, rfl, hu, hc⟩ := hr.at_ hlt
      rw [strs_get ps k (by omega)] at hu
      have hp : ps[k].length ≤ 9223372036854775807 := hz _ (List.getElem_mem _)
      injection hu with hu
      subst hu
      have hp0 : ((ps.take k).flatten ++ ps[k].take 0) = (ps.take k).flatten := by simp
      generalize hpk : ps[k] = p at *
      have Hpk := Lib.hid hpk
      clear hpk
      generalize hpre : (ps.take k).flatten = pre at *
      have Hpre := Lib.hid hpre
      have Hp0 := Lib.hid hp0
      clear hpre hp0
      have hbz := bs_size p
      go_wp2_with fail
      go_loop [3, 4, 17] (fun s o i => ∃ j : Nat, j ≤ p.length ∧ i = .int .i64 j ∧ CkRel (ck (pre ++ p.take j)) o s) (fun _ _ i => p.length - (intOf i).toNat)
      case atStart => exact ⟨0, Nat.zero_le _, rfl, by rw [Hp0.out]; exact ⟨rfl, rfl⟩⟩
      case round =>
        obtain ⟨j, hj, rfl, rfl, rfl⟩ := hrel
        by_cases hlj : j < p.length
        · have hck := ck_le (pre ++ p.take j)
          have hsn : ck (pre ++ p.take (j + 1)) = ckStep (ck (pre ++ p.take j)) p[j] := by
            rw [List.take_succ_eq_append_getElem hlj, ← List.append_assoc, ck_snoc]
          have Hsn := Lib.hid hsn
          clear hsn
          generalize hst : ck (pre ++ p.take j) = st at *
          have Hst := Lib.hid hst
          clear hst
          obtain ⟨o, s⟩ := st
          cases o
          · go_wp2_with fail
            go_round
            case rel => exact ⟨j + 1, by omega, by go_num, by rw [Hsn.out, bs_get]; exact ck_false s _ hck⟩
            case measure => simp [intOf]; omega
          · go_wp2_with fail
            go_round
            case rel => exact ⟨j + 1, by omega, by go_num, by rw [Hsn.out, bs_get]; exact ck_true s _ hck⟩
            case measure => simp [intOf]; omega
        · go_wp2_with fail
          obtain rfl : j = p.length := by omega
          refine ⟨⟨k + 1, by omega, by go_num, ?_⟩, by simp [intOf]; omega⟩
          have e : (ps.take (k + 1)).flatten = pre ++ p.take p.length := by
            rw [List.take_succ_eq_append_getElem (by omega), List.flatten_append, Hpre.out, Hpk.out]; simp
          rw [e]; exact ⟨rfl, rfl⟩
    · go_wp2_with fail
      go_ret
      obtain rfl : k = n := by omega
      refine ⟨ret_u16 ?_, rfl⟩
      rw [ck_end, List.take_of_length_le (by omega)]

theorem ret_i64 {a b : Int} (h : a = b) : Ending.returned (.int .i64 a) = .returned (.int .i64 b) := by rw [h]
theorem bs_pad (l : List UInt8) (h : l.length % 2 = 1) : bs l ++ { data := #[0] } = bs (padded l) := by
  rw [show ({ data := #[0] } : ByteArray) = bs [0] from rfl, bs_append]; unfold padded; rw [if_pos h]
theorem words_le : ∀ (q : List UInt8), words q ≤ 65535 * q.length
  | [] => by simp [words]
  | [_] => by simp [words]
  | a :: b :: r => by
    have := words_le r
    have ha := a.toNat_lt
    have hb := b.toNat_lt
    simp [words]; omega
theorem words_take_le (q : List UInt8) (k : Nat) (hq : q.length ≤ 1000001) : words (q.take k) ≤ 65536000000 := by
  have h := words_le (q.take k)
  have h2 : (q.take k).length ≤ 1000001 := by rw [List.length_take]; omega
  omega
theorem padded_even (l : List UInt8) : (padded l).length % 2 = 0 := by unfold padded; split <;> (try simp) <;> omega
theorem padded_le (l : List UInt8) : (padded l).length ≤ l.length + 1 := by unfold padded; split <;> simp
theorem words_val (s : Nat) (a b : UInt8) (hs : s ≤ 65536000000) :
    Value.int .i64 (wrap64 ((s : Int) + wrap64 (wrap64 (256 * wrap64 (a.toNat : Int)) + wrap64 (b.toNat : Int)))) = .int .i64 ((s + a.toNat * 256 + b.toNat : Nat) : Int) := by
  have ha := a.toNat_lt
  have hb := b.toNat_lt
  rw [wr64 (n := (a.toNat : Int)) (by omega) (by omega), wr64 (n := (b.toNat : Int)) (by omega) (by omega), wr64 (n := 256 * (a.toNat : Int)) (by omega) (by omega),
    wr64 (n := 256 * (a.toNat : Int) + (b.toNat : Int)) (by omega) (by omega), wr64 (by omega) (by omega)]
  congr 1; omega
def Even (k : Nat) : Prop := k % 2 = 0
def SumIs (q : List UInt8) (k : Nat) (s i : Value) : Prop := k ≤ q.length ∧ Even k ∧ i = .int .i64 (k : Int) ∧ s = .int .i64 (words (q.take k) : Int)
theorem words_next (q : List UInt8) (k : Nat) (hk : Even k) (h : k + 1 < q.length) : words (q.take (k + 2)) = words (q.take k) + q[k].toNat * 256 + q[k + 1].toNat := by
  obtain ⟨j, rfl⟩ : ∃ j, k = 2 * j := ⟨k / 2, by unfold Even at hk; omega⟩
  exact words_take j q _ _ (List.getElem?_eq_getElem (by omega)) (List.getElem?_eq_getElem h)
def LeftIs (l : List UInt8) (s : Value) : Prop := ∃ a : Nat, a ≤ 65536000000 ∧ Kept a (wsum false l) ∧ s = .int .i64 (a : Int)
set_option maxRecDepth 20000 in
set_option maxHeartbeats 1000000 in
theorem refCheck_any (l : List UInt8) (w : World) (hl : l.length ≤ 1000000) :
    Calls Tryz.prog 228 #[.string (bs l)] w fun e w' => e = .returned (.int .i64 (check l)) ∧ Fr noB w w' := by
  go_enter Tryz.func228, Tryz.ntmps228
  have hz := bs_size l
  have hpw := words_padded l
  have hpe := padded_even l
  have hpl := padded_le l
  by_cases hodd : l.length % 2 = 1
  all_goals
    go_wp2_with fail
    first
      | rw [bs_pad l hodd]
      | (have epad : padded l = l := by unfold padded; rw [if_neg hodd]
         rw [show bs l = bs (padded l) by rw [epad]]
         clear epad)
    clear hz
    have hz := bs_size (padded l)
    generalize padded l = q at *
    have Hpw := Lib.hid hpw
    clear hpw hodd
    go_loopw [3, 4] (fun s i wr => ∃ k : Nat, SumIs q k s i ∧ Fr noB w wr) (fun _ i _ => q.length - (intOf i).toNat)
    case atStart => exact ⟨0, ⟨by omega, rfl, rfl, rfl⟩, Fr.refl _ _⟩
    case round =>
      obtain ⟨k, ⟨hk, hev, rfl, rfl⟩, hfr⟩ := hrel
      by_cases hlt : k < q.length
      · have hk1 : k + 1 < q.length := by unfold Even at hev; omega
        have hwn := Lib.hid (words_next q k hev hk1)
        have hq0 : (k : Int) < (q.length : Int) := by omega
        have hq1 : (k : Int) + 1 < (q.length : Int) := by omega
        have hq2 := words_take_le q k (by omega)
        have hq3 : IntKind.i64.wrap ((k : Int) + 1) = (k : Int) + 1 := IntWalk.i64_in _ (by omega)
        have hq4 : (0 : Int) ≤ (k : Int) + 1 := by omega
        have hq5 : ((k : Int) + 1).toNat = k + 1 := by omega
        generalize hwt : words (q.take k) = s at *
        have Hwt := Lib.hid hwt
        clear hwt
        go_wp2_with fail
        go_quiet (fail)
        go_wp2_with fail
        go_roundw
        case rel => exact ⟨k + 2, ⟨by omega, by unfold Even at *; omega, by go_num, by rw [hwn.out]; exact words_val s _ _ hq2⟩, hfr.drewN _⟩
        case measure => simp [intOf]; omega
      · go_wp2_with fail
        obtain rfl : k = q.length := by omega
        rw [List.take_length] at *
        have hw0 := words_take_le q q.length (by omega)
        rw [List.take_length] at hw0
        rw [Hpw.out] at *
        go_loop [3] (fun s => LeftIs l s) (fun s => (intOf s).toNat)
        case atStart => exact ⟨_, hw0, rfl, rfl⟩
        case round =>
          obtain ⟨a, ha, hka, rfl⟩ := hrel
          by_cases hgt : 65535 < a
          · go_wp2_with fail
            go_round
            case rel => exact ⟨a / 65536 + a % 65536, by omega, hka.step, by go_num⟩
            case measure => simp [intOf]; omega
          · go_wp2_with fail
            go_ret
            have hd := hka.done (by omega)
            have hnl := norm_le (wsum false l)
            exact ⟨ret_i64 (by unfold check; omega), hfr⟩

end Go.Proofs.YtcbkaiakdhiloabGreatDoor
