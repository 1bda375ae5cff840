/- Parts of the walk; written by programs, merged. -/
import Derived.Test.YtcbkaiakdhiloabGreatDoorMab
import Derived.Test.YtcbkaiakdhiloabGreatDoorMae
import Derived.Test.YtcbkaiakdhiloabGreatDoorMag
import Derived.Test.YtcbkaiakdhiloabGreatDoorMah
import Derived.Test.YtcbkaiakdhiloabGreatDoorProg
import Derived.Test.YtcbkaiakdhiloabGreatDoorShelf
import Derived.WalkKit
import Derived.WalkLawsBesides
import Derived.WalkSpells
import Derived.Deep.AppendLies
import Derived.Deep.DrawnRows
import Derived.Maps.AppendAt
import Derived.StillTailTactics
import Derived.Lib.Hide
import Derived.Lib.AppendStr
import Derived.Lib.Strings
import Derived.Laws.MakeOwn
import Derived.Laws.OwnMore
import Derived.Laws.BitsAllLaws
import Derived.Orders
import Derived.Deep.MidRow
import Derived.Deep.DeepMust
import Derived.Deep.RegionHeld3
import Derived.Deep.RegionLaw
import Derived.Deep.LoopGhost
import Derived.Deep.Cut
import Derived.Deep.CutRange
import Derived.Deep.QuietTactic
import Derived.BigQuiet
import Derived.Lib.ConvBytes
import Derived.Lib.LazyBuf
import Derived.Recover
import Derived.OrdersHeld
import Derived.Lib.MapLaws
import Derived.Lib.TrimAscii
import Derived.Lib.LaidTab
import Derived.Lib.ItoaNum
import Derived.Maps.Own
import Derived.Maps.OwnOps
import Derived.Maps.OwnSet
import Derived.Maps.Views
import Derived.Maps.RangeWalk
import Derived.Deep.CutBlock
import Derived.Laws.StructEq
import Derived.DeepKeys
import Derived.Laws.RangeString
import Derived.Lib.OthersKept
set_option linter.unusedSimpArgs false
set_option linter.unusedVariables false
set_option maxRecDepth 20000
set_option maxHeartbeats 8000000
set_option maxRecDepth 20000
namespace Go.Proofs.YtcbkaiakdhiloabGreatDoor
open Go.RowKit Go.Proofs
attribute [local go_sem] bs_size bs_append bs_extract bs_toList
theorem wpList_load_at {P : Program} {ops : Array Oper} {rest : List Oper} {o : Oper} {a : Act} {w : World} {Q : Exit → Act → World → Prop} (hgd : o.guard = none) (ty : TypeId) (x : Operand) (ho : o.op = .load ty x)
    (ad : Addr) (hx : a.eval x = .pointer (some ad)) (cs : Array Value) (d : TypeDesc) (hg : ∀ (j : Nat) (u : Value), cs[j]? = some u → w.cell? (ad.add j) = some u)
    (hu : P.underlying ty = some d) (hd : (match d with | .struct _ | .array _ _ => true | _ => false) = true) (hi : (P.info? ty).map (·.size) = some cs.size)
    (h : wpList P ops Q rest (a.put o.dst (.agg cs)) w) : wpList P ops Q (o :: rest) a w := by
  have hrun : (loadVar ty ad).run P w = .ok (.agg cs) w := by
    have hl : (loadCells ad cs.toList.length).run P w = .ok cs.toList.toArray w := run_loadCells_list (P := P) w ad cs.toList (fun j v hv => hg j v (by simpa using hv))
    cases hq : P.info? ty with
    | none => simp [hq] at hi
    | some i =>
      have hs : i.size = cs.size := by simpa [hq] using hi
      have hagg : (isAgg ty).run P w = .ok true w := by
        unfold isAgg
        rw [Sem.run_bind, run_underlying hu w]
        cases d <;> simp_all
      simp only [Array.length_toList, Array.toArray_toList] at hl
      simp [loadVar, Sem.run_bind, hagg, sizeOf, typeInfo, hq, hs, hl]
  refine wpList_plain hgd fun K hK => ?_
  unfold Oper.wp execOp
  simp only [ho, hx, Instr.loadAt, Instr.sureAddr, Sem.run_bind, Sem.run_pure, Result.andThen_ok, hrun]
  exact hK _ _ h
structure OpD where
  kind : Int
  a : Int
  n : Int
  c : CfgI
  s : List UInt8
def opC (o : OpD) : Array Value := #[.int .i64 o.kind, .int .i64 o.a, .int .i64 o.n] ++ cfgC o.c ++ #[.string (bs o.s)]
def scrC (l : List OpD) : List Value := l.flatMap fun o => (opC o).toList
theorem opC_size (o : OpD) : (opC o).size = 17 := rfl
theorem scrC_len (l : List OpD) : (scrC l).length = l.length * 17 := by
  induction l with
  | nil => rfl
  | cons a r ih => rw [scrC, List.flatMap_cons, List.length_append, ← scrC, ih, Array.length_toList, opC_size, List.length_cons]; omega
theorem flat_at {α : Type} (f : α → List Value) (n : Nat) (hf : ∀ a, (f a).length = n) : ∀ (l : List α) (i : Nat) (o : α) (j : Nat) (u : Value), l[i]? = some o → (f o)[j]? = some u → (l.flatMap f)[i * n + j]? = some u
  | [], _, _, _, _, h, _ => by cases h
  | x :: r, i, o, j, u, h, hj => by
    have hl := hf x
    have hjn : j < n := by
      rcases Nat.lt_or_ge j n with h1 | h1
      · exact h1
      · rw [List.getElem?_eq_none (by rw [hf]; exact h1)] at hj; cases hj
    rw [List.flatMap_cons]
    cases i with
    | zero =>
      cases h
      rw [List.getElem?_append_left (by omega), Nat.zero_mul, Nat.zero_add]; exact hj
    | succ i =>
      have e : (i + 1) * n = i * n + n := Nat.succ_mul i n
      rw [List.getElem?_append_right (by omega), hl, show (i + 1) * n + j - n = i * n + j by omega]
      exact flat_at f n hf r i o j u h hj
theorem scrC_at (l : List OpD) (i : Nat) (o : OpD) (j : Nat) (u : Value) (h : l[i]? = some o) (hj : (opC o)[j]? = some u) : (scrC l)[i * 17 + j]? = some u :=
  flat_at (fun o => (opC o).toList) 17 (fun a => (Array.length_toList).trans (opC_size a)) l i o j u h (Array.getElem?_toList.trans hj)
def zOp : Array Value := #[.int .i64 0, .int .i64 0, .int .i64 0, .int .u8 0, .int .u8 0, .int .u8 0, .int .u8 0, .int .u8 0, .int .u8 0, .string ⟨#[]⟩, .int .i64 0, .string ⟨#[]⟩, .int .i64 0, .int .i64 0, .int .i64 0, .int .i64 0, .string ⟨#[]⟩]
theorem opC_one (o : OpD) : (opC o).all (·.oneCell') = true := by simp [opC, cfgC, Value.oneCell']
theorem opInfo : (Tryz.prog.info? 114).map (·.size) = some 17 := by kernel_rfl
theorem scr_cells {w : World} {S : Nat → Prop} {A : Option Addr} {l : List OpD} {i : Nat} {o : OpD} (h : SlR w S 17 A l.length (scrC l)) (hi : l[i]? = some o) : ∃ ad, A = some ad ∧ ∀ (j : Nat) (u : Value), (opC o)[j]? = some u → w.cell? ((ad.add (i * 17)).add j) = some u := by
  have hil : i < l.length := by
    rcases Nat.lt_or_ge i l.length with h1 | h1
    · exact h1
    · rw [List.getElem?_eq_none h1] at hi; cases hi
  obtain ⟨ad, e, _, _, hc⟩ := h.2 (by omega)
  refine ⟨ad, e, fun j u hu => ?_⟩
  have h1 := hc _ u (scrC_at l i o j u hi hu)
  rw [show (ad.add (i * 17)).add j = ad.add (i * 17 + j) by rcases ad with ⟨b, f, p⟩; unfold Addr.add; split <;> split <;> split <;> simp_all <;> omega]
  exact h1
theorem lawPickFn (c : Int) (n : Nat) (w : World) (h : 0 < n) (hn : n ≤ 4611686018427387904) (h0 : -9223372036854775808 ≤ c) (h1 : c ≤ 9223372036854775807) :
    Calls Tryz.prog 98 #[.int .i64 c, .int .i64 n] w fun e w' => e = .returned (.int .i64 (pickI c n : Nat)) ∧ w = w' := by
  have hp := Lib.hid (pickI_int c n h)
  have hz : ((n : Int) == 0) = false := by simp; omega
  by_cases hc : c < 0
  · have e1 : IntKind.i64.wrap (c + 1) = c + 1 := IntWalk.i64_in _ (by omega)
    have e2 : IntKind.i64.wrap (-(c + 1)) = -(c + 1) := IntWalk.i64_in _ (by omega)
    have hp2 : Hid (((pickI c n : Nat) : Int) = (-(c + 1)) % (n : Int)) := by unfold Hid; rw [hp.out, if_pos hc]
    obtain ⟨d, hd⟩ : ∃ d : Int, d = -(c + 1) := ⟨_, rfl⟩
    have d0 : 0 ≤ d := by omega
    have d1 : d ≤ 9223372036854775807 := by omega
    have Hd := Lib.hid hd
    go_enter Tryz.func98, Tryz.ntmps98
    have hd' := hd.symm
    clear hd
    go_wp2_with fail
    go_ret
    refine ⟨?_, rfl⟩
    rw [hp2.out, ← Hd.out]
    try rfl
  · have hp2 : Hid (((pickI c n : Nat) : Int) = c % (n : Int)) := by unfold Hid; rw [hp.out, if_neg hc]
    have c0 : 0 ≤ c := by omega
    clear hc
    go_enter Tryz.func98, Tryz.ntmps98
    go_wp2_with fail
    go_ret
    refine ⟨?_, rfl⟩
    rw [hp2.out]
    try rfl
theorem lawPick (c : Int) (n k : Nat) (w : World) (hk : k = pickI c n) (h : 0 < n) (hn : n ≤ 4611686018427387904) (h0 : -9223372036854775808 ≤ c) (h1 : c ≤ 9223372036854775807) :
    Calls Tryz.prog 98 #[.int .i64 c, .int .i64 n] w fun e w' => e = .returned (.int .i64 (k : Int)) ∧ w' = w := by
  subst hk; exact (lawPickFn c n w h hn h0 h1).mono fun e w' h => ⟨h.1, h.2.symm⟩
def playedB (kind only : Int) : Bool := if only = 1 then decide (kind = 1 ∨ kind = 2 ∨ kind = 3 ∨ kind = 5) else if only = 2 then decide (kind = 1 ∨ kind = 4 ∨ kind = 3 ∨ kind = 6) else true
theorem played1 (kind : Int) (w : World) (b : Bool) (hb : playedB kind 1 = b) : Calls Tryz.prog 52 #[.int .i64 kind, .int .i64 1] w fun e w' => e = .returned (.bool b) ∧ w' = w := by
  subst hb
  unfold playedB
  rw [if_pos rfl]
  by_cases q1 : kind = 1
  · subst q1
    go_enter Tryz.func52, Tryz.ntmps52
    go_wp2_with fail
    exact bodyPost_ret (results_tmp rfl _ _ _) rfl ⟨rfl, rfl⟩
  have b1 : (kind == 1) = false := by rw [beq_eq_false_iff_ne]; exact q1
  by_cases q2 : kind = 2
  · subst q2
    go_enter Tryz.func52, Tryz.ntmps52
    go_wp2_with fail
    exact bodyPost_ret (results_tmp rfl _ _ _) rfl ⟨rfl, rfl⟩
  have b2 : (kind == 2) = false := by rw [beq_eq_false_iff_ne]; exact q2
  by_cases q3 : kind = 3
  · subst q3
    go_enter Tryz.func52, Tryz.ntmps52
    go_wp2_with fail
    exact bodyPost_ret (results_tmp rfl _ _ _) rfl ⟨rfl, rfl⟩
  have b3 : (kind == 3) = false := by rw [beq_eq_false_iff_ne]; exact q3
  by_cases q5 : kind = 5
  · subst q5
    go_enter Tryz.func52, Tryz.ntmps52
    go_wp2_with fail
    exact bodyPost_ret (results_tmp rfl _ _ _) rfl ⟨rfl, rfl⟩
  have b5 : (kind == 5) = false := by rw [beq_eq_false_iff_ne]; exact q5
  have hd : decide (kind = 1 ∨ kind = 2 ∨ kind = 3 ∨ kind = 5) = false := decide_eq_false (by omega)
  rw [hd]
  clear hd q1 q2 q3 q5
  go_enter Tryz.func52, Tryz.ntmps52
  go_wp2_with fail
  exact bodyPost_ret (results_tmp rfl _ _ _) rfl ⟨rfl, rfl⟩
theorem played2 (kind : Int) (w : World) (b : Bool) (hb : playedB kind 2 = b) : Calls Tryz.prog 52 #[.int .i64 kind, .int .i64 2] w fun e w' => e = .returned (.bool b) ∧ w' = w := by
  subst hb
  unfold playedB
  rw [if_neg (by decide), if_pos rfl]
  by_cases q1 : kind = 1
  · subst q1
    go_enter Tryz.func52, Tryz.ntmps52
    go_wp2_with fail
    exact bodyPost_ret (results_tmp rfl _ _ _) rfl ⟨rfl, rfl⟩
  have b1 : (kind == 1) = false := by rw [beq_eq_false_iff_ne]; exact q1
  by_cases q4 : kind = 4
  · subst q4
    go_enter Tryz.func52, Tryz.ntmps52
    go_wp2_with fail
    exact bodyPost_ret (results_tmp rfl _ _ _) rfl ⟨rfl, rfl⟩
  have b4 : (kind == 4) = false := by rw [beq_eq_false_iff_ne]; exact q4
  by_cases q3 : kind = 3
  · subst q3
    go_enter Tryz.func52, Tryz.ntmps52
    go_wp2_with fail
    exact bodyPost_ret (results_tmp rfl _ _ _) rfl ⟨rfl, rfl⟩
  have b3 : (kind == 3) = false := by rw [beq_eq_false_iff_ne]; exact q3
  by_cases q6 : kind = 6
  · subst q6
    go_enter Tryz.func52, Tryz.ntmps52
    go_wp2_with fail
    exact bodyPost_ret (results_tmp rfl _ _ _) rfl ⟨rfl, rfl⟩
  have b6 : (kind == 6) = false := by rw [beq_eq_false_iff_ne]; exact q6
  have hd : decide (kind = 1 ∨ kind = 4 ∨ kind = 3 ∨ kind = 6) = false := decide_eq_false (by omega)
  rw [hd]
  clear hd q1 q4 q3 q6
  go_enter Tryz.func52, Tryz.ntmps52
  go_wp2_with fail
  exact bodyPost_ret (results_tmp rfl _ _ _) rfl ⟨rfl, rfl⟩
theorem played0 (kind only : Int) (w : World) (h1 : (only == 1) = false) (h2 : (only == 2) = false) : Calls Tryz.prog 52 #[.int .i64 kind, .int .i64 only] w fun e w' => e = .returned (.bool true) ∧ w' = w := by
  go_enter Tryz.func52, Tryz.ntmps52
  go_wp2_with fail
  exact bodyPost_ret (results_tmp rfl _ _ _) rfl ⟨rfl, rfl⟩
theorem playedFn (kind only : Int) (w : World) (ho : only = 0 ∨ only = 1 ∨ only = 2 ∨ only = 3 ∨ only = 4 ∨ only = 5) : Calls Tryz.prog 52 #[.int .i64 kind, .int .i64 only] w fun e w' => e = .returned (.bool (playedB kind only)) ∧ w' = w := by
  rcases ho with rfl | rfl | rfl | rfl | rfl | rfl
  · exact played0 kind 0 w rfl rfl
  · exact played1 kind w _ rfl
  · exact played2 kind w _ rfl
  · exact played0 kind 3 w rfl rfl
  · exact played0 kind 4 w rfl rfl
  · exact played0 kind 5 w rfl rfl
def wOp (o : OpD) : Nat := o.s.length + o.c.name.length + o.c.digest.length
def umF (u : Nat → Value) : Act := ⟨#[u 0, u 1, u 2, u 3, u 4, u 5, u 6, u 7, u 8, u 9, u 10, u 11, u 12, u 13, u 14, u 15, u 16, u 17, u 18, u 19, u 20, u 21, u 22, u 23, u 24, u 25, u 26, u 27, u 28, u 29, u 30, u 31, u 32, u 33], []⟩
set_option maxRecDepth 100000 in
theorem umF_eq (u : Nat → Value) : umF u = frN 34 u := rfl
theorem umF_of {a : Act} (h : Sz 34 a) : a = umF (sl a) := h.eq.trans (umF_eq _).symm
theorem umR0  (a : Act) (w : World) (K : Exit → Act → World → Prop) (hs : Sz 34 a)
     
    (hK : ∀ a' w', Sz 34 a' → Kp [0, 3, 5, 8, 9, 10] a a' → w' = w → K .normal a' w') :
    (regionOf Tryz.f22 0).wp Tryz.prog K a w := by
  unfold Kp at hK; rw [umF_of hs]; clear hs; generalize sl a = u at *; clear a; have HK := Lib.hid hK; clear hK; conv => arg 2; whnf
  simp only [umF]
  go_wp2_with fail
  exact HK.out _ _  ⟨rfl, rfl⟩ (Kc rfl (Kc rfl (Kc rfl (Kc rfl (Kc rfl (Kc rfl (Kn _ _)))))))  rfl
theorem umR1 (A : Option Addr) (n cap : Nat) (a : Act) (w : World) (K : Exit → Act → World → Prop) (hs : Sz 34 a)
    (h0 : sl a 0 = .slice A n cap) 
    (hK : ∀ a' w', Sz 34 a' → Kp [0, 5, 8, 9, 10] a a' → sl a' 3 = .int .i64 (n : Int) → w' = w → K .normal a' w') :
    (regionOf Tryz.f22 1).wp Tryz.prog K a w := by
  unfold Kp at hK; rw [umF_of hs]; clear hs; generalize sl a = u at *; clear a; have HK := Lib.hid hK; clear hK; conv => arg 2; whnf
  simp only [umF, h0]
  go_wp2_with fail
  exact HK.out _ _  ⟨rfl, rfl⟩ (Kc h0.symm (Kc rfl (Kc rfl (Kc rfl (Kc rfl (Kn _ _)))))) (rfl) rfl
theorem umR2 (A : Option Addr) (n cap : Nat) (a : Act) (w : World) (K : Exit → Act → World → Prop) (hs : Sz 34 a)
    (h0 : sl a 0 = .slice A n cap) 
    (hK : ∀ a' w', Sz 34 a' → Kp [0, 3, 5] a a' → sl a' 8 = .slice A n cap → sl a' 9 = .int .i64 (n : Int) → sl a' 10 = .int .i64 ((0 : Nat) : Int) → w' = w → K .normal a' w') :
    (regionOf Tryz.f22 2).wp Tryz.prog K a w := by
  unfold Kp at hK; rw [umF_of hs]; clear hs; generalize sl a = u at *; clear a; have HK := Lib.hid hK; clear hK; conv => arg 2; whnf
  simp only [umF, h0]
  go_wp2_with fail
  exact HK.out _ _  ⟨rfl, rfl⟩ (Kc h0.symm (Kc rfl (Kc rfl (Kn _ _)))) (rfl) (rfl) (rfl) rfl
theorem umR3 (i n : Nat) (a : Act) (w : World) (K : Exit → Act → World → Prop) (hs : Sz 34 a)
    (h9 : sl a 9 = .int .i64 (n : Int)) (h10 : sl a 10 = .int .i64 (i : Int)) 
    (hK : ∀ a' w', Sz 34 a' → Kp [0, 3, 5, 8, 9, 10] a a' → sl a' 11 = .bool (decide (i < n)) → w' = w → K .normal a' w') :
    (regionOf Tryz.f22 3).wp Tryz.prog K a w := by
  unfold Kp at hK; rw [umF_of hs]; clear hs; generalize sl a = u at *; clear a; have HK := Lib.hid hK; clear hK; conv => arg 2; whnf
  simp only [umF, h9, h10]
  go_wp2_with fail
  exact HK.out _ _  ⟨rfl, rfl⟩ (Kc rfl (Kc rfl (Kc rfl (Kc rfl (Kc h9.symm (Kc h10.symm (Kn _ _))))))) (congrArg Value.bool (decide_eq_decide.2 (by omega))) rfl
theorem umR4 (ad : Addr) (n cap i : Nat) (cs : Array Value) (a : Act) (w : World) (K : Exit → Act → World → Prop) (hs : Sz 34 a)
    (h8 : sl a 8 = .slice (some ad) n cap) (h10 : sl a 10 = .int .i64 (i : Int)) (hi : i < n) (hc : ∀ (j : Nat) (u : Value), cs[j]? = some u → w.cell? ((ad.add (i * 17)).add j) = some u) (hss : cs.size = 17) (hone : cs.all (·.oneCell') = true)
    (hK : ∀ a' w', Sz 34 a' → Kp [0, 3, 8, 9, 10] a a' → sl a' 5 = .pointer (some ⟨w.heap.size, 0, none⟩) → Fr noB w w' → Bk w' w.heap.size 114 cs → K .normal a' w') :
    (regionOf Tryz.f22 4).wp Tryz.prog K a w := by
  unfold Kp at hK; rw [umF_of hs]; clear hs; generalize sl a = u at *; clear a; have HK := Lib.hid hK; clear hK; conv => arg 2; whnf
  simp only [umF, h8, h10]
  have hu := Tryz.underlying114
  have hi2 : (Tryz.prog.info? 114).map (·.size) = some cs.size := by rw [hss]; exact opInfo
  have H := Lib.hid (And.intro hss hone)
  clear hss hone
  have HC := Lib.hid hc
  clear hc
  go_wp2_with (first | (refine wpList_load_at rfl 114 (.tmp 12) rfl (ad.add (i * 17)) rfl cs _ HC.out hu rfl hi2 ?_) | (refine wpList_store_bk rfl 114 (.tmp 5) (.tmp 13) rfl w.heap.size _ _ cs rfl rfl (Bk.new w 114 zOp) H.out.1 hi2 H.out.2 ?_; intro w5 hx5 hf5))
  exact HK.out _ _  ⟨rfl, rfl⟩ (Kc rfl (Kc rfl (Kc h8.symm (Kc rfl (Kc h10.symm (Kn _ _)))))) (rfl) ((((Fr.refl noB w).alloc _)).trans' hf5 (fun b hb e => by have e' : b = w.heap.size := e; omega)) hx5
theorem umR5 (t : Nat) (g : Nat) (x y u2 : List UInt8) (r : Int) (a : Act) (w : World) (K : Exit → Act → World → Prop) (hs : Sz 34 a)
    (h3 : sl a 3 = .int .i64 (t : Int)) (h5 : sl a 5 = .pointer (some ⟨g, 0, none⟩)) (c9 : w.cell? ⟨g, 9, none⟩ = some (.string (bs y))) (c11 : w.cell? ⟨g, 11, none⟩ = some (.string (bs u2))) (c16 : w.cell? ⟨g, 16, none⟩ = some (.string (bs x))) (q1 : IntKind.i64.wrap ((x.length : Int) + (y.length : Int)) = (x.length : Int) + (y.length : Int)) (q2 : IntKind.i64.wrap ((x.length : Int) + (y.length : Int) + (u2.length : Int)) = (x.length : Int) + (y.length : Int) + (u2.length : Int)) (q3 : IntKind.i64.wrap ((t : Int) + ((x.length : Int) + (y.length : Int) + (u2.length : Int))) = r)
    (hK : ∀ a' w', Sz 34 a' → Kp [0, 5, 8, 9, 10] a a' → sl a' 3 = .int .i64 r → w' = w → K .normal a' w') :
    (regionOf Tryz.f22 5).wp Tryz.prog K a w := by
  unfold Kp at hK; rw [umF_of hs]; clear hs; generalize sl a = u at *; clear a; have HK := Lib.hid hK; clear hK; conv => arg 2; whnf
  simp only [umF, h3, h5]
  clear h3
  go_wp2_with fail
  exact HK.out _ _  ⟨rfl, rfl⟩ (Kc rfl (Kc h5.symm (Kc rfl (Kc rfl (Kc rfl (Kn _ _)))))) (rfl) rfl
theorem umR6 (t : Nat) (a : Act) (w : World) (K : Exit → Act → World → Prop) (hs : Sz 34 a)
    (h3 : sl a 3 = .int .i64 (t : Int)) 
    (hK : ∀ a' w', Sz 34 a' → Kp [0, 3, 5, 8, 9, 10] a a' → sl a' 30 = .bool (decide (65536 < t)) → w' = w → K .normal a' w') :
    (regionOf Tryz.f22 6).wp Tryz.prog K a w := by
  unfold Kp at hK; rw [umF_of hs]; clear hs; generalize sl a = u at *; clear a; have HK := Lib.hid hK; clear hK; conv => arg 2; whnf
  simp only [umF, h3]
  go_wp2_with fail
  exact HK.out _ _  ⟨rfl, rfl⟩ (Kc rfl (Kc h3.symm (Kc rfl (Kc rfl (Kc rfl (Kc rfl (Kn _ _))))))) (congrArg Value.bool (decide_eq_decide.2 (by omega))) rfl
theorem umR7  (a : Act) (w : World) (K : Exit → Act → World → Prop) (hs : Sz 34 a)
     
    (hK : ∀ a' w', Sz 34 a' → Kp [0, 3, 5, 8, 9, 10] a a' → sl a' 2 = .bool false → w' = w → K .normal a' w') :
    (regionOf Tryz.f22 7).wp Tryz.prog K a w := by
  unfold Kp at hK; rw [umF_of hs]; clear hs; generalize sl a = u at *; clear a; have HK := Lib.hid hK; clear hK; conv => arg 2; whnf
  simp only [umF]
  go_wp2_with fail
  exact HK.out _ _  ⟨rfl, rfl⟩ (Kc rfl (Kc rfl (Kc rfl (Kc rfl (Kc rfl (Kc rfl (Kn _ _))))))) (rfl) rfl
theorem umR8 (i j : Nat) (a : Act) (w : World) (K : Exit → Act → World → Prop) (hs : Sz 34 a)
    (h10 : sl a 10 = .int .i64 (i : Int)) (q : IntKind.i64.wrap ((i : Int) + 1) = (j : Int))
    (hK : ∀ a' w', Sz 34 a' → Kp [0, 3, 5, 8, 9] a a' → sl a' 10 = .int .i64 (j : Int) → w' = w → K .normal a' w') :
    (regionOf Tryz.f22 8).wp Tryz.prog K a w := by
  unfold Kp at hK; rw [umF_of hs]; clear hs; generalize sl a = u at *; clear a; have HK := Lib.hid hK; clear hK; conv => arg 2; whnf
  simp only [umF, h10]
  clear h10
  go_wp2_with fail
  exact HK.out _ _  ⟨rfl, rfl⟩ (Kc rfl (Kc rfl (Kc rfl (Kc rfl (Kc rfl (Kn _ _)))))) (rfl) rfl
theorem umR9 (t : Nat) (a : Act) (w : World) (K : Exit → Act → World → Prop) (hs : Sz 34 a)
    (h3 : sl a 3 = .int .i64 (t : Int)) 
    (hK : ∀ a' w', Sz 34 a' → Kp [0, 3, 5, 8, 9, 10] a a' → sl a' 2 = .bool (decide (t ≤ 65536)) → w' = w → K .normal a' w') :
    (regionOf Tryz.f22 9).wp Tryz.prog K a w := by
  unfold Kp at hK; rw [umF_of hs]; clear hs; generalize sl a = u at *; clear a; have HK := Lib.hid hK; clear hK; conv => arg 2; whnf
  simp only [umF, h3]
  go_wp2_with fail
  exact HK.out _ _  ⟨rfl, rfl⟩ (Kc rfl (Kc h3.symm (Kc rfl (Kc rfl (Kc rfl (Kc rfl (Kn _ _))))))) (congrArg Value.bool (decide_eq_decide.2 (by omega))) rfl
def Lens (l : List OpD) : Prop := ∀ o ∈ l, o.s.length ≤ 140737488355328 ∧ o.c.name.length ≤ 140737488355328 ∧ o.c.digest.length ≤ 140737488355328
def totN (l : List OpD) (n : Nat) : Nat := n + (l.map wOp).sum
theorem totN_snoc (l : List OpD) (o : OpD) (n : Nat) : totN (l ++ [o]) n = totN l n + wOp o := by unfold totN; rw [List.map_append, List.sum_append]; simp; omega
theorem totN_take (l : List OpD) (i n : Nat) : totN (l.take i) n ≤ totN l n := by
  unfold totN
  have : (l.map wOp).sum = ((l.take i).map wOp).sum + ((l.drop i).map wOp).sum := by rw [← List.sum_append, ← List.map_append, List.take_append_drop]
  omega
theorem smallFn (l : List OpD) (A : Option Addr) (cap : Nat) (w : World) (h : SlR w noB 17 A l.length (scrC l)) (hl : Lens l) (hn : l.length ≤ 140737488355328) :
    Calls Tryz.prog 22 #[.slice A l.length cap] w fun e w' => e = .returned (.bool (decide (totN l l.length ≤ 65536))) ∧ Fr noB w w' := by
  go_enter Tryz.func22, Tryz.ntmps22
  refine wp_seq ?_
  refine umR0 _ w _ ⟨rfl, rfl⟩ ?_
  intro a0 w0 hs0 k0 hw; subst w0
  have e0 : sl a0 0 = .slice A l.length cap := (k0 0 (by decide)).trans rfl
  clear k0
  refine wp_seq ?_
  refine umR1 A l.length cap a0 w _ hs0 e0 ?_
  intro a1 w1 hs1 k1 o3 hw; subst w1
  refine wp_seq (wp_seq ?_)
  refine umR2 A l.length cap a1 w _ hs1 ((k1 0 (by decide)).trans e0) ?_
  intro a2 w2 hs2 k2 o8 o9 o10 hw; subst w2
  have o3 := (k2 3 (by decide)).trans o3
  clear k1 k2
  refine wp_block ?_
  refine wp_loop_sz 34 (fun a' w' => ∃ i : Nat, i ≤ l.length ∧ (0 < i → totN (l.take i) l.length ≤ 65536) ∧ sl a' 10 = .int .i64 (i : Int) ∧ sl a' 3 = .int .i64 ((totN (l.take i) l.length : Nat) : Int) ∧ Kp [8, 9] a2 a' ∧ Fr noB w w') (fun a' _ => l.length - (intOf (sl a' 10)).toNat)
    hs2 ⟨0, Nat.zero_le _, fun h => absurd h (by decide), o10, by rw [o3]; simp [totN], Kp.refl _ _, Fr.refl _ _⟩ ?_
  rintro b1 v1 hs1' ⟨i, hi, ht, i10, i3, j1, f1⟩
  refine wp_seq ?_
  refine umR3 i l.length b1 v1 _ hs1' ((j1 9 (by decide)).trans o9) i10 ?_
  intro b2 v2 hs2' j2 i11 hw; subst v2
  refine wp_seq ?_
  have i3 := (j2 3 (by decide)).trans i3
  refine wp_if i11 (fun hb => ?_) (fun hb => ?_)
  rotate_left
  · have hin : i = l.length := by have := of_decide_eq_false hb; omega
    rw [hin, List.take_length] at i3
    refine wp_exit (then_exit (then_exit (inBlock_self ?_)))
    refine wp_seq ?_
    refine umR9 _ b2 v1 _ hs2' i3 ?_
    intro b3 v3 hs3' j3 o2 hw; subst v3
    refine wp_ret ?_
    exact bodyPost_ret (results_tmp rfl _ _ _) hs3'.defers ⟨by rw [show b3.tmps.getD 2 undef = _ from o2], f1⟩
  have hlt := of_decide_eq_true hb
  obtain ⟨op, hop⟩ : ∃ op, l[i]? = some op := ⟨_, List.getElem?_eq_getElem hlt⟩
  obtain ⟨ad, hA, hc⟩ := scr_cells (h.keep f1) hop
  have htl : l.take (i + 1) = l.take i ++ [op] := by rw [List.take_add_one, hop]; rfl
  have hlen := hl op (List.mem_of_getElem? hop)
  refine wp_skip ?_
  refine wp_seq (wp_block (wp_seq ?_))
  refine umR4 ad l.length cap i (opC op) b2 v1 _ hs2' (by rw [← hA]; exact (j2 8 (by decide)).trans ((j1 8 (by decide)).trans o8)) ((j2 10 (by decide)).trans i10) hlt hc (opC_size op) (opC_one op) ?_
  intro b3 v3 hs3' j3 o5 f3 hB3
  have i3 := (j3 3 (by decide)).trans i3
  have i10' := (j3 10 (by decide)).trans ((j2 10 (by decide)).trans i10)
  have j13 : Kp [8, 9] a2 b3 := fun x hx => (j3 x (by revert hx; revert x; decide)).trans ((j2 x (by revert hx; revert x; decide)).trans (j1 x hx))
  refine wp_seq ?_
  have key : ∀ J : Exit → Act → World → Prop, (∀ a' , Sz 34 a' → Kp [8, 9, 10] b3 a' → sl a' 3 = .int .i64 ((totN (l.take (i + 1)) l.length : Nat) : Int) → J .normal a' v3) → (totN (l.take i) l.length ≤ 140737488355328) → (regionOf Tryz.f22 5).wp Tryz.prog J b3 v3 := fun J hJ hb => by
    have hw1 := hlen.1
    have hw2 := hlen.2.1
    have hw3 := hlen.2.2
    have ew : wOp op = op.s.length + op.c.name.length + op.c.digest.length := rfl
    refine umR5 _ _ op.s op.c.name op.c.digest  ((totN (l.take (i + 1)) l.length : Nat) : Int) b3 v3 J hs3' i3 o5 (hB3.cell 9) (hB3.cell 11) (hB3.cell 16) (IntWalk.i64_in _ (by omega)) (IntWalk.i64_in _ (by omega)) ((IntWalk.i64_in _ (by omega)).trans (by rw [htl, totN_snoc]; omega)) ?_
    intro b4 v4 hs4' j4 o3 hw; subst v4
    exact hJ b4 hs4' (fun i hi => j4 i (by revert hi; revert i; decide)) o3
  refine key _ ?_ (by rcases Nat.eq_zero_or_pos i with h0 | h0; (subst h0; simpa [totN] using hn); (have := ht h0; omega))
  intro b4 hs4' j4 o3
  refine wp_seq ?_
  refine umR6 _ b4 v3 _ hs4' o3 ?_
  intro b5 v5 hs5' j5 o30 hw; subst v5
  refine wp_if o30 (fun hb => ?_) (fun hb => ?_)
  · have hgt := of_decide_eq_true hb
    have hno : ¬ totN l l.length ≤ 65536 := by have := totN_take l (i + 1) l.length; omega
    refine wp_seq ?_
    refine umR7 b5 v3 _ hs5' ?_
    intro b6 v6 hs6' j6 o2 hw; subst v6
    refine wp_ret ?_
    have hp : bodyPost Tryz.prog Tryz.f22 (fun e w' => e = .returned (.bool (decide (totN l l.length ≤ 65536))) ∧ Fr noB w w') .ret b6 v3 := bodyPost_ret (results_tmp rfl _ _ _) hs6'.defers ⟨by rw [show b6.tmps.getD 2 undef = _ from o2, decide_eq_false hno], f1.none f3⟩
    exact hp
  have hle : totN (l.take (i + 1)) l.length ≤ 65536 := by have := of_decide_eq_false hb; omega
  refine wp_skip ?_
  refine umR8 i (i + 1) b5 v3 _ hs5' ((j5 10 (by decide)).trans ((j4 10 (by decide)).trans i10')) ((IntWalk.i64_in _ (by omega)).trans (by omega)) ?_
  intro b6 v6 hs6' j6 o10 hw; subst v6
  refine ⟨hs6', ⟨i + 1, by omega, fun _ => hle, o10, (j6 3 (by decide)).trans ((j5 3 (by decide)).trans o3), fun x hx => (j6 x (by revert hx; revert x; decide)).trans ((j5 x (by revert hx; revert x; decide)).trans ((j4 x (by revert hx; revert x; decide)).trans (j13 x hx))), f1.none f3⟩, ?_⟩
  rw [o10, i10]; simp only [intOf]; omega
end Go.Proofs.YtcbkaiakdhiloabGreatDoor
namespace Go.Proofs.YtcbkaiakdhiloabGreatDoor
open Go.RowKit Go.Proofs
structure Pr where
  L : Lay
  p : Nat
  M : MLay
  s : St
def pown (x : Pr) (b : Nat) : Prop := own' x.L b ∨ mown x.p x.M b
structure PairAt (base : Nat) (w : World) (T : Nat) (x : Pr) : Prop where
  b : BootAt w x.L x.s
  m : ModelAt w x.p T x.M x.s
  d : ∀ k, own' x.L k → ¬ mown x.p x.M k
  lo : ∀ k, pown x k → base ≤ k
theorem PairAt.lt {base : Nat} {w : World} {T : Nat} {x : Pr} (h : PairAt base w T x) : ∀ k, pown x k → k < w.heap.size := fun k hk => hk.elim (h.b.lt k) (h.m.lt k)
structure Low (base : Nat) : Prop where
  g : ∀ b, glB b → b < base
  a : 4 < base
theorem PairAt.keep {base : Nat} {w w' : World} {S : Nat → Prop} {T : Nat} {x : Pr} (h : PairAt base w T x) (hl : Low base) (hf : Fr S w w') (hS : ∀ k, pown x k → ¬ S k) (h0 : ∀ k, S k → base ≤ k ∨ w.heap.size ≤ k) : PairAt base w' T x := by
  have hlo : ∀ b, b < base → ¬ S b := fun b hb hx => by
    rcases h0 b hx with h1 | h1
    · omega
    · have := h.lo x.p (.inr (mown_p _ _)); have := h.lt x.p (.inr (mown_p _ _)); omega
  exact ⟨h.b.keep hf (fun k hk => hS k (.inl hk)) (fun b hb => hlo b (hl.g b hb)), h.m.keep hf (fun k hk => hS k (.inr hk)) (hlo _ hl.a), h.d, h.lo⟩
structure PairsAt (base : Nat) (w : World) (T : Nat) (l : List Pr) : Prop where
  at_ : ∀ (i : Nat) (x : Pr), l[i]? = some x → PairAt base w T x
  dj : ∀ (i j : Nat) (x y : Pr), i ≠ j → l[i]? = some x → l[j]? = some y → ∀ k, pown x k → ¬ pown y k
theorem PairsAt.nil (base : Nat) (w : World) (T : Nat) : PairsAt base w T [] := ⟨fun i x h => (by simp at h), fun i j x y _ h => (by simp at h)⟩
theorem PairsAt.keep {base : Nat} {w w' : World} {S : Nat → Prop} {T : Nat} {l : List Pr} (h : PairsAt base w T l) (hl : Low base) (hf : Fr S w w') (hS : ∀ (i : Nat) (x : Pr), l[i]? = some x → ∀ k, pown x k → ¬ S k) (h0 : ∀ k, S k → base ≤ k ∨ w.heap.size ≤ k) : PairsAt base w' T l :=
  ⟨fun i x hx => (h.at_ i x hx).keep hl hf (hS i x hx) h0, h.dj⟩
theorem PairsAt.one {base : Nat} {w w' : World} {T : Nat} {l : List Pr} {i : Nat} {x x' : Pr} (h : PairsAt base w T l) (hl : Low base) (hx : l[i]? = some x) (hf : Fr (pown x) w w') (hx' : PairAt base w' T x') (ho : ∀ k, pown x' k → pown x k ∨ w.heap.size ≤ k) : PairsAt base w' T (l.set i x') := by
  have hil : i < l.length := by
    rcases Nat.lt_or_ge i l.length with h1 | h1
    · exact h1
    · rw [List.getElem?_eq_none h1] at hx; cases hx
  have key : ∀ (j : Nat) (y : Pr), (l.set i x')[j]? = some y → (j = i ∧ y = x') ∨ (j ≠ i ∧ l[j]? = some y) := by
    intro j y hy
    by_cases e : i = j
    · subst e
      rw [List.getElem?_set_self hil] at hy
      injection hy with hy; exact .inl ⟨rfl, hy.symm⟩
    · rw [List.getElem?_set_ne e] at hy; exact .inr ⟨fun e2 => e e2.symm, hy⟩
  refine ⟨fun j y hy => ?_, fun j k y z hjk hy hz b hb hb' => ?_⟩
  · rcases key j y hy with ⟨rfl, rfl⟩ | ⟨hne, hy⟩
    · exact hx'
    · exact (h.at_ j y hy).keep hl hf (fun k hk hk' => h.dj j i y x hne hy hx k hk hk') (fun k hk => .inl ((h.at_ i x hx).lo k hk))
  · rcases key j y hy with ⟨rfl, rfl⟩ | ⟨hne, hy2⟩
    · rcases key k z hz with ⟨rfl, rfl⟩ | ⟨hne2, hz⟩
      · exact hjk rfl
      · rcases ho b hb with h1 | h1
        · exact h.dj j k x z hjk hx hz b h1 hb'
        · have := (h.at_ k z hz).lt b hb'; omega
    · rcases key k z hz with ⟨rfl, rfl⟩ | ⟨hne2, hz⟩
      · rcases ho b hb' with h1 | h1
        · exact h.dj j k y x hjk hy2 hx b hb h1
        · have := (h.at_ j y hy2).lt b hb; omega
      · exact h.dj j k y z hjk hy2 hz b hb hb'
theorem PairsAt.more {base : Nat} {w w' : World} {T : Nat} {l : List Pr} {x' : Pr} (h : PairsAt base w T l) (hl : Low base) (hf : Fr noB w w') (hx' : PairAt base w' T x') (ho : ∀ k, pown x' k → w.heap.size ≤ k) : PairsAt base w' T (l ++ [x']) := by
  have h' := h.keep hl hf (fun _ _ _ _ _ y => y) (fun _ y => y.elim)
  have key : ∀ (j : Nat) (y : Pr), (l ++ [x'])[j]? = some y → (j = l.length ∧ y = x') ∨ (j < l.length ∧ l[j]? = some y) := by
    intro j y hy
    rcases Nat.lt_or_ge j l.length with h1 | h1
    · rw [List.getElem?_append_left h1] at hy; exact .inr ⟨h1, hy⟩
    · rw [List.getElem?_append_right h1] at hy
      rcases Nat.eq_zero_or_pos (j - l.length) with h2 | h2
      · rw [h2] at hy; injection hy with hy; exact .inl ⟨by omega, hy.symm⟩
      · rw [List.getElem?_eq_none (by simp; omega)] at hy; cases hy
  refine ⟨fun j y hy => ?_, fun j k y z hjk hy hz b hb hb' => ?_⟩
  · rcases key j y hy with ⟨rfl, rfl⟩ | ⟨_, hy⟩
    · exact hx'
    · exact h'.at_ j y hy
  · rcases key j y hy with ⟨rfl, rfl⟩ | ⟨h1, hy2⟩
    · rcases key k z hz with ⟨rfl, rfl⟩ | ⟨h2, hz⟩
      · exact hjk rfl
      · have := (h.at_ k z hz).lt b hb'; have := ho b hb; omega
    · rcases key k z hz with ⟨rfl, rfl⟩ | ⟨h2, hz⟩
      · have := (h.at_ j y hy2).lt b hb; have := ho b hb'; omega
      · exact h.dj j k y z hjk hy2 hz b hb hb'
def pairF (x : Pr) : List Value := [.pointer (some ⟨x.L.p, 0, none⟩), .pointer (some ⟨x.p, 0, none⟩)]
def pairC (l : List Pr) : List Value := l.flatMap pairF
theorem pairC_at (l : List Pr) (i : Nat) (x : Pr) (j : Nat) (u : Value) (h : l[i]? = some x) (hj : (pairF x)[j]? = some u) : (pairC l)[i * 2 + j]? = some u := flat_at pairF 2 (fun _ => rfl) l i x j u h hj
theorem pairC_app (l : List Pr) (x : Pr) : pairC (l ++ [x]) = pairC l ++ pairF x := by unfold pairC; rw [List.flatMap_append]; simp
theorem pairC_set (l : List Pr) (i : Nat) (x x' : Pr) (h : l[i]? = some x) (h1 : x'.L.p = x.L.p) (h2 : x'.p = x.p) : pairC (l.set i x') = pairC l := by
  unfold pairC
  induction l generalizing i with
  | nil => rfl
  | cons a r ih =>
    cases i with
    | zero => cases h; simp [pairF, h1, h2]
    | succ i => rw [List.set_cons_succ, List.flatMap_cons, List.flatMap_cons, ih i h]
structure WldAt (base : Nat) (w : World) (g T : Nat) (l : List Pr) (A : Option Addr) (cap : Nat) : Prop where
  bk : Bk w g 120 #[.pointer (some ⟨T, 0, none⟩), .slice A l.length cap, .bool false]
  row : w.ownsRow base 171 2 (.slice A l.length cap) l.length (pairC l)
  ps : PairsAt base w T l
  go : base ≤ g
  gn : ∀ (i : Nat) (x : Pr), l[i]? = some x → ¬ pown x g
  rg : ∀ b, (Value.slice A l.length cap).ownBlock = some b → b ≠ g
  rn : ∀ b, (Value.slice A l.length cap).ownBlock = some b → ∀ (i : Nat) (x : Pr), l[i]? = some x → ¬ pown x b
theorem WldAt.one {base : Nat} {w w' : World} {g T : Nat} {l : List Pr} {A : Option Addr} {cap i : Nat} {x x' : Pr} (h : WldAt base w g T l A cap) (hl : Low base) (hx : l[i]? = some x) (hf : Fr (pown x) w w') (hx' : PairAt base w' T x') (ho : ∀ k, pown x' k → pown x k ∨ w.heap.size ≤ k) (h1 : x'.L.p = x.L.p) (h2 : x'.p = x.p) : WldAt base w' g T (l.set i x') A cap := by
  have hlen : (l.set i x').length = l.length := List.length_set ..
  have hmem : ∀ (j : Nat) (y : Pr), (l.set i x')[j]? = some y → y = x' ∨ l[j]? = some y := by
    intro j y hy
    have hil : i < l.length := by
      rcases Nat.lt_or_ge i l.length with h1 | h1
      · exact h1
      · rw [List.getElem?_eq_none h1] at hx; cases hx
    by_cases e : i = j
    · subst e
      rw [List.getElem?_set_self hil] at hy
      injection hy with hy; exact .inl hy.symm
    · rw [List.getElem?_set_ne e] at hy; exact .inr hy
  have hgl := h.bk.lt
  have hrow : w'.ownsRow base 171 2 (.slice A l.length cap) l.length (pairC l) := by
    refine ⟨h.row.1, ?_⟩
    rcases h.row.2 with h3 | ⟨b, cp, cur, h3, h4, h5, h6⟩
    · exact .inl h3
    · have hbl : b < w.heap.size := (Array.getElem?_eq_some_iff.1 h5).1
      exact .inr ⟨b, cp, cur, h3, h4, (hf.block b hbl (h.rn b (by rw [h3]; rfl) i x hx)).trans h5, h6⟩
  refine ⟨by rw [hlen]; exact h.bk.keep hf (h.gn i x hx), by rw [hlen, pairC_set l i x x' hx h1 h2]; exact hrow, h.ps.one hl hx hf hx' ho, h.go, fun j y hy hk => ?_, by rw [hlen]; exact h.rg, fun b hb j y hy hk => ?_⟩
  · rcases hmem j y hy with rfl | hy
    · rcases ho g hk with h3 | h3
      · exact h.gn i x hx h3
      · omega
    · exact h.gn j y hy hk
  · rw [hlen] at hb
    rcases hmem j y hy with rfl | hy
    · rcases ho b hk with h3 | h3
      · exact h.rn b hb i x hx h3
      · have := (h.row.lt b hb).2; omega
    · exact h.rn b hb j y hy hk
end Go.Proofs.YtcbkaiakdhiloabGreatDoor
namespace Go.Proofs.YtcbkaiakdhiloabGreatDoor
open Go.RowKit Go.Proofs
attribute [local go_sem] bs_size bs_append bs_sub bs_toList
theorem refWriteEther (ty : Nat) (ld : List UInt8) (m0 m1 m2 m3 m4 m5 n0 n1 n2 n3 n4 n5 : UInt8) (w : World) (hty : ty < 65536) (hld : ld.length ≤ 9223372036854775807) :
    Calls Tryz.prog 261 #[.agg #[.int .u8 (m0.toNat : Int), .int .u8 (m1.toNat : Int), .int .u8 (m2.toNat : Int), .int .u8 (m3.toNat : Int), .int .u8 (m4.toNat : Int), .int .u8 (m5.toNat : Int), .int .u8 (n0.toNat : Int), .int .u8 (n1.toNat : Int), .int .u8 (n2.toNat : Int), .int .u8 (n3.toNat : Int), .int .u8 (n4.toNat : Int), .int .u8 (n5.toNat : Int), .int .u16 (ty : Int), .string (bs ld)]] w (strPost (wrEther (m0, m1, m2, m3, m4, m5) (n0, n1, n2, n3, n4, n5) ty ld) w) := by
  have hpa := Bk.new w 27 #[.int .u8 (m0.toNat : Int), .int .u8 (m1.toNat : Int), .int .u8 (m2.toNat : Int), .int .u8 (m3.toNat : Int), .int .u8 (m4.toNat : Int), .int .u8 (m5.toNat : Int), .int .u8 (n0.toNat : Int), .int .u8 (n1.toNat : Int), .int .u8 (n2.toNat : Int), .int .u8 (n3.toNat : Int), .int .u8 (n4.toNat : Int), .int .u8 (n5.toNat : Int), .int .u16 (ty : Int), .string (bs ld)]
  have hpa0 := hpa.cells
  go_enter Tryz.func261, Tryz.ntmps261
  by_cases h1 : ty < 1536
  · have hs : Hid (wrEther (m0, m1, m2, m3, m4, m5) (n0, n1, n2, n3, n4, n5) ty ld = ([], 3)) := by unfold Hid wrEther; rw [if_pos h1]
    have b1 : (ty : Int) < 1536 := by omega
    clear h1
    go_wp2_with fail
    go_ret2
    exact ⟨by rw [hs.out]; rfl, (Fr.refl _ _).alloc _⟩
  have b1 : ¬ (ty : Int) < 1536 := by omega
  by_cases h2 : 1500 < ld.length
  · have hs : Hid (wrEther (m0, m1, m2, m3, m4, m5) (n0, n1, n2, n3, n4, n5) ty ld = ([], 7)) := by unfold Hid wrEther; rw [if_neg h1, if_pos h2]
    have b2 : 1500 < (ld.length : Int) := by omega
    clear h1 h2
    go_wp2_with fail
    go_ret2
    exact ⟨by rw [hs.out]; rfl, (Fr.refl _ _).alloc _⟩
  have b2 : ¬ 1500 < (ld.length : Int) := by omega
  have hs : Hid (wrEther (m0, m1, m2, m3, m4, m5) (n0, n1, n2, n3, n4, n5) ty ld = (ethBytes (m0, m1, m2, m3, m4, m5) (n0, n1, n2, n3, n4, n5) ty ld, 0)) := by unfold Hid wrEther; rw [if_neg h1, if_neg h2]
  have hl2 : ld.length ≤ 1500 := by omega
  clear h1 h2
  go_upto_if 10 with fail
  go_cut [2, 3] from 4 to 10 (fun a b wx => a = .string ⟨#[]⟩ ∧ b = .int .i64 0 ∧ wx = w.alloc (.cells #[.int .u8 (m0.toNat : Int), .int .u8 (m1.toNat : Int), .int .u8 (m2.toNat : Int), .int .u8 (m3.toNat : Int), .int .u8 (m4.toNat : Int), .int .u8 (m5.toNat : Int), .int .u8 (n0.toNat : Int), .int .u8 (n1.toNat : Int), .int .u8 (n2.toNat : Int), .int .u8 (n3.toNat : Int), .int .u8 (n4.toNat : Int), .int .u8 (n5.toNat : Int), .int .u16 (ty : Int), .string (bs ld)] 27))
  case first =>
    go_wp2_with fail
    go_meet
    case rel => exact ⟨rfl, rfl, rfl⟩
  case rest =>
  obtain ⟨rfl, rfl, rfl⟩ := hcut
  clear hpa0
  go_upto_region 5 with fail
  have hf0 : Fr noB w (w.alloc (.cells #[.int .u8 (m0.toNat : Int), .int .u8 (m1.toNat : Int), .int .u8 (m2.toNat : Int), .int .u8 (m3.toNat : Int), .int .u8 (m4.toNat : Int), .int .u8 (m5.toNat : Int), .int .u8 (n0.toNat : Int), .int .u8 (n1.toNat : Int), .int .u8 (n2.toNat : Int), .int .u8 (n3.toNat : Int), .int .u8 (n4.toNat : Int), .int .u8 (n5.toNat : Int), .int .u16 (ty : Int), .string (bs ld)] 27)) := (Fr.refl _ _).alloc _
  have hsz : (w.alloc (.cells #[.int .u8 (m0.toNat : Int), .int .u8 (m1.toNat : Int), .int .u8 (m2.toNat : Int), .int .u8 (m3.toNat : Int), .int .u8 (m4.toNat : Int), .int .u8 (m5.toNat : Int), .int .u8 (n0.toNat : Int), .int .u8 (n1.toNat : Int), .int .u8 (n2.toNat : Int), .int .u8 (n3.toNat : Int), .int .u8 (n4.toNat : Int), .int .u8 (n5.toNat : Int), .int .u16 (ty : Int), .string (bs ld)] 27)).heap.size = w.heap.size + 1 := by simp
  generalize w.alloc (.cells #[.int .u8 (m0.toNat : Int), .int .u8 (m1.toNat : Int), .int .u8 (m2.toNat : Int), .int .u8 (m3.toNat : Int), .int .u8 (m4.toNat : Int), .int .u8 (m5.toNat : Int), .int .u8 (n0.toNat : Int), .int .u8 (n1.toNat : Int), .int .u8 (n2.toNat : Int), .int .u8 (n3.toNat : Int), .int .u8 (n4.toNat : Int), .int .u8 (n5.toNat : Int), .int .u16 (ty : Int), .string (bs ld)] 27) = w1 at *
  have Lld := Lib.hid hl2
  obtain ⟨x1, Hx1⟩ : ∃ s : List UInt8, Hid (s = macB (m0, m1, m2, m3, m4, m5)) := ⟨macB (m0, m1, m2, m3, m4, m5), Lib.hid rfl⟩
  obtain ⟨x2, Hx2⟩ : ∃ s : List UInt8, Hid (s = macB (n0, n1, n2, n3, n4, n5)) := ⟨macB (n0, n1, n2, n3, n4, n5), Lib.hid rfl⟩
  obtain ⟨s1, Hs1⟩ : ∃ s : List UInt8, Hid (s = x1 ++ x2) := ⟨x1 ++ x2, Lib.hid rfl⟩
  obtain ⟨x3, Hx3⟩ : ∃ s : List UInt8, Hid (s = big 2 ty) := ⟨big 2 ty, Lib.hid rfl⟩
  obtain ⟨s2, Hs2⟩ : ∃ s : List UInt8, Hid (s = s1 ++ x3) := ⟨s1 ++ x3, Lib.hid rfl⟩
  obtain ⟨s3, Hs3⟩ : ∃ s : List UInt8, Hid (s = s2 ++ ld) := ⟨s2 ++ ld, Lib.hid rfl⟩
  obtain ⟨s4, Hs4⟩ : ∃ s : List UInt8, Hid (s = s3 ++ List.replicate (60 - s3.length) 0) := ⟨s3 ++ List.replicate (60 - s3.length) 0, Lib.hid rfl⟩
  have Lx1 : Hid (x1.length ≤ 6) := by unfold Hid; rw [Hx1.out]; (simp [big_length, macB, bigs_length] <;> omega)
  have Lx2 : Hid (x2.length ≤ 6) := by have l_x1 := Lx1.out; unfold Hid; rw [Hx2.out]; (simp [big_length, macB, bigs_length] <;> omega)
  have Ls1 : Hid (s1.length ≤ 12) := by have l_x1 := Lx1.out; have l_x2 := Lx2.out; unfold Hid; rw [Hs1.out]; (simp [big_length, macB, bigs_length] <;> omega)
  have Lx3 : Hid (x3.length ≤ 2) := by have l_x1 := Lx1.out; have l_x2 := Lx2.out; have l_s1 := Ls1.out; unfold Hid; rw [Hx3.out]; (simp [big_length, macB, bigs_length] <;> omega)
  have Ls2 : Hid (s2.length ≤ 14) := by have l_x1 := Lx1.out; have l_x2 := Lx2.out; have l_s1 := Ls1.out; have l_x3 := Lx3.out; unfold Hid; rw [Hs2.out]; (simp [big_length, macB, bigs_length] <;> omega)
  have Ls3 : Hid (s3.length ≤ 1514) := by have l_x1 := Lx1.out; have l_x2 := Lx2.out; have l_s1 := Ls1.out; have l_x3 := Lx3.out; have l_s2 := Ls2.out; unfold Hid; rw [Hs3.out]; (simp [big_length, macB, bigs_length] <;> omega)
  have Ls4 : Hid (s4.length ≤ 1574) := by have l_x1 := Lx1.out; have l_x2 := Lx2.out; have l_s1 := Ls1.out; have l_x3 := Lx3.out; have l_s2 := Ls2.out; have l_s3 := Ls3.out; unfold Hid; rw [Hs4.out]; (simp [big_length, macB, bigs_length] <;> omega)
  obtain ⟨V, hV⟩ : ∃ V : Nat → Value, V = (fun j => match j with | 0 => .pointer (some ⟨w.heap.size, 0, none⟩) | 1 => .agg #[.int .u8 (m0.toNat : Int), .int .u8 (m1.toNat : Int), .int .u8 (m2.toNat : Int), .int .u8 (m3.toNat : Int), .int .u8 (m4.toNat : Int), .int .u8 (m5.toNat : Int)] | 2 => .string (bs x1) | 3 => .pointer (some ⟨w.heap.size, 6, none⟩) | 4 => .agg #[.int .u8 (n0.toNat : Int), .int .u8 (n1.toNat : Int), .int .u8 (n2.toNat : Int), .int .u8 (n3.toNat : Int), .int .u8 (n4.toNat : Int), .int .u8 (n5.toNat : Int)] | 5 => .string (bs x2) | 6 => .string (bs s1) | 7 => .pointer (some ⟨w.heap.size, 12, none⟩) | 8 => .int .u16 (ty : Int) | 9 => .int .i64 (ty : Int) | 10 => .string (bs x3) | 11 => .string (bs s2) | 12 => .pointer (some ⟨w.heap.size, 13, none⟩) | 13 => .string (bs ld) | 14 => .string (bs s3) | 15 => .string (bs s4) | 16 => .string (bs s4) | 17 => .int .i64 0 | _ => undef) := ⟨_, rfl⟩
  have v0 : V 0 = .pointer (some ⟨w.heap.size, 0, none⟩) := congrFun hV 0
  have v1 : V 1 = .agg #[.int .u8 (m0.toNat : Int), .int .u8 (m1.toNat : Int), .int .u8 (m2.toNat : Int), .int .u8 (m3.toNat : Int), .int .u8 (m4.toNat : Int), .int .u8 (m5.toNat : Int)] := congrFun hV 1
  have v2 : V 2 = .string (bs x1) := congrFun hV 2
  have v3 : V 3 = .pointer (some ⟨w.heap.size, 6, none⟩) := congrFun hV 3
  have v4 : V 4 = .agg #[.int .u8 (n0.toNat : Int), .int .u8 (n1.toNat : Int), .int .u8 (n2.toNat : Int), .int .u8 (n3.toNat : Int), .int .u8 (n4.toNat : Int), .int .u8 (n5.toNat : Int)] := congrFun hV 4
  have v5 : V 5 = .string (bs x2) := congrFun hV 5
  have v6 : V 6 = .string (bs s1) := congrFun hV 6
  have v7 : V 7 = .pointer (some ⟨w.heap.size, 12, none⟩) := congrFun hV 7
  have v8 : V 8 = .int .u16 (ty : Int) := congrFun hV 8
  have v9 : V 9 = .int .i64 (ty : Int) := congrFun hV 9
  have v10 : V 10 = .string (bs x3) := congrFun hV 10
  have v11 : V 11 = .string (bs s2) := congrFun hV 11
  have v12 : V 12 = .pointer (some ⟨w.heap.size, 13, none⟩) := congrFun hV 12
  have v13 : V 13 = .string (bs ld) := congrFun hV 13
  have v14 : V 14 = .string (bs s3) := congrFun hV 14
  have v15 : V 15 = .string (bs s4) := congrFun hV 15
  have v16 : V 16 = .string (bs s4) := congrFun hV 16
  have v17 : V 17 = .int .i64 0 := congrFun hV 17
  clear hV
  refine wp_region_ssau (by kernel_rfl) (by kernel_rfl) (by kernel_rfl)
    (fun u => ⟨#[.agg #[.int .u8 (m0.toNat : Int), .int .u8 (m1.toNat : Int), .int .u8 (m2.toNat : Int), .int .u8 (m3.toNat : Int), .int .u8 (m4.toNat : Int), .int .u8 (m5.toNat : Int), .int .u8 (n0.toNat : Int), .int .u8 (n1.toNat : Int), .int .u8 (n2.toNat : Int), .int .u8 (n3.toNat : Int), .int .u8 (n4.toNat : Int), .int .u8 (n5.toNat : Int), .int .u16 (ty : Int), .string (bs ld)], .pointer (some ⟨w.heap.size, 0, none⟩), u 16, u 17, u4, u5, u6, u7, u8, u9, u10, u 0, u 1, u 2, u 3, u 4, u 5, u 6, u 7, u 8, u 9, u 10, u 11, u 12, u 13, u 14, u 15], []⟩)
    (fun j v w3 => v = V j)
    (fun L u w3 => Fr noB w1 w3) (fun j => if j = 16 then .string ⟨#[]⟩ else if j = 17 then .int .i64 0 else undef) ((Fr.refl _ _).drew) ?_ ?_
  · rintro L u w3 i o hG hΦ ho hL hd K hK
    match i, ho with
    | 0, ho =>
      simp at ho; subst ho
      clear hΦ hd
      go_simp
      exact hK _ _ v0.symm hG (fun _ _ _ h => h)
    | 1, ho =>
      simp at ho; subst ho
      have hu0 : u 0 = V 0 := hΦ 0 (hd ⟨0, .data⟩ (by simp) (by rfl))
      rw [v0] at hu0
      clear hΦ hd
      have hG0 := hG
      have hx : ∃ x, u = (upd x 0 (.pointer (some ⟨w.heap.size, 0, none⟩))) := ⟨u, by rw [← upd_self hu0]⟩
      clear hu0
      obtain ⟨x, rfl⟩ := hx
      simp only [upd, reduceIte, Nat.reduceEqDiff]
      have hc0 := ((hpa).keep hG0 (fun x => x)).cells
      go_simp
      exact hK _ _ v1.symm hG0 (fun _ _ _ h => h)
    | 2, ho =>
      simp at ho; subst ho
      have hu1 : u 1 = V 1 := hΦ 1 (hd ⟨1, .data⟩ (by simp) (by rfl))
      rw [v1] at hu1
      clear hΦ hd
      have hG0 := hG
      have hx : ∃ x, u = (upd x 1 (.agg #[.int .u8 (m0.toNat : Int), .int .u8 (m1.toNat : Int), .int .u8 (m2.toNat : Int), .int .u8 (m3.toNat : Int), .int .u8 (m4.toNat : Int), .int .u8 (m5.toNat : Int)])) := ⟨u, by rw [← upd_self hu1]⟩
      clear hu1
      obtain ⟨x, rfl⟩ := hx
      simp only [upd, reduceIte, Nat.reduceEqDiff]
      go_simp
      refine (refMac (m0, m1, m2, m3, m4, m5) _).mono ?_
      rintro e w4 ⟨rfl, hf4⟩
      rw [← Hx1.out]
      exact hK _ _ v2.symm (hG0.none hf4) (fun _ _ _ h => h)
    | 3, ho =>
      simp at ho; subst ho
      clear hΦ hd
      go_simp
      exact hK _ _ v3.symm hG (fun _ _ _ h => h)
    | 4, ho =>
      simp at ho; subst ho
      have hu3 : u 3 = V 3 := hΦ 3 (hd ⟨3, .data⟩ (by simp) (by rfl))
      rw [v3] at hu3
      clear hΦ hd
      have hG0 := hG
      have hx : ∃ x, u = (upd x 3 (.pointer (some ⟨w.heap.size, 6, none⟩))) := ⟨u, by rw [← upd_self hu3]⟩
      clear hu3
      obtain ⟨x, rfl⟩ := hx
      simp only [upd, reduceIte, Nat.reduceEqDiff]
      have hc0 := ((hpa).keep hG0 (fun x => x)).cells
      go_simp
      exact hK _ _ v4.symm hG0 (fun _ _ _ h => h)
    | 5, ho =>
      simp at ho; subst ho
      have hu4 : u 4 = V 4 := hΦ 4 (hd ⟨4, .data⟩ (by simp) (by rfl))
      rw [v4] at hu4
      clear hΦ hd
      have hG0 := hG
      have hx : ∃ x, u = (upd x 4 (.agg #[.int .u8 (n0.toNat : Int), .int .u8 (n1.toNat : Int), .int .u8 (n2.toNat : Int), .int .u8 (n3.toNat : Int), .int .u8 (n4.toNat : Int), .int .u8 (n5.toNat : Int)])) := ⟨u, by rw [← upd_self hu4]⟩
      clear hu4
      obtain ⟨x, rfl⟩ := hx
      simp only [upd, reduceIte, Nat.reduceEqDiff]
      go_simp
      refine (refMac (n0, n1, n2, n3, n4, n5) _).mono ?_
      rintro e w4 ⟨rfl, hf4⟩
      rw [← Hx2.out]
      exact hK _ _ v5.symm (hG0.none hf4) (fun _ _ _ h => h)
    | 6, ho =>
      simp at ho; subst ho
      have hu2 : u 2 = V 2 := hΦ 2 (hd ⟨2, .data⟩ (by simp) (by rfl))
      rw [v2] at hu2
      have hu5 : u 5 = V 5 := hΦ 5 (hd ⟨5, .data⟩ (by simp) (by rfl))
      rw [v5] at hu5
      clear hΦ hd
      have hx : ∃ x, u = (upd (upd x 2 (.string (bs x1))) 5 (.string (bs x2))) := ⟨u, by rw [← upd_self hu2, ← upd_self hu5]⟩
      clear hu2 hu5
      obtain ⟨x, rfl⟩ := hx
      simp only [upd, reduceIte, Nat.reduceEqDiff]
      have hln : ¬ 9223372036854775807 < x1.length + x2.length := by have l1 := Lx1.out; have l2 := Lx2.out; omega
      go_simp
      rw [← Hs1.out]
      exact hK _ _ v6.symm hG (fun _ _ _ h => h)
    | 7, ho =>
      simp at ho; subst ho
      clear hΦ hd
      go_simp
      exact hK _ _ v7.symm hG (fun _ _ _ h => h)
    | 8, ho =>
      simp at ho; subst ho
      have hu7 : u 7 = V 7 := hΦ 7 (hd ⟨7, .data⟩ (by simp) (by rfl))
      rw [v7] at hu7
      clear hΦ hd
      have hG0 := hG
      have hx : ∃ x, u = (upd x 7 (.pointer (some ⟨w.heap.size, 12, none⟩))) := ⟨u, by rw [← upd_self hu7]⟩
      clear hu7
      obtain ⟨x, rfl⟩ := hx
      simp only [upd, reduceIte, Nat.reduceEqDiff]
      have hc0 := ((hpa).keep hG0 (fun x => x)).cells
      go_simp
      exact hK _ _ v8.symm hG0 (fun _ _ _ h => h)
    | 9, ho =>
      simp at ho; subst ho
      have hu8 : u 8 = V 8 := hΦ 8 (hd ⟨8, .data⟩ (by simp) (by rfl))
      rw [v8] at hu8
      clear hΦ hd
      have hx : ∃ x, u = (upd x 8 (.int .u16 (ty : Int))) := ⟨u, by rw [← upd_self hu8]⟩
      clear hu8
      obtain ⟨x, rfl⟩ := hx
      simp only [upd, reduceIte, Nat.reduceEqDiff]
      have e2 : IntKind.i64.wrap (ty : Int) = ty := IntWalk.i64_in _ (by omega)
      have e2' : wrap64 (ty : Int) = ty := wr64 (by omega) (by omega)
      go_simp
      exact hK _ _ v9.symm hG (fun _ _ _ h => h)
    | 10, ho =>
      simp at ho; subst ho
      have hu9 : u 9 = V 9 := hΦ 9 (hd ⟨9, .data⟩ (by simp) (by rfl))
      rw [v9] at hu9
      clear hΦ hd
      have hG0 := hG
      have hx : ∃ x, u = (upd x 9 (.int .i64 (ty : Int))) := ⟨u, by rw [← upd_self hu9]⟩
      clear hu9
      obtain ⟨x, rfl⟩ := hx
      simp only [upd, reduceIte, Nat.reduceEqDiff]
      go_simp
      refine (refBig ty 2 _ (by omega) (by omega)).mono ?_
      rintro e w4 ⟨rfl, hf4⟩
      rw [← Hx3.out]
      exact hK _ _ v10.symm (hG0.none hf4) (fun _ _ _ h => h)
    | 11, ho =>
      simp at ho; subst ho
      have hu6 : u 6 = V 6 := hΦ 6 (hd ⟨6, .data⟩ (by simp) (by rfl))
      rw [v6] at hu6
      have hu10 : u 10 = V 10 := hΦ 10 (hd ⟨10, .data⟩ (by simp) (by rfl))
      rw [v10] at hu10
      clear hΦ hd
      have hx : ∃ x, u = (upd (upd x 6 (.string (bs s1))) 10 (.string (bs x3))) := ⟨u, by rw [← upd_self hu6, ← upd_self hu10]⟩
      clear hu6 hu10
      obtain ⟨x, rfl⟩ := hx
      simp only [upd, reduceIte, Nat.reduceEqDiff]
      have hln : ¬ 9223372036854775807 < s1.length + x3.length := by have l1 := Ls1.out; have l2 := Lx3.out; omega
      go_simp
      rw [← Hs2.out]
      exact hK _ _ v11.symm hG (fun _ _ _ h => h)
    | 12, ho =>
      simp at ho; subst ho
      clear hΦ hd
      go_simp
      exact hK _ _ v12.symm hG (fun _ _ _ h => h)
    | 13, ho =>
      simp at ho; subst ho
      have hu12 : u 12 = V 12 := hΦ 12 (hd ⟨12, .data⟩ (by simp) (by rfl))
      rw [v12] at hu12
      clear hΦ hd
      have hG0 := hG
      have hx : ∃ x, u = (upd x 12 (.pointer (some ⟨w.heap.size, 13, none⟩))) := ⟨u, by rw [← upd_self hu12]⟩
      clear hu12
      obtain ⟨x, rfl⟩ := hx
      simp only [upd, reduceIte, Nat.reduceEqDiff]
      have hc0 := ((hpa).keep hG0 (fun x => x)).cells
      go_simp
      exact hK _ _ v13.symm hG0 (fun _ _ _ h => h)
    | 14, ho =>
      simp at ho; subst ho
      have hu11 : u 11 = V 11 := hΦ 11 (hd ⟨11, .data⟩ (by simp) (by rfl))
      rw [v11] at hu11
      have hu13 : u 13 = V 13 := hΦ 13 (hd ⟨13, .data⟩ (by simp) (by rfl))
      rw [v13] at hu13
      clear hΦ hd
      have hx : ∃ x, u = (upd (upd x 11 (.string (bs s2))) 13 (.string (bs ld))) := ⟨u, by rw [← upd_self hu11, ← upd_self hu13]⟩
      clear hu11 hu13
      obtain ⟨x, rfl⟩ := hx
      simp only [upd, reduceIte, Nat.reduceEqDiff]
      have hln : ¬ 9223372036854775807 < s2.length + ld.length := by have l1 := Ls2.out; have l2 := Lld.out; omega
      go_simp
      rw [← Hs3.out]
      exact hK _ _ v14.symm hG (fun _ _ _ h => h)
    | 15, ho =>
      simp at ho; subst ho
      have hu14 : u 14 = V 14 := hΦ 14 (hd ⟨14, .data⟩ (by simp) (by rfl))
      rw [v14] at hu14
      clear hΦ hd
      have hG0 := hG
      have hx : ∃ x, u = (upd x 14 (.string (bs s3))) := ⟨u, by rw [← upd_self hu14]⟩
      clear hu14
      obtain ⟨x, rfl⟩ := hx
      simp only [upd, reduceIte, Nat.reduceEqDiff]
      go_simp
      refine (refZero s3 60 _ (by have := Ls3.out; omega) (by omega)).mono ?_
      rintro e w4 ⟨rfl, hf4⟩
      rw [← Hs4.out]
      exact hK _ _ v15.symm (hG0.none hf4) (fun _ _ _ h => h)
    | 16, ho =>
      simp at ho; subst ho
      have hu15 : u 15 = V 15 := hΦ 15 (hd ⟨15, .data⟩ (by simp) (by rfl))
      rw [v15] at hu15
      clear hΦ hd
      have hx : ∃ x, u = (upd x 15 (.string (bs s4))) := ⟨u, by rw [← upd_self hu15]⟩
      clear hu15
      obtain ⟨x, rfl⟩ := hx
      simp only [upd, reduceIte, Nat.reduceEqDiff]
      go_simp
      exact hK _ _ v16.symm hG (fun _ _ _ h => h)
    | 17, ho =>
      simp at ho; subst ho
      clear hΦ hd
      go_simp
      exact hK _ _ v17.symm hG (fun _ _ _ h => h)
  · rintro u w3 hu L hall hG
    have hG0 := hG
    have h16 : u 16 = V 16 := hu 16 (by simp)
    rw [v16] at h16
    have h17 : u 17 = V 17 := hu 17 (by simp)
    rw [v17] at h17
    clear hu hall
    rw [h16, h17]
    have hfr := hf0.none hG
    have hR : s4 = ethBytes (m0, m1, m2, m3, m4, m5) (n0, n1, n2, n3, n4, n5) ty ld := by rw [Hs4.out, Hs3.out, Hs2.out, Hs1.out, Hx1.out, Hx2.out, Hx3.out]; rfl
    rw [hR]
    clear hR
    generalize ethBytes (m0, m1, m2, m3, m4, m5) (n0, n1, n2, n3, n4, n5) ty ld = R at *
    go_wp2_with fail
    go_ret2
    exact ⟨by rw [hs.out]; rfl, hfr⟩
end Go.Proofs.YtcbkaiakdhiloabGreatDoor
