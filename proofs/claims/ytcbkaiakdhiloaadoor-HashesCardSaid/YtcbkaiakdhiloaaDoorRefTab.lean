/- The walk of the reference's NewTables. -/
import Derived.Test.YtcbkaiakdhiloaaDoorRefP
import Derived.Test.YtcbkaiakdhiloaaDoorRegU
import Derived.Deep.CutRange
set_option linter.unusedSimpArgs false
set_option linter.unusedVariables false
namespace Go.Proofs.YtcbkaiakdhiloaaDoor
open Go.RowKit Go.Proofs

def ne2 (a b : Value) : Prop := ∀ q, a.ownBlock = some q → b.ownBlock ≠ some q
theorem ne2.symm {a b : Value} (h : ne2 a b) : ne2 b a := fun q h1 h2 => h q h2 h1
abbrev tabT : TypeId := 32
/-- where the appending of x to the list l stands -/
def Gp (w2 : World) (B p : Nat) (cs : Value → Array Value) (v : Value) (l : List Nat) (o : Value) (lo : List Nat) (x : Nat) (b4 b7 b8 b11 : Bool) (x7 x8 : Value) (w3 : World) : Prop :=
  Fr (fun q => q = p) w2 w3 ∧ (b8 = true → b4 = true) ∧ (b11 = true → b8 = true) ∧
  (b8 = false → Bk w3 p tabT (cs v) ∧ OI w3 B v l ∧ OI w3 B o lo ∧ ne2 v o ∧ (b7 = true → ∃ g, x7 = .slice (some ⟨g, 0, none⟩) 1 1 ∧ IB w3 g [x])) ∧
  (b8 = true → b11 = false → Bk w3 p tabT (cs v) ∧ OI w3 B x8 (l ++ [x]) ∧ OI w3 B o lo ∧ ne2 x8 o) ∧
  (b11 = true → ∃ v', Bk w3 p tabT (cs v') ∧ OI w3 B v' (l ++ [x]) ∧ OI w3 B o lo ∧ ne2 v' o)
section
variable {w2 : World} {B p : Nat} {cs : Value → Array Value} {v : Value} {l : List Nat} {o : Value} {lo : List Nat} {x : Nat} {b4 b7 b8 b11 : Bool} {x7 x8 : Value} {w3 w4 : World}
theorem Gp.quiet (h : Gp w2 B p cs v l o lo x b4 b7 b8 b11 x7 x8 w3) (hf : Fr noB w3 w4) : Gp w2 B p cs v l o lo x b4 b7 b8 b11 x7 x8 w4 := by
  obtain ⟨h1, h2, h3, h4, h5, h6⟩ := h
  refine ⟨h1.none hf, h2, h3, fun e => ?_, fun e e' => ?_, fun e => ?_⟩
  · obtain ⟨a, b, c, d, f⟩ := h4 e
    exact ⟨a.keep hf id, b.quiet hf, c.quiet hf, d, fun e => by obtain ⟨g, q, r⟩ := f e; exact ⟨g, q, Bk.keep r hf id⟩⟩
  · obtain ⟨a, b, c, d⟩ := h5 e e'
    exact ⟨a.keep hf id, b.quiet hf, c.quiet hf, d⟩
  · obtain ⟨v', a, b, c, d⟩ := h6 e
    exact ⟨v', a.keep hf id, b.quiet hf, c.quiet hf, d⟩
theorem Gp.load (h : Gp w2 B p cs v l o lo x false b7 b8 b11 x7 x8 w3) : Bk w3 p tabT (cs v) ∧ Gp w2 B p cs v l o lo x true b7 b8 b11 x7 x8 w3 := by
  obtain ⟨h1, h2, h3, h4, h5, h6⟩ := h
  have h8 : b8 = false := by cases b8 with | false => rfl | true => exact absurd (h2 rfl) (by simp)
  exact ⟨(h4 h8).1, h1, fun _ => rfl, h3, h4, h5, h6⟩
theorem Gp.make (h : Gp w2 B p cs v l o lo x b4 b7 b8 b11 x7 x8 w3) : Gp w2 B p cs v l o lo x b4 true b8 b11 (.slice (some ⟨w3.heap.size, 0, none⟩) 1 1) x8 (w3.alloc (.cells #[.int .i64 (x : Int)] 3)) := by
  have hq := h.quiet ((Fr.refl noB w3).alloc (.cells #[.int .i64 (x : Int)] 3))
  obtain ⟨h1, h2, h3, h4, h5, h6⟩ := hq
  refine ⟨h1, h2, h3, fun e => ?_, h5, h6⟩
  obtain ⟨a, b, c, d, f⟩ := h4 e
  exact ⟨a, b, c, d, fun _ => ⟨_, rfl, Bk.new w3 _ _⟩⟩
theorem Gp.app (h : Gp w2 B p cs v l o lo x true true false b11 x7 x8 w3) (hpB : p < B) (hB : B = w2.heap.size) (hl : l.length < 1000000) :
    ∃ g v' w4, x7 = .slice (some ⟨g, 0, none⟩) 1 1 ∧ (Builtin.append_ #[30, 30] 30 #[v, .slice (some ⟨g, 0, none⟩) 1 1]).run Tryd.prog w3 = .ok v' w4 ∧
      Gp w2 B p cs v l o lo x true true true b11 x7 v' w4 := by
  obtain ⟨h1, h2, h3, h4, h5, h6⟩ := h
  have h11 : b11 = false := by cases b11 with | false => rfl | true => exact absurd (h3 rfl) (by simp)
  obtain ⟨a, b, c, d, f⟩ := h4 rfl
  obtain ⟨g, hg, hI⟩ := f rfl
  obtain ⟨v', w4, k1, k2, k3, k4⟩ := run_app_int' w3 B x g v l b hI (by rw [hB]; exact h1.size) hl
  refine ⟨g, v', w4, hg, k1, ⟨h1.trans' ((Fr.refl (fun q => v.ownBlock = some q) w3).grown k3 fun g hg _ => hg) ?_, fun _ => rfl, fun _ => rfl, fun e => absurd e (by simp), fun _ _ => ⟨a.grown k3 ?_, k2, World.ownsRow.kept c k3 ?_, ?_⟩, fun e => absurd e (by rw [h11]; simp)⟩⟩
  · intro q hq he; have := (World.ownsRow.lt b q he).1; omega
  · intro he; have := (World.ownsRow.lt b p he.symm).1; omega
  · rcases ho : o.ownBlock with _ | q
    · exact .inl rfl
    · exact .inr (fun he => d q he.symm ho)
  · intro q hq ho
    rcases k4 with k4 | k4
    · exact d q (k4.symm.trans hq) ho
    · have := (World.ownsRow.lt c q ho).2
      rw [k4] at hq; injection hq with hq; omega
theorem Gp.store (h : Gp w2 B p cs v l o lo x b4 b7 true false x7 x8 w3) (hpB : p < B) (k : Nat) (hcs : ∀ u, (cs v).setIfInBounds k u = cs u) :
    Gp w2 B p cs v l o lo x b4 b7 true true x7 x8 (w3.setCell ⟨p, k, none⟩ x8) ∧ Bk w3 p tabT (cs v) ∧ ∃ A n cap, x8 = .slice A n cap := by
  obtain ⟨h1, h2, h3, h4, h5, h6⟩ := h
  obtain ⟨a, b, c, d⟩ := h5 rfl rfl
  have hb := a.set k x8
  rw [hcs] at hb
  have hg : w3.grownBy (w3.setCell ⟨p, k, none⟩ x8) (some p) := by
    have hf : Fr (fun q => q = p) w3 (w3.setCell ⟨p, k, none⟩ x8) := Fr.setCell (S := fun q => q = p) (Fr.refl _ _) (p := ⟨p, k, none⟩) (fun _ => rfl) _
    exact ⟨hf.os, hf.tape, hf.output, hf.size, fun q hq hne => hf.block q hq (fun e => hne (by rw [e]))⟩
  have hn : ∀ {u : Value} {l' : List Nat}, OI w3 B u l' → u.ownBlock = none ∨ u.ownBlock ≠ some p := by
    intro u l' hu
    exact .inr fun e => by have := (World.ownsRow.lt hu p e).1; omega
  exact ⟨⟨h1.setCell (p := ⟨p, k, none⟩) (fun _ => rfl) _, h2, fun _ => rfl, fun e => absurd e (by simp), fun _ e => absurd e (by simp), fun _ => ⟨x8, hb, World.ownsRow.kept b hg (hn b), World.ownsRow.kept c hg (hn c), d⟩⟩, a, by obtain ⟨A, cap, e, _⟩ := b.shape; exact ⟨A, _, cap, e⟩⟩
end

set_option maxRecDepth 20000 in
set_option maxHeartbeats 1000000 in
theorem refNewTables (w : World) :
    Calls Tryd.prog 5 #[] w (fun e w' => ∃ p B vh vk, e = .returned (.pointer (some ⟨p, 0, none⟩)) ∧ Bk w' p tabT #[vh, vk] ∧ OI w' B vh (h0.list.map UInt32.toNat) ∧ OI w' B vk (kTab.map UInt32.toNat) ∧ Fr noB w w' ∧ w.heap.size ≤ p) := by
  go_enter Tryd.func5, Tryd.ntmps5
  have hB0 : Bk (w.alloc (.cells #[.slice none 0 0, .slice none 0 0] tabT)) w.heap.size tabT #[.slice none 0 0, .slice none 0 0] := Bk.new w _ _
  have hF0 : Fr noB w (w.alloc (.cells #[.slice none 0 0, .slice none 0 0] tabT)) := (Fr.refl _ _).alloc _
  have hS0 := alloc_sz w (.cells #[.slice none 0 0, .slice none 0 0] tabT)
  go_wp2_with fail
  generalize w.alloc (.cells #[.slice none 0 0, .slice none 0 0] tabT) = w1 at *
  refine (refPrimes _).mono ?_
  rintro e w2 ⟨v, rfl, hO, hf2⟩
  obtain ⟨A, cap, rfl, hA⟩ := hO.shape
  rw [primeTab_len] at hA ⊢
  obtain ⟨g, rfl, hR, hbg⟩ := hA (by omega)
  have hB2 := hB0.keep hf2 id
  have hF2 := hF0.trans hf2
  obtain ⟨p, hp⟩ : ∃ p, p = w.heap.size := ⟨_, rfl⟩
  rw [← hp] at hB2 ⊢
  obtain ⟨B, hB⟩ : ∃ B, B = w2.heap.size := ⟨_, rfl⟩
  have hgB : g < B := by rw [hB]; exact hR.lt
  have hpB : p < B := by have := hf2.size; omega
  have hpg : p < g := by omega
  have HB := Lib.hid hB
  have Hp := Lib.hid hp
  clear hA hO hB0 hF0 hB hp hS0 hf2
  go_wp2_with fail
  go_loopw [8] (fun iv wr => ∃ (k : Nat) (vh vk : Value), k ≤ 64 ∧ iv = .int .i64 k ∧ Fr (fun q => q = p) w2 wr ∧ Bk wr p tabT #[vh, vk] ∧ OI wr B vh (((primeTab.take k).take 8).map fun q => rootN q 2) ∧ OI wr B vk ((primeTab.take k).map fun q => rootN q 3) ∧ ne2 vh vk) (fun iv _ => 64 - (intOf iv).toNat)
  case atStart => exact ⟨0, _, _, by omega, rfl, Fr.refl _ _, hB2, OI.nil _ _, OI.nil _ _, fun q h => by cases h⟩
  case round =>
    obtain ⟨k, vh, vk, hk, rfl, hfr, hbk, hOh, hOk, hne⟩ := hrel
    by_cases hlt : k < 64
    · obtain ⟨pr, hpr⟩ : ∃ q, primeTab[k]? = some q := ⟨primeTab[k]'(by rw [primeTab_len]; exact hlt), List.getElem?_eq_getElem _⟩
      have hpl : pr < 65536 := by
        have h1 := (below_le 312 pr (by rw [below_all]; exact List.mem_of_getElem? hpr)).2; omega
      have hRw : RI wr g primeTab := hR.keep hfr (by omega)
      have hcp := hRw.get k pr hpr
      have htk : primeTab.take (k + 1) = primeTab.take k ++ [pr] := by rw [List.take_add_one, hpr]; rfl
      have hlk : ((primeTab.take k).map fun q => rootN q 3).length ≤ 64 := by rw [List.length_map, List.length_take]; omega
      have hlh : (((primeTab.take k).take 8).map fun q => rootN q 2).length ≤ 64 := by rw [List.length_map, List.length_take]; omega
      have hk2 : ((primeTab.take (k + 1)).map fun q => rootN q 3) = ((primeTab.take k).map fun q => rootN q 3) ++ [rootN pr 3] := by rw [htk]; simp
      have hh2 : (((primeTab.take (k + 1)).take 8).map fun q => rootN q 2) = if k < 8 then (((primeTab.take k).take 8).map fun q => rootN q 2) ++ [rootN pr 2] else (((primeTab.take k).take 8).map fun q => rootN q 2) := by
        rw [List.take_take, List.take_take]
        split
        · rw [show min 8 (k + 1) = k + 1 by omega, show min 8 k = k by omega, htk]; simp
        · rw [show min 8 (k + 1) = 8 by omega, show min 8 k = 8 by omega]
      generalize ((primeTab.take k).map fun q => rootN q 3) = lk at *
      generalize (((primeTab.take k).take 8).map fun q => rootN q 2) = lh at *
      obtain ⟨r3, R3⟩ : ∃ r, r = rootN pr 3 := ⟨_, rfl⟩
      obtain ⟨r2, R2⟩ : ∃ r, r = rootN pr 2 := ⟨_, rfl⟩
      rw [← R3] at hk2
      rw [← R2] at hh2
      replace R3 := Lib.hid R3
      replace R2 := Lib.hid R2
      have Hk2 := Lib.hid hk2
      have Hh2 := Lib.hid hh2
      clear htk hpr hk2 hh2
      have HR := Lib.hid hRw
      clear hRw hk
      go_upto_region 5 with fail
      generalize decide ((k : Int) < 64) = b9
      have hG0 : ∀ x7 x8, Gp w2 B p (fun z => #[vh, z]) vk lk vh lh r3 false false false false x7 x8 wr.drew := by
        intro x7 x8
        exact ⟨hfr.drew, fun e => absurd e (by simp), fun e => absurd e (by simp), fun _ => ⟨hbk, hOk, hOh, hne.symm, fun e => absurd e (by simp)⟩, fun e => absurd e (by simp), fun e => absurd e (by simp)⟩
      obtain ⟨V, hV⟩ : ∃ V : Nat → Value, V = (fun j => match j with | 0 => .pointer (some ⟨p, 0, none⟩) | 1 => .pointer (some ⟨p, 0, none⟩) | 2 => .pointer (some ⟨p, 0, none⟩) | 3 => .pointer (some ⟨p, 1, none⟩) | 4 => vk | 5 => .int .i64 (pr : Int) | 6 => .int .i64 (r3 : Int) | 9 => .pointer (some ⟨p, 0, none⟩) | 10 => .pointer (some ⟨p, 1, none⟩) | _ => undef) := ⟨_, rfl⟩
      have v0 : V 0 = .pointer (some ⟨p, 0, none⟩) := congrFun hV 0
      have v1 : V 1 = .pointer (some ⟨p, 0, none⟩) := congrFun hV 1
      have v2 : V 2 = .pointer (some ⟨p, 0, none⟩) := congrFun hV 2
      have v3 : V 3 = .pointer (some ⟨p, 1, none⟩) := congrFun hV 3
      have v4 : V 4 = vk := congrFun hV 4
      have v5 : V 5 = .int .i64 (pr : Int) := congrFun hV 5
      have v6 : V 6 = .int .i64 (r3 : Int) := congrFun hV 6
      have v9 : V 9 = .pointer (some ⟨p, 0, none⟩) := congrFun hV 9
      have v10 : V 10 = .pointer (some ⟨p, 1, none⟩) := congrFun hV 10
      clear hV
      refine wp_region_ssau (by kernel_rfl) (by kernel_rfl) (by kernel_rfl)
        (fun u => ⟨#[.pointer none, .pointer (some ⟨p, 0, none⟩), .int .i64 (k : Int), .int .i64 (pr : Int), .agg #[.slice none 0 0, .slice none 0 0], .pointer (some ⟨p, 0, none⟩), .slice (some ⟨g, 0, none⟩) 64 cap, .int .i64 64, .int .i64 (k : Int), .bool b9, .int .i64 (k : Int), .pointer (some ⟨g, k, none⟩), .int .i64 (pr : Int), u 0, u 1, u 2, u 3, u 4, u 5, u 6, u 7, u 8, u 9, u 10, u24, u25, u26, u27, u28, u29, u30, u31, u32, u33, u34, u35, u36, u37, undef], []⟩)
        (fun j x w3 => if j = 7 then True else if j = 8 then True else if j = 11 then True else x = V j)
        (fun L u w3 => Gp w2 B p (fun z => #[vh, z]) (vk) lk (vh) lh r3 (L 4) (L 7) (L 8) (L 11) (u 7) (u 8) w3) (fun j => if j = 0 then u13 else if j = 1 then u14 else if j = 2 then u15 else if j = 3 then u16 else if j = 4 then u17 else if j = 5 then u18 else if j = 6 then u19 else if j = 7 then u20 else if j = 8 then u21 else if j = 9 then u22 else if j = 10 then u23 else undef) (hG0 _ _) ?_ ?_
      · rintro L u w3 i o hG hΦ ho hL hd K hK
        match i, ho with
        | 0, ho =>
          simp at ho; subst ho
          clear hΦ hd
          go_simp
          exact hK _ _ v0.symm hG (fun _ _ _ h => h)
        | 1, ho =>
          simp at ho; subst ho
          clear hΦ hd
          go_simp
          exact hK _ _ v1.symm hG (fun _ _ _ h => h)
        | 2, ho =>
          simp at ho; subst ho
          have hu1 : u 1 = V 1 := hΦ 1 (hd ⟨1, .data⟩ (by simp) (by rfl))
          rw [v1] at hu1
          clear hΦ hd
          have hx : ∃ x, u = (upd x 1 (.pointer (some ⟨p, 0, none⟩))) := ⟨u, by rw [← upd_self hu1]⟩
          clear hu1
          obtain ⟨x, rfl⟩ := hx
          simp only [upd, reduceIte, Nat.reduceEqDiff]
          go_simp
          exact hK _ _ v2.symm hG (fun _ _ _ h => h)
        | 3, ho =>
          simp at ho; subst ho
          have hu2 : u 2 = V 2 := hΦ 2 (hd ⟨2, .data⟩ (by simp) (by rfl))
          rw [v2] at hu2
          clear hΦ hd
          have hx : ∃ x, u = (upd x 2 (.pointer (some ⟨p, 0, none⟩))) := ⟨u, by rw [← upd_self hu2]⟩
          clear hu2
          obtain ⟨x, rfl⟩ := hx
          simp only [upd, reduceIte, Nat.reduceEqDiff]
          go_simp
          exact hK _ _ v3.symm hG (fun _ _ _ h => h)
        | 4, ho =>
          simp at ho; subst ho
          have hu3 : u 3 = V 3 := hΦ 3 (hd ⟨3, .data⟩ (by simp) (by rfl))
          rw [v3] at hu3
          clear hΦ hd
          have hx : ∃ x, u = (upd x 3 (.pointer (some ⟨p, 1, none⟩))) := ⟨u, by rw [← upd_self hu3]⟩
          clear hu3
          obtain ⟨x, rfl⟩ := hx
          simp only [upd, reduceIte, Nat.reduceEqDiff]
          rw [hL] at hG
          obtain ⟨hbk, hG2⟩ := hG.load
          have hcl : w3.cell? ⟨p, 1, none⟩ = some (vk) := by simpa using hbk.cell 1
          go_simp
          exact hK _ _ v4.symm hG2 (fun _ _ _ h => h)
        | 5, ho =>
          simp at ho; subst ho
          clear hΦ hd
          go_simp
          exact hK _ _ v5.symm hG (fun _ _ _ h => h)
        | 6, ho =>
          simp at ho; subst ho
          have hu5 : u 5 = V 5 := hΦ 5 (hd ⟨5, .data⟩ (by simp) (by rfl))
          rw [v5] at hu5
          clear hΦ hd
          have hx : ∃ x, u = (upd x 5 (.int .i64 (pr : Int))) := ⟨u, by rw [← upd_self hu5]⟩
          clear hu5
          obtain ⟨x, rfl⟩ := hx
          simp only [upd, reduceIte, Nat.reduceEqDiff]
          have hroot := refRoot pr 3 (by omega) (by omega) w3
          rw [← R3.out] at hroot
          go_simp
          refine hroot.mono ?_
          rintro e w4 ⟨rfl, hf4⟩
          exact hK _ _ v6.symm (hG.quiet hf4) (fun _ _ _ h => h)
        | 7, ho =>
          simp at ho; subst ho
          have hu6 : u 6 = V 6 := hΦ 6 (hd ⟨6, .data⟩ (by simp) (by rfl))
          rw [v6] at hu6
          clear hΦ hd
          have hx : ∃ x, u = (upd x 6 (.int .i64 (r3 : Int))) := ⟨u, by rw [← upd_self hu6]⟩
          clear hu6
          obtain ⟨x, rfl⟩ := hx
          simp only [upd, reduceIte, Nat.reduceEqDiff]
          go_simp
          exact hK _ _ trivial hG.make (fun _ _ _ h => h)
        | 8, ho =>
          simp at ho; subst ho
          have hu4 : u 4 = V 4 := hΦ 4 (hd ⟨4, .data⟩ (by simp) (by rfl))
          rw [v4] at hu4
          have hl4 : L 4 = true := hd ⟨4, .data⟩ (by simp) (by rfl)
          have hl7 : L 7 = true := hd ⟨7, .data⟩ (by simp) (by rfl)
          rw [hl4, hl7, hL] at hG
          obtain ⟨g, v', w4, hx7, hap, hG2⟩ := hG.app hpB HB.out (by omega)
          clear hΦ hd
          have hx : ∃ x, u = (upd (upd x 4 (vk)) 7 (.slice (some ⟨g, 0, none⟩) 1 1)) := ⟨u, by rw [← upd_self hu4, ← upd_self hx7]⟩
          clear hu4 hx7
          obtain ⟨x, rfl⟩ := hx
          simp only [upd, reduceIte, Nat.reduceEqDiff] at hG2 ⊢
          refine wp_append_run _ _ _ _ rfl hap rfl rfl ?_
          refine hK _ _ trivial ?_ (fun _ _ _ h => h)
          rw [show mark L 8 4 = true from hl4, show mark L 8 7 = true from hl7]
          exact hG2
        | 9, ho =>
          simp at ho; subst ho
          have hu0 : u 0 = V 0 := hΦ 0 (hd ⟨0, .data⟩ (by simp) (by rfl))
          rw [v0] at hu0
          clear hΦ hd
          have hx : ∃ x, u = (upd x 0 (.pointer (some ⟨p, 0, none⟩))) := ⟨u, by rw [← upd_self hu0]⟩
          clear hu0
          obtain ⟨x, rfl⟩ := hx
          simp only [upd, reduceIte, Nat.reduceEqDiff]
          go_simp
          exact hK _ _ v9.symm hG (fun _ _ _ h => h)
        | 10, ho =>
          simp at ho; subst ho
          have hu9 : u 9 = V 9 := hΦ 9 (hd ⟨9, .data⟩ (by simp) (by rfl))
          rw [v9] at hu9
          clear hΦ hd
          have hx : ∃ x, u = (upd x 9 (.pointer (some ⟨p, 0, none⟩))) := ⟨u, by rw [← upd_self hu9]⟩
          clear hu9
          obtain ⟨x, rfl⟩ := hx
          simp only [upd, reduceIte, Nat.reduceEqDiff]
          go_simp
          exact hK _ _ v10.symm hG (fun _ _ _ h => h)
        | 11, ho =>
          simp at ho; subst ho
          have hu10 : u 10 = V 10 := hΦ 10 (hd ⟨10, .data⟩ (by simp) (by rfl))
          rw [v10] at hu10
          have hl8 : L 8 = true := hd ⟨8, .data⟩ (by simp) (by rfl)
          rw [hl8, hL] at hG
          obtain ⟨hG2, hbk, A8, n8, c8, hx8⟩ := hG.store hpB 1 (fun _ => rfl)
          have hcl : w3.cell? ⟨p, 1, none⟩ = some (vk) := by simpa using hbk.cell 1
          have hfz := hbk.free 1
          clear hΦ hd
          have hx : ∃ x, u = (upd (upd x 10 (.pointer (some ⟨p, 1, none⟩))) 8 (.slice A8 n8 c8)) := ⟨u, by rw [← upd_self hu10, ← upd_self hx8]⟩
          clear hu10 hx8
          obtain ⟨x, rfl⟩ := hx
          simp only [upd, reduceIte, Nat.reduceEqDiff] at hG2 ⊢
          go_simp
          refine hK undef _ trivial ?_ (fun _ _ _ h => h)
          rw [show mark L 11 8 = true from hl8]
          exact hG2
      · rintro u w3 hu L hall hG
        clear hu
        rw [hall 11 (by decide)] at hG
        obtain ⟨hfr3, -, -, -, -, h6⟩ := hG
        obtain ⟨v', hbk3, hO3, hP3, hne3⟩ := h6 rfl
        clear v0 v1 v2 v3 v4 v5 v6 v9 v10 hG0
        obtain ⟨vk2, rfl⟩ : ∃ z, z = v' := ⟨_, rfl⟩
        obtain ⟨w5, rfl⟩ : ∃ z, z = w3 := ⟨_, rfl⟩
        clear hall h6
        by_cases h8 : k < 8
        · rw [if_pos h8] at Hh2
          go_upto_region 7 with fail
          generalize decide ((k : Int) < 8) = b25
          generalize u 0 = y13
          generalize u 1 = y14
          generalize u 2 = y15
          generalize u 3 = y16
          generalize u 4 = y17
          generalize u 5 = y18
          generalize u 6 = y19
          generalize u 7 = y20
          generalize u 8 = y21
          generalize u 9 = y22
          generalize u 10 = y23
          have hG0 : ∀ x7 x8, Gp w2 B p (fun z => #[z, vk2]) vh lh vk2 (lk ++ [r3]) r2 false false false false x7 x8 w5.drew := by
            intro x7 x8
            exact ⟨hfr3.drew, fun e => absurd e (by simp), fun e => absurd e (by simp), fun _ => ⟨hbk3, hP3, hO3, hne3.symm, fun e => absurd e (by simp)⟩, fun e => absurd e (by simp), fun e => absurd e (by simp)⟩
          obtain ⟨V, hV⟩ : ∃ V : Nat → Value, V = (fun j => match j with | 0 => .pointer (some ⟨p, 0, none⟩) | 1 => .pointer (some ⟨p, 0, none⟩) | 2 => .pointer (some ⟨p, 0, none⟩) | 3 => .pointer (some ⟨p, 0, none⟩) | 4 => vh | 5 => .int .i64 (pr : Int) | 6 => .int .i64 (r2 : Int) | 9 => .pointer (some ⟨p, 0, none⟩) | 10 => .pointer (some ⟨p, 0, none⟩) | _ => undef) := ⟨_, rfl⟩
          have v0 : V 0 = .pointer (some ⟨p, 0, none⟩) := congrFun hV 0
          have v1 : V 1 = .pointer (some ⟨p, 0, none⟩) := congrFun hV 1
          have v2 : V 2 = .pointer (some ⟨p, 0, none⟩) := congrFun hV 2
          have v3 : V 3 = .pointer (some ⟨p, 0, none⟩) := congrFun hV 3
          have v4 : V 4 = vh := congrFun hV 4
          have v5 : V 5 = .int .i64 (pr : Int) := congrFun hV 5
          have v6 : V 6 = .int .i64 (r2 : Int) := congrFun hV 6
          have v9 : V 9 = .pointer (some ⟨p, 0, none⟩) := congrFun hV 9
          have v10 : V 10 = .pointer (some ⟨p, 0, none⟩) := congrFun hV 10
          clear hV
          refine wp_region_ssau (by kernel_rfl) (by kernel_rfl) (by kernel_rfl)
            (fun u => ⟨#[.pointer none, .pointer (some ⟨p, 0, none⟩), .int .i64 (k : Int), .int .i64 (pr : Int), .agg #[.slice none 0 0, .slice none 0 0], .pointer (some ⟨p, 0, none⟩), .slice (some ⟨g, 0, none⟩) 64 cap, .int .i64 64, .int .i64 (k : Int), .bool b9, .int .i64 (k : Int), .pointer (some ⟨g, k, none⟩), .int .i64 (pr : Int), y13, y14, y15, y16, y17, y18, y19, y20, y21, y22, y23, .int .i64 (k : Int), .bool b25, u 0, u 1, u 2, u 3, u 4, u 5, u 6, u 7, u 8, u 9, u 10, u37, undef], []⟩)
            (fun j x w3 => if j = 7 then True else if j = 8 then True else if j = 11 then True else x = V j)
            (fun L u w3 => Gp w2 B p (fun z => #[z, vk2]) (vh) lh (vk2) (lk ++ [r3]) r2 (L 4) (L 7) (L 8) (L 11) (u 7) (u 8) w3) (fun j => if j = 0 then u26 else if j = 1 then u27 else if j = 2 then u28 else if j = 3 then u29 else if j = 4 then u30 else if j = 5 then u31 else if j = 6 then u32 else if j = 7 then u33 else if j = 8 then u34 else if j = 9 then u35 else if j = 10 then u36 else undef) (hG0 _ _) ?_ ?_
          · rintro L u w3 i o hG hΦ ho hL hd K hK
            match i, ho with
            | 0, ho =>
              simp at ho; subst ho
              clear hΦ hd
              go_simp
              exact hK _ _ v0.symm hG (fun _ _ _ h => h)
            | 1, ho =>
              simp at ho; subst ho
              clear hΦ hd
              go_simp
              exact hK _ _ v1.symm hG (fun _ _ _ h => h)
            | 2, ho =>
              simp at ho; subst ho
              have hu1 : u 1 = V 1 := hΦ 1 (hd ⟨1, .data⟩ (by simp) (by rfl))
              rw [v1] at hu1
              clear hΦ hd
              have hx : ∃ x, u = (upd x 1 (.pointer (some ⟨p, 0, none⟩))) := ⟨u, by rw [← upd_self hu1]⟩
              clear hu1
              obtain ⟨x, rfl⟩ := hx
              simp only [upd, reduceIte, Nat.reduceEqDiff]
              go_simp
              exact hK _ _ v2.symm hG (fun _ _ _ h => h)
            | 3, ho =>
              simp at ho; subst ho
              have hu2 : u 2 = V 2 := hΦ 2 (hd ⟨2, .data⟩ (by simp) (by rfl))
              rw [v2] at hu2
              clear hΦ hd
              have hx : ∃ x, u = (upd x 2 (.pointer (some ⟨p, 0, none⟩))) := ⟨u, by rw [← upd_self hu2]⟩
              clear hu2
              obtain ⟨x, rfl⟩ := hx
              simp only [upd, reduceIte, Nat.reduceEqDiff]
              go_simp
              exact hK _ _ v3.symm hG (fun _ _ _ h => h)
            | 4, ho =>
              simp at ho; subst ho
              have hu3 : u 3 = V 3 := hΦ 3 (hd ⟨3, .data⟩ (by simp) (by rfl))
              rw [v3] at hu3
              clear hΦ hd
              have hx : ∃ x, u = (upd x 3 (.pointer (some ⟨p, 0, none⟩))) := ⟨u, by rw [← upd_self hu3]⟩
              clear hu3
              obtain ⟨x, rfl⟩ := hx
              simp only [upd, reduceIte, Nat.reduceEqDiff]
              rw [hL] at hG
              obtain ⟨hbk, hG2⟩ := hG.load
              have hcl : w3.cell? ⟨p, 0, none⟩ = some (vh) := by simpa using hbk.cell 0
              go_simp
              exact hK _ _ v4.symm hG2 (fun _ _ _ h => h)
            | 5, ho =>
              simp at ho; subst ho
              clear hΦ hd
              go_simp
              exact hK _ _ v5.symm hG (fun _ _ _ h => h)
            | 6, ho =>
              simp at ho; subst ho
              have hu5 : u 5 = V 5 := hΦ 5 (hd ⟨5, .data⟩ (by simp) (by rfl))
              rw [v5] at hu5
              clear hΦ hd
              have hx : ∃ x, u = (upd x 5 (.int .i64 (pr : Int))) := ⟨u, by rw [← upd_self hu5]⟩
              clear hu5
              obtain ⟨x, rfl⟩ := hx
              simp only [upd, reduceIte, Nat.reduceEqDiff]
              have hroot := refRoot pr 2 (by omega) (by omega) w3
              rw [← R2.out] at hroot
              go_simp
              refine hroot.mono ?_
              rintro e w4 ⟨rfl, hf4⟩
              exact hK _ _ v6.symm (hG.quiet hf4) (fun _ _ _ h => h)
            | 7, ho =>
              simp at ho; subst ho
              have hu6 : u 6 = V 6 := hΦ 6 (hd ⟨6, .data⟩ (by simp) (by rfl))
              rw [v6] at hu6
              clear hΦ hd
              have hx : ∃ x, u = (upd x 6 (.int .i64 (r2 : Int))) := ⟨u, by rw [← upd_self hu6]⟩
              clear hu6
              obtain ⟨x, rfl⟩ := hx
              simp only [upd, reduceIte, Nat.reduceEqDiff]
              go_simp
              exact hK _ _ trivial hG.make (fun _ _ _ h => h)
            | 8, ho =>
              simp at ho; subst ho
              have hu4 : u 4 = V 4 := hΦ 4 (hd ⟨4, .data⟩ (by simp) (by rfl))
              rw [v4] at hu4
              have hl4 : L 4 = true := hd ⟨4, .data⟩ (by simp) (by rfl)
              have hl7 : L 7 = true := hd ⟨7, .data⟩ (by simp) (by rfl)
              rw [hl4, hl7, hL] at hG
              obtain ⟨g, v', w4, hx7, hap, hG2⟩ := hG.app hpB HB.out (by omega)
              clear hΦ hd
              have hx : ∃ x, u = (upd (upd x 4 (vh)) 7 (.slice (some ⟨g, 0, none⟩) 1 1)) := ⟨u, by rw [← upd_self hu4, ← upd_self hx7]⟩
              clear hu4 hx7
              obtain ⟨x, rfl⟩ := hx
              simp only [upd, reduceIte, Nat.reduceEqDiff] at hG2 ⊢
              refine wp_append_run _ _ _ _ rfl hap rfl rfl ?_
              refine hK _ _ trivial ?_ (fun _ _ _ h => h)
              rw [show mark L 8 4 = true from hl4, show mark L 8 7 = true from hl7]
              exact hG2
            | 9, ho =>
              simp at ho; subst ho
              have hu0 : u 0 = V 0 := hΦ 0 (hd ⟨0, .data⟩ (by simp) (by rfl))
              rw [v0] at hu0
              clear hΦ hd
              have hx : ∃ x, u = (upd x 0 (.pointer (some ⟨p, 0, none⟩))) := ⟨u, by rw [← upd_self hu0]⟩
              clear hu0
              obtain ⟨x, rfl⟩ := hx
              simp only [upd, reduceIte, Nat.reduceEqDiff]
              go_simp
              exact hK _ _ v9.symm hG (fun _ _ _ h => h)
            | 10, ho =>
              simp at ho; subst ho
              have hu9 : u 9 = V 9 := hΦ 9 (hd ⟨9, .data⟩ (by simp) (by rfl))
              rw [v9] at hu9
              clear hΦ hd
              have hx : ∃ x, u = (upd x 9 (.pointer (some ⟨p, 0, none⟩))) := ⟨u, by rw [← upd_self hu9]⟩
              clear hu9
              obtain ⟨x, rfl⟩ := hx
              simp only [upd, reduceIte, Nat.reduceEqDiff]
              go_simp
              exact hK _ _ v10.symm hG (fun _ _ _ h => h)
            | 11, ho =>
              simp at ho; subst ho
              have hu10 : u 10 = V 10 := hΦ 10 (hd ⟨10, .data⟩ (by simp) (by rfl))
              rw [v10] at hu10
              have hl8 : L 8 = true := hd ⟨8, .data⟩ (by simp) (by rfl)
              rw [hl8, hL] at hG
              obtain ⟨hG2, hbk, A8, n8, c8, hx8⟩ := hG.store hpB 0 (fun _ => rfl)
              have hcl : w3.cell? ⟨p, 0, none⟩ = some (vh) := by simpa using hbk.cell 0
              have hfz := hbk.free 0
              clear hΦ hd
              have hx : ∃ x, u = (upd (upd x 10 (.pointer (some ⟨p, 0, none⟩))) 8 (.slice A8 n8 c8)) := ⟨u, by rw [← upd_self hu10, ← upd_self hx8]⟩
              clear hu10 hx8
              obtain ⟨x, rfl⟩ := hx
              simp only [upd, reduceIte, Nat.reduceEqDiff] at hG2 ⊢
              go_simp
              refine hK undef _ trivial ?_ (fun _ _ _ h => h)
              rw [show mark L 11 8 = true from hl8]
              exact hG2
          · rintro u w3 hu L hall hG
            clear hu
            rw [hall 11 (by decide)] at hG
            obtain ⟨hfr3, -, -, -, -, h6⟩ := hG
            obtain ⟨v', hbk3, hO3, hP3, hne3⟩ := h6 rfl
            clear hall h6
            go_wp2_with fail
            exact ⟨⟨k + 1, v', vk2, by omega, by rw [Int.natCast_add]; rfl, hfr3, hbk3, by rw [Hh2.out]; exact hO3, by rw [Hk2.out]; exact hP3, hne3⟩, by simp only [intOf]; omega⟩
        · rw [if_neg h8] at Hh2
          go_wp2_with fail
          exact ⟨⟨k + 1, vh, vk2, by omega, by rw [Int.natCast_add]; rfl, hfr3, hbk3, by rw [Hh2.out]; exact hP3, by rw [Hk2.out]; exact hO3, hne3.symm⟩, by simp only [intOf]; omega⟩
    · obtain rfl : k = 64 := by omega
      rw [show primeTab.take 64 = primeTab by rw [← primeTab_len, List.take_length]] at hOh hOk
      rw [hTab_roots] at hOh
      rw [kTab_roots] at hOk
      have hFF : Fr noB w wr := hF2.trans' hfr fun q hq he => absurd he (by have := Hp.out; omega)
      have Hh := Lib.hid hOh
      have Hk := Lib.hid hOk
      clear hOh hOk
      go_wp2_with fail
      go_ret
      exact ⟨p, B, vh, vk, rfl, hbk, Hh.out, Hk.out, hFF, by have := Hp.out; omega⟩
end Go.Proofs.YtcbkaiakdhiloaaDoor
