/- Parts of the walk; written by programs, merged. -/
import Derived.Test.YtcbkaiakdhiloabGreatDoorRap
import Derived.Test.YtcbkaiakdhiloabGreatDoorRaq
set_option linter.unusedSimpArgs false
set_option linter.unusedVariables false
set_option maxRecDepth 20000
set_option maxHeartbeats 8000000
namespace Go.Proofs.YtcbkaiakdhiloabGreatDoor
open Go.RowKit Go.Proofs
def ne2 (a b : Value) : Prop := ∀ q, a.ownBlock = some q → b.ownBlock ≠ some q
theorem ne2.symm {a b : Value} (h : ne2 a b) : ne2 b a := fun q h1 h2 => h q h2 h1
abbrev tabT : TypeId := 167
def Gp (w2 : World) (B p : Nat) (cs : Value → Array Value) (v : Value) (l : List Nat) (o : Value) (lo : List Nat) (x : Nat) (b4 b7 b8 b11 : Bool) (x7 x8 : Value) (w3 : World) : Prop :=
  Fr (fun q => q = p) w2 w3 ∧ (b8 = true → b4 = true) ∧ (b11 = true → b8 = true) ∧
  (b8 = false → Bk w3 p tabT (cs v) ∧ OI w3 B v l ∧ OI w3 B o lo ∧ ne2 v o ∧ (b7 = true → ∃ g, x7 = .slice (some ⟨g, 0, none⟩) 1 1 ∧ IB w3 g [x])) ∧
  (b8 = true → b11 = false → Bk w3 p tabT (cs v) ∧ OI w3 B x8 (l ++ [x]) ∧ OI w3 B o lo ∧ ne2 x8 o) ∧
  (b11 = true → ∃ v', Bk w3 p tabT (cs v') ∧ OI w3 B v' (l ++ [x]) ∧ OI w3 B o lo ∧ ne2 v' o)
section
variable {w2 : World} {B p : Nat} {cs : Value → Array Value} {v : Value} {l : List Nat} {o : Value} {lo : List Nat} {x : Nat} {b4 b7 b8 b11 : Bool} {x7 x8 : Value} {w3 w4 : World}
theorem Gp.quiet (h : Gp w2 B p cs v l o lo x b4 b7 b8 b11 x7 x8 w3) (hf : Fr noB w3 w4) : Gp w2 B p cs v l o lo x b4 b7 b8 b11 x7 x8 w4 := by
  obtain ⟨h1, h2, h3, h4, h5, h6⟩ := h
  refine ⟨h1.none hf, h2, h3, fun e => ?_, fun e e' => ?_, fun e => ?_⟩
  · obtain ⟨a, b, c, d, f⟩ := h4 e
    exact ⟨a.keep hf id, b.quiet hf, c.quiet hf, d, fun e => by obtain ⟨g, q, r⟩ := f e; exact ⟨g, q, Bk.keep r hf id⟩⟩
  · obtain ⟨a, b, c, d⟩ := h5 e e'
    exact ⟨a.keep hf id, b.quiet hf, c.quiet hf, d⟩
  · obtain ⟨v', a, b, c, d⟩ := h6 e
    exact ⟨v', a.keep hf id, b.quiet hf, c.quiet hf, d⟩
theorem Gp.load (h : Gp w2 B p cs v l o lo x false b7 b8 b11 x7 x8 w3) : Bk w3 p tabT (cs v) ∧ Gp w2 B p cs v l o lo x true b7 b8 b11 x7 x8 w3 := by
  obtain ⟨h1, h2, h3, h4, h5, h6⟩ := h
  have h8 : b8 = false := by cases b8 with | false => rfl | true => exact absurd (h2 rfl) (by simp)
  exact ⟨(h4 h8).1, h1, fun _ => rfl, h3, h4, h5, h6⟩
theorem Gp.make (h : Gp w2 B p cs v l o lo x b4 b7 b8 b11 x7 x8 w3) : Gp w2 B p cs v l o lo x b4 true b8 b11 (.slice (some ⟨w3.heap.size, 0, none⟩) 1 1) x8 (w3.alloc (.cells #[.int .i64 (x : Int)] 3)) := by
  have hq := h.quiet ((Fr.refl noB w3).alloc (.cells #[.int .i64 (x : Int)] 3))
  obtain ⟨h1, h2, h3, h4, h5, h6⟩ := hq
  refine ⟨h1, h2, h3, fun e => ?_, h5, h6⟩
  obtain ⟨a, b, c, d, f⟩ := h4 e
  exact ⟨a, b, c, d, fun _ => ⟨_, rfl, Bk.new w3 _ _⟩⟩
theorem Gp.app (h : Gp w2 B p cs v l o lo x true true false b11 x7 x8 w3) (hpB : p < B) (hB : B = w2.heap.size) (hl : l.length < 1000000) :
    ∃ g v' w4, x7 = .slice (some ⟨g, 0, none⟩) 1 1 ∧ (Builtin.append_ #[165, 165] 165 #[v, .slice (some ⟨g, 0, none⟩) 1 1]).run Tryz.prog w3 = .ok v' w4 ∧
      Gp w2 B p cs v l o lo x true true true b11 x7 v' w4 := by
  obtain ⟨h1, h2, h3, h4, h5, h6⟩ := h
  have h11 : b11 = false := by cases b11 with | false => rfl | true => exact absurd (h3 rfl) (by simp)
  obtain ⟨a, b, c, d, f⟩ := h4 rfl
  obtain ⟨g, hg, hI⟩ := f rfl
  obtain ⟨v', w4, k1, k2, k3, k4⟩ := run_app_int' w3 B x g v l b hI (by rw [hB]; exact h1.size) hl
  refine ⟨g, v', w4, hg, k1, ⟨h1.trans' ((Fr.refl (fun q => v.ownBlock = some q) w3).grown k3 fun g hg _ => hg) ?_, fun _ => rfl, fun _ => rfl, fun e => absurd e (by simp), fun _ _ => ⟨a.grown k3 ?_, k2, World.ownsRow.kept c k3 ?_, ?_⟩, fun e => absurd e (by rw [h11]; simp)⟩⟩
  · intro q hq he; have := (World.ownsRow.lt b q he).1; omega
  · intro he; have := (World.ownsRow.lt b p he.symm).1; omega
  · rcases ho : o.ownBlock with _ | q
    · exact .inl rfl
    · exact .inr (fun he => d q he.symm ho)
  · intro q hq ho
    rcases k4 with k4 | k4
    · exact d q (k4.symm.trans hq) ho
    · have := (World.ownsRow.lt c q ho).2
      rw [k4] at hq; injection hq with hq; omega
theorem Gp.store (h : Gp w2 B p cs v l o lo x b4 b7 true false x7 x8 w3) (hpB : p < B) (k : Nat) (hcs : ∀ u, (cs v).setIfInBounds k u = cs u) :
    Gp w2 B p cs v l o lo x b4 b7 true true x7 x8 (w3.setCell ⟨p, k, none⟩ x8) ∧ Bk w3 p tabT (cs v) ∧ ∃ A n cap, x8 = .slice A n cap := by
  obtain ⟨h1, h2, h3, h4, h5, h6⟩ := h
  obtain ⟨a, b, c, d⟩ := h5 rfl rfl
  have hb := a.set k x8
  rw [hcs] at hb
  have hg : w3.grownBy (w3.setCell ⟨p, k, none⟩ x8) (some p) := by
    have hf : Fr (fun q => q = p) w3 (w3.setCell ⟨p, k, none⟩ x8) := Fr.setCell (S := fun q => q = p) (Fr.refl _ _) (p := ⟨p, k, none⟩) (fun _ => rfl) _
    exact ⟨hf.os, hf.tape, hf.output, hf.size, fun q hq hne => hf.block q hq (fun e => hne (by rw [e]))⟩
  have hn : ∀ {u : Value} {l' : List Nat}, OI w3 B u l' → u.ownBlock = none ∨ u.ownBlock ≠ some p := by
    intro u l' hu
    exact .inr fun e => by have := (World.ownsRow.lt hu p e).1; omega
  exact ⟨⟨h1.setCell (p := ⟨p, k, none⟩) (fun _ => rfl) _, h2, fun _ => rfl, fun e => absurd e (by simp), fun _ e => absurd e (by simp), fun _ => ⟨x8, hb, World.ownsRow.kept b hg (hn b), World.ownsRow.kept c hg (hn c), d⟩⟩, a, by obtain ⟨A, cap, e, _⟩ := b.shape; exact ⟨A, _, cap, e⟩⟩
end
theorem refNewTables (w : World) :
    Calls Tryz.prog 51 #[] w (fun e w' => ∃ p B vh vk, e = .returned (.pointer (some ⟨p, 0, none⟩)) ∧ Bk w' p tabT #[vh, vk] ∧ OI w' B vh (h0.list.map UInt32.toNat) ∧ OI w' B vk (kTab.map UInt32.toNat) ∧ Fr noB w w' ∧ w.heap.size ≤ p) := by
  go_enter Tryz.func51, Tryz.ntmps51
  have hB0 : Bk (w.alloc (.cells #[.slice none 0 0, .slice none 0 0] tabT)) w.heap.size tabT #[.slice none 0 0, .slice none 0 0] := Bk.new w _ _
  have hF0 : Fr noB w (w.alloc (.cells #[.slice none 0 0, .slice none 0 0] tabT)) := (Fr.refl _ _).alloc _
  have hS0 := alloc_sz w (.cells #[.slice none 0 0, .slice none 0 0] tabT)
  go_wp2_with fail
  generalize w.alloc (.cells #[.slice none 0 0, .slice none 0 0] tabT) = w1 at *
  refine (refPrimes _).mono ?_
  rintro e w2 ⟨v, rfl, hO, hf2⟩
  obtain ⟨A, cap, rfl, hA⟩ := hO.shape
  rw [primeTab_len] at hA ⊢
  obtain ⟨g, rfl, hR, hbg⟩ := hA (by omega)
  have hB2 := hB0.keep hf2 id
  have hF2 := hF0.trans hf2
  obtain ⟨p, hp⟩ : ∃ p, p = w.heap.size := ⟨_, rfl⟩
  rw [← hp] at hB2 ⊢
  obtain ⟨B, hB⟩ : ∃ B, B = w2.heap.size := ⟨_, rfl⟩
  have hgB : g < B := by rw [hB]; exact hR.lt
  have hpB : p < B := by have := hf2.size; omega
  have hpg : p < g := by omega
  have HB := Lib.hid hB
  have Hp := Lib.hid hp
  clear hA hO hB0 hF0 hB hp hS0 hf2
  go_wp2_with fail
  go_loopw [8] (fun iv wr => ∃ (k : Nat) (vh vk : Value), k ≤ 64 ∧ iv = .int .i64 k ∧ Fr (fun q => q = p) w2 wr ∧ Bk wr p tabT #[vh, vk] ∧ OI wr B vh (((primeTab.take k).take 8).map fun q => rootN q 2) ∧ OI wr B vk ((primeTab.take k).map fun q => rootN q 3) ∧ ne2 vh vk) (fun iv _ => 64 - (intOf iv).toNat)
  case atStart => exact ⟨0, _, _, by omega, rfl, Fr.refl _ _, hB2, OI.nil _ _, OI.nil _ _, fun q h => by cases h⟩
  case round =>
    obtain ⟨k, vh, vk, hk, rfl, hfr, hbk, hOh, hOk, hne⟩ := hrel
    by_cases hlt : k < 64
    · obtain ⟨pr, hpr⟩ : ∃ q, primeTab[k]? = some q := ⟨primeTab[k]'(by rw [primeTab_len]; exact hlt), List.getElem?_eq_getElem _⟩
      have hpl : pr < 65536 := by
        have h1 := (below_le 312 pr (by rw [below_all]; exact List.mem_of_getElem? hpr)).2; omega
      have hRw : RI wr g primeTab := hR.keep hfr (by omega)
      have hcp := hRw.get k pr hpr
      have htk : primeTab.take (k + 1) = primeTab.take k ++ [pr] := by rw [List.take_add_one, hpr]; rfl
      have hlk : ((primeTab.take k).map fun q => rootN q 3).length ≤ 64 := by rw [List.length_map, List.length_take]; omega
      have hlh : (((primeTab.take k).take 8).map fun q => rootN q 2).length ≤ 64 := by rw [List.length_map, List.length_take]; omega
      have hk2 : ((primeTab.take (k + 1)).map fun q => rootN q 3) = ((primeTab.take k).map fun q => rootN q 3) ++ [rootN pr 3] := by rw [htk]; simp
      have hh2 : (((primeTab.take (k + 1)).take 8).map fun q => rootN q 2) = if k < 8 then (((primeTab.take k).take 8).map fun q => rootN q 2) ++ [rootN pr 2] else (((primeTab.take k).take 8).map fun q => rootN q 2) := by
        rw [List.take_take, List.take_take]
        split
        · rw [show min 8 (k + 1) = k + 1 by omega, show min 8 k = k by omega, htk]; simp
        · rw [show min 8 (k + 1) = 8 by omega, show min 8 k = 8 by omega]
      generalize ((primeTab.take k).map fun q => rootN q 3) = lk at *
      generalize (((primeTab.take k).take 8).map fun q => rootN q 2) = lh at *
      obtain ⟨r3, R3⟩ : ∃ r, r = rootN pr 3 := ⟨_, rfl⟩
      obtain ⟨r2, R2⟩ : ∃ r, r = rootN pr 2 := ⟨_, rfl⟩
      rw [← R3] at hk2
      rw [← R2] at hh2
      replace R3 := Lib.hid R3
      replace R2 := Lib.hid R2
      have Hk2 := Lib.hid hk2
      have Hh2 := Lib.hid hh2
      clear htk hpr hk2 hh2
      have HR := Lib.hid hRw
      clear hRw hk
      go_upto_region 5 with fail
      generalize decide ((k : Int) < 64) = b9
      have hG0 : ∀ x7 x8, Gp w2 B p (fun z => #[vh, z]) vk lk vh lh r3 false false false false x7 x8 wr.drew := by
        intro x7 x8
        exact ⟨hfr.drew, fun e => absurd e (by simp), fun e => absurd e (by simp), fun _ => ⟨hbk, hOk, hOh, hne.symm, fun e => absurd e (by simp)⟩, fun e => absurd e (by simp), fun e => absurd e (by simp)⟩
      obtain ⟨V, hV⟩ : ∃ V : Nat → Value, V = (fun j => match j with | 0 => .pointer (some ⟨p, 0, none⟩) | 1 => .pointer (some ⟨p, 0, none⟩) | 2 => .pointer (some ⟨p, 0, none⟩) | 3 => .pointer (some ⟨p, 1, none⟩) | 4 => vk | 5 => .int .i64 (pr : Int) | 6 => .int .i64 (r3 : Int) | 9 => .pointer (some ⟨p, 0, none⟩) | 10 => .pointer (some ⟨p, 1, none⟩) | _ => undef) := ⟨_, rfl⟩
      have v0 : V 0 = .pointer (some ⟨p, 0, none⟩) := congrFun hV 0
      have v1 : V 1 = .pointer (some ⟨p, 0, none⟩) := congrFun hV 1
      have v2 : V 2 = .pointer (some ⟨p, 0, none⟩) := congrFun hV 2
      have v3 : V 3 = .pointer (some ⟨p, 1, none⟩) := congrFun hV 3
      have v4 : V 4 = vk := congrFun hV 4
      have v5 : V 5 = .int .i64 (pr : Int) := congrFun hV 5
      have v6 : V 6 = .int .i64 (r3 : Int) := congrFun hV 6
      have v9 : V 9 = .pointer (some ⟨p, 0, none⟩) := congrFun hV 9
      have v10 : V 10 = .pointer (some ⟨p, 1, none⟩) := congrFun hV 10
      clear hV
      refine wp_region_ssau (by kernel_rfl) (by kernel_rfl) (by kernel_rfl)
        (fun u => ⟨#[.pointer none, .pointer (some ⟨p, 0, none⟩), .int .i64 (k : Int), .int .i64 (pr : Int), .agg #[.slice none 0 0, .slice none 0 0], .pointer (some ⟨p, 0, none⟩), .slice (some ⟨g, 0, none⟩) 64 cap, .int .i64 64, .int .i64 (k : Int), .bool b9, .int .i64 (k : Int), .pointer (some ⟨g, k, none⟩), .int .i64 (pr : Int), u 0, u 1, u 2, u 3, u 4, u 5, u 6, u 7, u 8, u 9, u 10, u24, u25, u26, u27, u28, u29, u30, u31, u32, u33, u34, u35, u36, u37, undef], []⟩)
        (fun j x w3 => if j = 7 then True else if j = 8 then True else if j = 11 then True else x = V j)
        (fun L u w3 => Gp w2 B p (fun z => #[vh, z]) (vk) lk (vh) lh r3 (L 4) (L 7) (L 8) (L 11) (u 7) (u 8) w3) (fun j => if j = 0 then u13 else if j = 1 then u14 else if j = 2 then u15 else if j = 3 then u16 else if j = 4 then u17 else if j = 5 then u18 else if j = 6 then u19 else if j = 7 then u20 else if j = 8 then u21 else if j = 9 then u22 else if j = 10 then u23 else undef) (hG0 _ _) ?_ ?_
      · rintro L u w3 i o hG hΦ ho hL hd K hK
        match i, ho with
        | 0, ho =>
          simp at ho; subst ho
          clear hΦ hd
          go_simp
          exact hK _ _ v0.symm hG (fun _ _ _ h => h)
        | 1, ho =>
          simp at ho; subst ho
          clear hΦ hd
          go_simp
          exact hK _ _ v1.symm hG (fun _ _ _ h => h)
        | 2, ho =>
          simp at ho; subst ho
          have hu1 : u 1 = V 1 := hΦ 1 (hd ⟨1, .data⟩ (by simp) (by rfl))
          rw [v1] at hu1
          clear hΦ hd
          have hx : ∃ x, u = (upd x 1 (.pointer (some ⟨p, 0, none⟩))) := ⟨u, by rw [← upd_self hu1]⟩
          clear hu1
          obtain ⟨x, rfl⟩ := hx
          simp only [upd, reduceIte, Nat.reduceEqDiff]
          go_simp
          exact hK _ _ v2.symm hG (fun _ _ _ h => h)
        | 3, ho =>
          simp at ho; subst ho
          have hu2 : u 2 = V 2 := hΦ 2 (hd ⟨2, .data⟩ (by simp) (by rfl))
          rw [v2] at hu2
          clear hΦ hd
          have hx : ∃ x, u = (upd x 2 (.pointer (some ⟨p, 0, none⟩))) := ⟨u, by rw [← upd_self hu2]⟩
          clear hu2
          obtain ⟨x, rfl⟩ := hx
          simp only [upd, reduceIte, Nat.reduceEqDiff]
          go_simp
          exact hK _ _ v3.symm hG (fun _ _ _ h => h)
        | 4, ho =>
          simp at ho; subst ho
          have hu3 : u 3 = V 3 := hΦ 3 (hd ⟨3, .data⟩ (by simp) (by rfl))
          rw [v3] at hu3
          clear hΦ hd
          have hx : ∃ x, u = (upd x 3 (.pointer (some ⟨p, 1, none⟩))) := ⟨u, by rw [← upd_self hu3]⟩
          clear hu3
          obtain ⟨x, rfl⟩ := hx
          simp only [upd, reduceIte, Nat.reduceEqDiff]
          rw [hL] at hG
          obtain ⟨hbk, hG2⟩ := hG.load
          have hcl : w3.cell? ⟨p, 1, none⟩ = some (vk) := by simpa using hbk.cell 1
          go_simp
          exact hK _ _ v4.symm hG2 (fun _ _ _ h => h)
        | 5, ho =>
          simp at ho; subst ho
          clear hΦ hd
          go_simp
          exact hK _ _ v5.symm hG (fun _ _ _ h => h)
        | 6, ho =>
          simp at ho; subst ho
          have hu5 : u 5 = V 5 := hΦ 5 (hd ⟨5, .data⟩ (by simp) (by rfl))
          rw [v5] at hu5
          clear hΦ hd
          have hx : ∃ x, u = (upd x 5 (.int .i64 (pr : Int))) := ⟨u, by rw [← upd_self hu5]⟩
          clear hu5
          obtain ⟨x, rfl⟩ := hx
          simp only [upd, reduceIte, Nat.reduceEqDiff]
          have hroot := refRoot pr 3 (by omega) (by omega) w3
          rw [← R3.out] at hroot
          go_simp
          refine hroot.mono ?_
          rintro e w4 ⟨rfl, hf4⟩
          exact hK _ _ v6.symm (hG.quiet hf4) (fun _ _ _ h => h)
        | 7, ho =>
          simp at ho; subst ho
          have hu6 : u 6 = V 6 := hΦ 6 (hd ⟨6, .data⟩ (by simp) (by rfl))
          rw [v6] at hu6
          clear hΦ hd
          have hx : ∃ x, u = (upd x 6 (.int .i64 (r3 : Int))) := ⟨u, by rw [← upd_self hu6]⟩
          clear hu6
          obtain ⟨x, rfl⟩ := hx
          simp only [upd, reduceIte, Nat.reduceEqDiff]
          go_simp
          exact hK _ _ trivial hG.make (fun _ _ _ h => h)
        | 8, ho =>
          simp at ho; subst ho
          have hu4 : u 4 = V 4 := hΦ 4 (hd ⟨4, .data⟩ (by simp) (by rfl))
          rw [v4] at hu4
          have hl4 : L 4 = true := hd ⟨4, .data⟩ (by simp) (by rfl)
          have hl7 : L 7 = true := hd ⟨7, .data⟩ (by simp) (by rfl)
          rw [hl4, hl7, hL] at hG
          obtain ⟨g, v', w4, hx7, hap, hG2⟩ := hG.app hpB HB.out (by omega)
          clear hΦ hd
          have hx : ∃ x, u = (upd (upd x 4 (vk)) 7 (.slice (some ⟨g, 0, none⟩) 1 1)) := ⟨u, by rw [← upd_self hu4, ← upd_self hx7]⟩
          clear hu4 hx7
          obtain ⟨x, rfl⟩ := hx
          simp only [upd, reduceIte, Nat.reduceEqDiff] at hG2 ⊢
          refine wp_append_run _ _ _ _ rfl hap rfl rfl ?_
          refine hK _ _ trivial ?_ (fun _ _ _ h => h)
          rw [show mark L 8 4 = true from hl4, show mark L 8 7 = true from hl7]
          exact hG2
        | 9, ho =>
          simp at ho; subst ho
          have hu0 : u 0 = V 0 := hΦ 0 (hd ⟨0, .data⟩ (by simp) (by rfl))
          rw [v0] at hu0
          clear hΦ hd
          have hx : ∃ x, u = (upd x 0 (.pointer (some ⟨p, 0, none⟩))) := ⟨u, by rw [← upd_self hu0]⟩
          clear hu0
          obtain ⟨x, rfl⟩ := hx
          simp only [upd, reduceIte, Nat.reduceEqDiff]
          go_simp
          exact hK _ _ v9.symm hG (fun _ _ _ h => h)
        | 10, ho =>
          simp at ho; subst ho
          have hu9 : u 9 = V 9 := hΦ 9 (hd ⟨9, .data⟩ (by simp) (by rfl))
          rw [v9] at hu9
          clear hΦ hd
          have hx : ∃ x, u = (upd x 9 (.pointer (some ⟨p, 0, none⟩))) := ⟨u, by rw [← upd_self hu9]⟩
          clear hu9
          obtain ⟨x, rfl⟩ := hx
          simp only [upd, reduceIte, Nat.reduceEqDiff]
          go_simp
          exact hK _ _ v10.symm hG (fun _ _ _ h => h)
        | 11, ho =>
          simp at ho; subst ho
          have hu10 : u 10 = V 10 := hΦ 10 (hd ⟨10, .data⟩ (by simp) (by rfl))
          rw [v10] at hu10
          have hl8 : L 8 = true := hd ⟨8, .data⟩ (by simp) (by rfl)
          rw [hl8, hL] at hG
          obtain ⟨hG2, hbk, A8, n8, c8, hx8⟩ := hG.store hpB 1 (fun _ => rfl)
          have hcl : w3.cell? ⟨p, 1, none⟩ = some (vk) := by simpa using hbk.cell 1
          have hfz := hbk.free 1
          clear hΦ hd
          have hx : ∃ x, u = (upd (upd x 10 (.pointer (some ⟨p, 1, none⟩))) 8 (.slice A8 n8 c8)) := ⟨u, by rw [← upd_self hu10, ← upd_self hx8]⟩
          clear hu10 hx8
          obtain ⟨x, rfl⟩ := hx
          simp only [upd, reduceIte, Nat.reduceEqDiff] at hG2 ⊢
          go_simp
          refine hK undef _ trivial ?_ (fun _ _ _ h => h)
          rw [show mark L 11 8 = true from hl8]
          exact hG2
      · rintro u w3 hu L hall hG
        clear hu
        rw [hall 11 (by decide)] at hG
        obtain ⟨hfr3, -, -, -, -, h6⟩ := hG
        obtain ⟨v', hbk3, hO3, hP3, hne3⟩ := h6 rfl
        clear v0 v1 v2 v3 v4 v5 v6 v9 v10 hG0
        obtain ⟨vk2, rfl⟩ : ∃ z, z = v' := ⟨_, rfl⟩
        obtain ⟨w5, rfl⟩ : ∃ z, z = w3 := ⟨_, rfl⟩
        clear hall h6
        by_cases h8 : k < 8
        · rw [if_pos h8] at Hh2
          go_upto_region 7 with fail
          generalize decide ((k : Int) < 8) = b25
          generalize u 0 = y13
          generalize u 1 = y14
          generalize u 2 = y15
          generalize u 3 = y16
          generalize u 4 = y17
          generalize u 5 = y18
          generalize u 6 = y19
          generalize u 7 = y20
          generalize u 8 = y21
          generalize u 9 = y22
          generalize u 10 = y23
          have hG0 : ∀ x7 x8, Gp w2 B p (fun z => #[z, vk2]) vh lh vk2 (lk ++ [r3]) r2 false false false false x7 x8 w5.drew := by
            intro x7 x8
            exact ⟨hfr3.drew, fun e => absurd e (by simp), fun e => absurd e (by simp), fun _ => ⟨hbk3, hP3, hO3, hne3.symm, fun e => absurd e (by simp)⟩, fun e => absurd e (by simp), fun e => absurd e (by simp)⟩
          obtain ⟨V, hV⟩ : ∃ V : Nat → Value, V = (fun j => match j with | 0 => .pointer (some ⟨p, 0, none⟩) | 1 => .pointer (some ⟨p, 0, none⟩) | 2 => .pointer (some ⟨p, 0, none⟩) | 3 => .pointer (some ⟨p, 0, none⟩) | 4 => vh | 5 => .int .i64 (pr : Int) | 6 => .int .i64 (r2 : Int) | 9 => .pointer (some ⟨p, 0, none⟩) | 10 => .pointer (some ⟨p, 0, none⟩) | _ => undef) := ⟨_, rfl⟩
          have v0 : V 0 = .pointer (some ⟨p, 0, none⟩) := congrFun hV 0
          have v1 : V 1 = .pointer (some ⟨p, 0, none⟩) := congrFun hV 1
          have v2 : V 2 = .pointer (some ⟨p, 0, none⟩) := congrFun hV 2
          have v3 : V 3 = .pointer (some ⟨p, 0, none⟩) := congrFun hV 3
          have v4 : V 4 = vh := congrFun hV 4
          have v5 : V 5 = .int .i64 (pr : Int) := congrFun hV 5
          have v6 : V 6 = .int .i64 (r2 : Int) := congrFun hV 6
          have v9 : V 9 = .pointer (some ⟨p, 0, none⟩) := congrFun hV 9
          have v10 : V 10 = .pointer (some ⟨p, 0, none⟩) := congrFun hV 10
          clear hV
          refine wp_region_ssau (by kernel_rfl) (by kernel_rfl) (by kernel_rfl)
            (fun u => ⟨#[.pointer none, .pointer (some ⟨p, 0, none⟩), .int .i64 (k : Int), .int .i64 (pr : Int), .agg #[.slice none 0 0, .slice none 0 0], .pointer (some ⟨p, 0, none⟩), .slice (some ⟨g, 0, none⟩) 64 cap, .int .i64 64, .int .i64 (k : Int), .bool b9, .int .i64 (k : Int), .pointer (some ⟨g, k, none⟩), .int .i64 (pr : Int), y13, y14, y15, y16, y17, y18, y19, y20, y21, y22, y23, .int .i64 (k : Int), .bool b25, u 0, u 1, u 2, u 3, u 4, u 5, u 6, u 7, u 8, u 9, u 10, u37, undef], []⟩)
            (fun j x w3 => if j = 7 then True else if j = 8 then True else if j = 11 then True else x = V j)
            (fun L u w3 => Gp w2 B p (fun z => #[z, vk2]) (vh) lh (vk2) (lk ++ [r3]) r2 (L 4) (L 7) (L 8) (L 11) (u 7) (u 8) w3) (fun j => if j = 0 then u26 else if j = 1 then u27 else if j = 2 then u28 else if j = 3 then u29 else if j = 4 then u30 else if j = 5 then u31 else if j = 6 then u32 else if j = 7 then u33 else if j = 8 then u34 else if j = 9 then u35 else if j = 10 then u36 else undef) (hG0 _ _) ?_ ?_
          · rintro L u w3 i o hG hΦ ho hL hd K hK
            match i, ho with
            | 0, ho =>
              simp at ho; subst ho
              clear hΦ hd
              go_simp
              exact hK _ _ v0.symm hG (fun _ _ _ h => h)
            | 1, ho =>
              simp at ho; subst ho
              clear hΦ hd
              go_simp
              exact hK _ _ v1.symm hG (fun _ _ _ h => h)
            | 2, ho =>
              simp at ho; subst ho
              have hu1 : u 1 = V 1 := hΦ 1 (hd ⟨1, .data⟩ (by simp) (by rfl))
              rw [v1] at hu1
              clear hΦ hd
              have hx : ∃ x, u = (upd x 1 (.pointer (some ⟨p, 0, none⟩))) := ⟨u, by rw [← upd_self hu1]⟩
              clear hu1
              obtain ⟨x, rfl⟩ := hx
              simp only [upd, reduceIte, Nat.reduceEqDiff]
              go_simp
              exact hK _ _ v2.symm hG (fun _ _ _ h => h)
            | 3, ho =>
              simp at ho; subst ho
              have hu2 : u 2 = V 2 := hΦ 2 (hd ⟨2, .data⟩ (by simp) (by rfl))
              rw [v2] at hu2
              clear hΦ hd
              have hx : ∃ x, u = (upd x 2 (.pointer (some ⟨p, 0, none⟩))) := ⟨u, by rw [← upd_self hu2]⟩
              clear hu2
              obtain ⟨x, rfl⟩ := hx
              simp only [upd, reduceIte, Nat.reduceEqDiff]
              go_simp
              exact hK _ _ v3.symm hG (fun _ _ _ h => h)
            | 4, ho =>
              simp at ho; subst ho
              have hu3 : u 3 = V 3 := hΦ 3 (hd ⟨3, .data⟩ (by simp) (by rfl))
              rw [v3] at hu3
              clear hΦ hd
              have hx : ∃ x, u = (upd x 3 (.pointer (some ⟨p, 0, none⟩))) := ⟨u, by rw [← upd_self hu3]⟩
              clear hu3
              obtain ⟨x, rfl⟩ := hx
              simp only [upd, reduceIte, Nat.reduceEqDiff]
              rw [hL] at hG
              obtain ⟨hbk, hG2⟩ := hG.load
              have hcl : w3.cell? ⟨p, 0, none⟩ = some (vh) := by simpa using hbk.cell 0
              go_simp
              exact hK _ _ v4.symm hG2 (fun _ _ _ h => h)
            | 5, ho =>
              simp at ho; subst ho
              clear hΦ hd
              go_simp
              exact hK _ _ v5.symm hG (fun _ _ _ h => h)
            | 6, ho =>
              simp at ho; subst ho
              have hu5 : u 5 = V 5 := hΦ 5 (hd ⟨5, .data⟩ (by simp) (by rfl))
              rw [v5] at hu5
              clear hΦ hd
              have hx : ∃ x, u = (upd x 5 (.int .i64 (pr : Int))) := ⟨u, by rw [← upd_self hu5]⟩
              clear hu5
              obtain ⟨x, rfl⟩ := hx
              simp only [upd, reduceIte, Nat.reduceEqDiff]
              have hroot := refRoot pr 2 (by omega) (by omega) w3
              rw [← R2.out] at hroot
              go_simp
              refine hroot.mono ?_
              rintro e w4 ⟨rfl, hf4⟩
              exact hK _ _ v6.symm (hG.quiet hf4) (fun _ _ _ h => h)
            | 7, ho =>
              simp at ho; subst ho
              have hu6 : u 6 = V 6 := hΦ 6 (hd ⟨6, .data⟩ (by simp) (by rfl))
              rw [v6] at hu6
              clear hΦ hd
              have hx : ∃ x, u = (upd x 6 (.int .i64 (r2 : Int))) := ⟨u, by rw [← upd_self hu6]⟩
              clear hu6
              obtain ⟨x, rfl⟩ := hx
              simp only [upd, reduceIte, Nat.reduceEqDiff]
              go_simp
              exact hK _ _ trivial hG.make (fun _ _ _ h => h)
            | 8, ho =>
              simp at ho; subst ho
              have hu4 : u 4 = V 4 := hΦ 4 (hd ⟨4, .data⟩ (by simp) (by rfl))
              rw [v4] at hu4
              have hl4 : L 4 = true := hd ⟨4, .data⟩ (by simp) (by rfl)
              have hl7 : L 7 = true := hd ⟨7, .data⟩ (by simp) (by rfl)
              rw [hl4, hl7, hL] at hG
              obtain ⟨g, v', w4, hx7, hap, hG2⟩ := hG.app hpB HB.out (by omega)
              clear hΦ hd
              have hx : ∃ x, u = (upd (upd x 4 (vh)) 7 (.slice (some ⟨g, 0, none⟩) 1 1)) := ⟨u, by rw [← upd_self hu4, ← upd_self hx7]⟩
              clear hu4 hx7
              obtain ⟨x, rfl⟩ := hx
              simp only [upd, reduceIte, Nat.reduceEqDiff] at hG2 ⊢
              refine wp_append_run _ _ _ _ rfl hap rfl rfl ?_
              refine hK _ _ trivial ?_ (fun _ _ _ h => h)
              rw [show mark L 8 4 = true from hl4, show mark L 8 7 = true from hl7]
              exact hG2
            | 9, ho =>
              simp at ho; subst ho
              have hu0 : u 0 = V 0 := hΦ 0 (hd ⟨0, .data⟩ (by simp) (by rfl))
              rw [v0] at hu0
              clear hΦ hd
              have hx : ∃ x, u = (upd x 0 (.pointer (some ⟨p, 0, none⟩))) := ⟨u, by rw [← upd_self hu0]⟩
              clear hu0
              obtain ⟨x, rfl⟩ := hx
              simp only [upd, reduceIte, Nat.reduceEqDiff]
              go_simp
              exact hK _ _ v9.symm hG (fun _ _ _ h => h)
            | 10, ho =>
              simp at ho; subst ho
              have hu9 : u 9 = V 9 := hΦ 9 (hd ⟨9, .data⟩ (by simp) (by rfl))
              rw [v9] at hu9
              clear hΦ hd
              have hx : ∃ x, u = (upd x 9 (.pointer (some ⟨p, 0, none⟩))) := ⟨u, by rw [← upd_self hu9]⟩
              clear hu9
              obtain ⟨x, rfl⟩ := hx
              simp only [upd, reduceIte, Nat.reduceEqDiff]
              go_simp
              exact hK _ _ v10.symm hG (fun _ _ _ h => h)
            | 11, ho =>
              simp at ho; subst ho
              have hu10 : u 10 = V 10 := hΦ 10 (hd ⟨10, .data⟩ (by simp) (by rfl))
              rw [v10] at hu10
              have hl8 : L 8 = true := hd ⟨8, .data⟩ (by simp) (by rfl)
              rw [hl8, hL] at hG
              obtain ⟨hG2, hbk, A8, n8, c8, hx8⟩ := hG.store hpB 0 (fun _ => rfl)
              have hcl : w3.cell? ⟨p, 0, none⟩ = some (vh) := by simpa using hbk.cell 0
              have hfz := hbk.free 0
              clear hΦ hd
              have hx : ∃ x, u = (upd (upd x 10 (.pointer (some ⟨p, 0, none⟩))) 8 (.slice A8 n8 c8)) := ⟨u, by rw [← upd_self hu10, ← upd_self hx8]⟩
              clear hu10 hx8
              obtain ⟨x, rfl⟩ := hx
              simp only [upd, reduceIte, Nat.reduceEqDiff] at hG2 ⊢
              go_simp
              refine hK undef _ trivial ?_ (fun _ _ _ h => h)
              rw [show mark L 11 8 = true from hl8]
              exact hG2
          · rintro u w3 hu L hall hG
            clear hu
            rw [hall 11 (by decide)] at hG
            obtain ⟨hfr3, -, -, -, -, h6⟩ := hG
            obtain ⟨v', hbk3, hO3, hP3, hne3⟩ := h6 rfl
            clear hall h6
            go_wp2_with fail
            exact ⟨⟨k + 1, v', vk2, by omega, by rw [Int.natCast_add]; rfl, hfr3, hbk3, by rw [Hh2.out]; exact hO3, by rw [Hk2.out]; exact hP3, hne3⟩, by simp only [intOf]; omega⟩
        · rw [if_neg h8] at Hh2
          go_wp2_with fail
          exact ⟨⟨k + 1, vh, vk2, by omega, by rw [Int.natCast_add]; rfl, hfr3, hbk3, by rw [Hh2.out]; exact hP3, by rw [Hk2.out]; exact hO3, hne3.symm⟩, by simp only [intOf]; omega⟩
    · obtain rfl : k = 64 := by omega
      rw [show primeTab.take 64 = primeTab by rw [← primeTab_len, List.take_length]] at hOh hOk
      rw [hTab_roots] at hOh
      rw [kTab_roots] at hOk
      have hFF : Fr noB w wr := hF2.trans' hfr fun q hq he => absurd he (by have := Hp.out; omega)
      have Hh := Lib.hid hOh
      have Hk := Lib.hid hOk
      clear hOh hOk
      go_wp2_with fail
      go_ret
      exact ⟨p, B, vh, vk, rfl, hbk, Hh.out, Hk.out, hFF, by have := Hp.out; omega⟩
end Go.Proofs.YtcbkaiakdhiloabGreatDoor
set_option maxRecDepth 20000
namespace Go.Proofs.YtcbkaiakdhiloabGreatDoor
open Go.RowKit Go.Proofs
attribute [local go_sem] bs_size bs_append bs_extract bs_toList
def TabsR (w : World) (p : Nat) : Prop := ∃ B vh vk, Bk w p tabT #[vh, vk] ∧ OI w B vh (h0.list.map UInt32.toNat) ∧ OI w B vk (kTab.map UInt32.toNat)
def uoF (u : Nat → Value) : Act := ⟨#[u 0, u 1, u 2, u 3, u 4, u 5, u 6, u 7, u 8, u 9, u 10, u 11, u 12, u 13, u 14, u 15, u 16, u 17, u 18, u 19, u 20, u 21, u 22, u 23, u 24, u 25, u 26, u 27, u 28, u 29, u 30, u 31, u 32, u 33, u 34, u 35, u 36, u 37, u 38, u 39, u 40, u 41, u 42, u 43, u 44, u 45, u 46, u 47, u 48, u 49], []⟩
set_option maxRecDepth 100000 in
theorem uoF_eq (u : Nat → Value) : uoF u = frN 50 u := rfl
theorem uoF_of {a : Act} (h : Sz 50 a) : a = uoF (sl a) := h.eq.trans (uoF_eq _).symm
theorem uoR0  (a : Act) (w : World) (K : Exit → Act → World → Prop) (hs : Sz 50 a)
     
    (hK : ∀ a' w', Sz 50 a' → Kp [0, 1, 5, 6, 7, 8, 12, 13, 14] a a' → w' = w → K .normal a' w') :
    (regionOf Tryz.f23 0).wp Tryz.prog K a w := by
  unfold Kp at hK; rw [uoF_of hs]; clear hs; generalize sl a = u at *; clear a; have HK := Lib.hid hK; clear hK; conv => arg 2; whnf
  simp only [uoF]
  go_wp2_with fail
  exact HK.out _ _  ⟨rfl, rfl⟩ (Kc rfl (Kc rfl (Kc rfl (Kc rfl (Kc rfl (Kc rfl (Kc rfl (Kc rfl (Kc rfl (Kn _ _))))))))))  rfl
theorem uoR1  (a : Act) (w : World) (K : Exit → Act → World → Prop) (hs : Sz 50 a)
     
    (hK : ∀ a' w' g T, Sz 50 a' → Kp [0, 1, 6, 7, 8, 12, 13, 14] a a' → sl a' 5 = .pointer (some ⟨g, 0, none⟩) → Bk w' g 120 #[.pointer (some ⟨T, 0, none⟩), .slice none 0 0, .bool false] → TabsR w T ∨ True → w.heap.size ≤ g → Fr noB w w' → K .normal a' w') :
    (regionOf Tryz.f23 1).wp Tryz.prog K a w := by
  unfold Kp at hK; rw [uoF_of hs]; clear hs; generalize sl a = u at *; clear a; have HK := Lib.hid hK; clear hK; conv => arg 2; whnf
  simp only [uoF]
  go_wp2_with fail
  refine (refNewTables _).mono ?_
  rintro e w1 ⟨T, B, vh, vk, rfl, hB1, hh1, hk1, hf1, hle1⟩
  go_wp2_with fail
  exact HK.out _ _ w1.heap.size T ⟨rfl, rfl⟩ (Kc rfl (Kc rfl (Kc rfl (Kc rfl (Kc rfl (Kc rfl (Kc rfl (Kc rfl (Kn _ _))))))))) (rfl) (Bk.new _ _ _) (.inr trivial) hf1.size (hf1.alloc _)
theorem uoR2 (A : Option Addr) (n cap : Nat) (a : Act) (w : World) (K : Exit → Act → World → Prop) (hs : Sz 50 a)
    (h0 : sl a 0 = .slice A n cap) 
    (hK : ∀ a' w', Sz 50 a' → Kp [0, 1, 5, 6, 7, 8] a a' → sl a' 12 = .slice A n cap → sl a' 13 = .int .i64 (n : Int) → sl a' 14 = .int .i64 ((0 : Nat) : Int) → w' = w → K .normal a' w') :
    (regionOf Tryz.f23 2).wp Tryz.prog K a w := by
  unfold Kp at hK; rw [uoF_of hs]; clear hs; generalize sl a = u at *; clear a; have HK := Lib.hid hK; clear hK; conv => arg 2; whnf
  simp only [uoF, h0]
  go_wp2_with fail
  exact HK.out _ _  ⟨rfl, rfl⟩ (Kc h0.symm (Kc rfl (Kc rfl (Kc rfl (Kc rfl (Kc rfl (Kn _ _))))))) (rfl) (rfl) (rfl) rfl
theorem uoR3 (i n : Nat) (a : Act) (w : World) (K : Exit → Act → World → Prop) (hs : Sz 50 a)
    (h13 : sl a 13 = .int .i64 (n : Int)) (h14 : sl a 14 = .int .i64 (i : Int)) 
    (hK : ∀ a' w', Sz 50 a' → Kp [0, 1, 5, 6, 7, 8, 12, 13, 14] a a' → sl a' 15 = .bool (decide (i < n)) → w' = w → K .normal a' w') :
    (regionOf Tryz.f23 3).wp Tryz.prog K a w := by
  unfold Kp at hK; rw [uoF_of hs]; clear hs; generalize sl a = u at *; clear a; have HK := Lib.hid hK; clear hK; conv => arg 2; whnf
  simp only [uoF, h13, h14]
  go_wp2_with fail
  exact HK.out _ _  ⟨rfl, rfl⟩ (Kc rfl (Kc rfl (Kc rfl (Kc rfl (Kc rfl (Kc rfl (Kc rfl (Kc h13.symm (Kc h14.symm (Kn _ _)))))))))) (congrArg Value.bool (decide_eq_decide.2 (by omega))) rfl
theorem uoR4 (ad : Addr) (n cap i : Nat) (cs : Array Value) (a : Act) (w : World) (K : Exit → Act → World → Prop) (hs : Sz 50 a)
    (h12 : sl a 12 = .slice (some ad) n cap) (h14 : sl a 14 = .int .i64 (i : Int)) (hi : i < n) (hc : ∀ (j : Nat) (u : Value), cs[j]? = some u → w.cell? ((ad.add (i * 17)).add j) = some u) (hss : cs.size = 17) (hone : cs.all (·.oneCell') = true)
    (hK : ∀ a' w', Sz 50 a' → Kp [0, 1, 5, 8, 12, 13, 14] a a' → sl a' 6 = .int .i64 (i : Int) → sl a' 7 = .pointer (some ⟨w.heap.size, 0, none⟩) → Fr noB w w' → Bk w' w.heap.size 114 cs → K .normal a' w') :
    (regionOf Tryz.f23 4).wp Tryz.prog K a w := by
  unfold Kp at hK; rw [uoF_of hs]; clear hs; generalize sl a = u at *; clear a; have HK := Lib.hid hK; clear hK; conv => arg 2; whnf
  simp only [uoF, h12, h14]
  have hu := Tryz.underlying114
  have hi2 : (Tryz.prog.info? 114).map (·.size) = some cs.size := by rw [hss]; exact opInfo
  have H := Lib.hid (And.intro hss hone)
  clear hss hone
  have HC := Lib.hid hc
  clear hc
  go_wp2_with (first | (refine wpList_load_at rfl 114 (.tmp 17) rfl (ad.add (i * 17)) rfl cs _ HC.out hu rfl hi2 ?_) | (refine wpList_store_bk rfl 114 (.tmp 7) (.tmp 18) rfl w.heap.size _ _ cs rfl rfl (Bk.new w 114 zOp) H.out.1 hi2 H.out.2 ?_; intro w5 hx5 hf5))
  exact HK.out _ _  ⟨rfl, rfl⟩ (Kc rfl (Kc rfl (Kc rfl (Kc rfl (Kc h12.symm (Kc rfl (Kc h14.symm (Kn _ _)))))))) (rfl) (rfl) ((((Fr.refl noB w).alloc _)).trans' hf5 (fun b hb e => by have e' : b = w.heap.size := e; omega)) hx5
theorem uoR5 (q : Nat) (kind only : Int) (b : Bool) (a : Act) (w : World) (K : Exit → Act → World → Prop) (hs : Sz 50 a)
    (h1 : sl a 1 = .int .i64 only) (h7 : sl a 7 = .pointer (some ⟨q, 0, none⟩)) (hc : w.cell? ⟨q, 0, none⟩ = some (.int .i64 kind)) (ho : only = 0 ∨ only = 1 ∨ only = 2 ∨ only = 3 ∨ only = 4 ∨ only = 5) (hb : playedB kind only = b)
    (hK : ∀ a' w', Sz 50 a' → Kp [0, 1, 5, 6, 7, 8, 12, 13, 14] a a' → sl a' 23 = .bool (!b) → w' = w → K .normal a' w') :
    (regionOf Tryz.f23 5).wp Tryz.prog K a w := by
  unfold Kp at hK; rw [uoF_of hs]; clear hs; generalize sl a = u at *; clear a; have HK := Lib.hid hK; clear hK; conv => arg 2; whnf
  simp only [uoF, h1, h7]
  have Ho := Lib.hid ho
  clear ho
  have Hb := Lib.hid hb
  clear hb
  go_wp2_with fail
  refine (playedFn kind only _ Ho.out).mono ?_
  rintro e w1 ⟨rfl, rfl⟩
  rw [Hb.out]
  go_wp2_with fail
  exact HK.out _ _  ⟨rfl, rfl⟩ (Kc rfl (Kc h1.symm (Kc rfl (Kc rfl (Kc h7.symm (Kc rfl (Kc rfl (Kc rfl (Kc rfl (Kn _ _)))))))))) (rfl) rfl
theorem uoR6 (g q : Nat) (only : Int) (cs : Array Value) (b : Bool) (Z : World → Prop) (a : Act) (w : World) (K : Exit → Act → World → Prop) (hs : Sz 50 a)
    (h1 : sl a 1 = .int .i64 only) (h5 : sl a 5 = .pointer (some ⟨g, 0, none⟩)) (h7 : sl a 7 = .pointer (some ⟨q, 0, none⟩)) (hB : Bk w q 114 cs) (hss : cs.size = 17) (hcall : Calls Tryz.prog 53 #[.pointer (some ⟨g, 0, none⟩), .agg cs, .int .i64 only] w fun e w' => e = .returned (.bool b) ∧ Z w')
    (hK : ∀ a' w', Sz 50 a' → Kp [0, 1, 5, 6, 7, 8, 12, 13, 14] a a' → sl a' 27 = .bool b → Z w' → K .normal a' w') :
    (regionOf Tryz.f23 6).wp Tryz.prog K a w := by
  unfold Kp at hK; rw [uoF_of hs]; clear hs; generalize sl a = u at *; clear a; have HK := Lib.hid hK; clear hK; conv => arg 2; whnf
  simp only [uoF, h1, h5, h7]
  have hu := Tryz.underlying114
  have hi2 : (Tryz.prog.info? 114).map (·.size) = some cs.size := by rw [hss]; exact opInfo
  clear hss
  have Hcall := Lib.hid hcall
  clear hcall
  go_wp2_with (refine wpList_load_row rfl 114 (.tmp 7) rfl q rfl 114 cs (0, 0) _ hB hu rfl hi2 ?_)
  refine Hcall.out.mono ?_
  rintro e w1 ⟨rfl, hZ⟩
  go_wp2_with fail
  exact HK.out _ _  ⟨rfl, rfl⟩ (Kc rfl (Kc h1.symm (Kc h5.symm (Kc rfl (Kc h7.symm (Kc rfl (Kc rfl (Kc rfl (Kc rfl (Kn _ _)))))))))) (rfl) hZ
theorem uoR8a (q : Nat) (only : Int) (a : Act) (w : World) (K : Exit → Act → World → Prop) (hs : Sz 50 a)
    (h1 : sl a 1 = .int .i64 only) (h7 : sl a 7 = .pointer (some ⟨q, 0, none⟩)) (ho : (only != 5) = true)
    (hK : ∀ a' w', Sz 50 a' → Kp [0, 1, 5, 6, 7, 12, 13, 14] a a' → sl a' 8 = .bool true → w' = w → K .normal a' w') :
    (regionOf Tryz.f23 8).wp Tryz.prog K a w := by
  unfold Kp at hK; rw [uoF_of hs]; clear hs; generalize sl a = u at *; clear a; have HK := Lib.hid hK; clear hK; conv => arg 2; whnf
  simp only [uoF, h1, h7]
  go_wp2_with fail
  exact HK.out _ _  ⟨rfl, rfl⟩ (Kc rfl (Kc h1.symm (Kc rfl (Kc rfl (Kc h7.symm (Kc rfl (Kc rfl (Kc rfl (Kn _ _))))))))) (rfl) rfl
theorem uoR8b (q : Nat) (kind : Int) (a : Act) (w : World) (K : Exit → Act → World → Prop) (hs : Sz 50 a)
    (h1 : sl a 1 = .int .i64 5) (h7 : sl a 7 = .pointer (some ⟨q, 0, none⟩)) (hc : w.cell? ⟨q, 0, none⟩ = some (.int .i64 kind))
    (hK : ∀ a' w', Sz 50 a' → Kp [0, 1, 5, 6, 7, 12, 13, 14] a a' → sl a' 8 = .bool (kind == 7) → w' = w → K .normal a' w') :
    (regionOf Tryz.f23 8).wp Tryz.prog K a w := by
  unfold Kp at hK; rw [uoF_of hs]; clear hs; generalize sl a = u at *; clear a; have HK := Lib.hid hK; clear hK; conv => arg 2; whnf
  simp only [uoF, h1, h7]
  go_wp2_with fail
  exact HK.out _ _  ⟨rfl, rfl⟩ (Kc rfl (Kc h1.symm (Kc rfl (Kc rfl (Kc h7.symm (Kc rfl (Kc rfl (Kc rfl (Kn _ _))))))))) (rfl) rfl
theorem uoR9 (g q : Nat) (cs : Array Value) (Z : World → Prop) (a : Act) (w : World) (K : Exit → Act → World → Prop) (hs : Sz 50 a)
    (h5 : sl a 5 = .pointer (some ⟨g, 0, none⟩)) (h7 : sl a 7 = .pointer (some ⟨q, 0, none⟩)) (hB : Bk w q 114 cs) (hss : cs.size = 17) (hcall : Calls Tryz.prog 54 #[.pointer (some ⟨g, 0, none⟩), .agg cs] w fun e w' => e = .returned (.bool true) ∧ Z w')
    (hK : ∀ a' w', Sz 50 a' → Kp [0, 1, 5, 6, 7, 8, 12, 13, 14] a a' → sl a' 47 = .bool false → Z w' → K .normal a' w') :
    (regionOf Tryz.f23 9).wp Tryz.prog K a w := by
  unfold Kp at hK; rw [uoF_of hs]; clear hs; generalize sl a = u at *; clear a; have HK := Lib.hid hK; clear hK; conv => arg 2; whnf
  simp only [uoF, h5, h7]
  have hu := Tryz.underlying114
  have hi2 : (Tryz.prog.info? 114).map (·.size) = some cs.size := by rw [hss]; exact opInfo
  clear hss
  have Hcall := Lib.hid hcall
  clear hcall
  go_wp2_with (refine wpList_load_row rfl 114 (.tmp 7) rfl q rfl 114 cs (0, 0) _ hB hu rfl hi2 ?_)
  refine Hcall.out.mono ?_
  rintro e w1 ⟨rfl, hZ⟩
  go_wp2_with fail
  exact HK.out _ _  ⟨rfl, rfl⟩ (Kc rfl (Kc rfl (Kc h5.symm (Kc rfl (Kc h7.symm (Kc rfl (Kc rfl (Kc rfl (Kc rfl (Kn _ _)))))))))) (rfl) hZ
theorem uoR11 (i j : Nat) (a : Act) (w : World) (K : Exit → Act → World → Prop) (hs : Sz 50 a)
    (h14 : sl a 14 = .int .i64 (i : Int)) (q : IntKind.i64.wrap ((i : Int) + 1) = (j : Int))
    (hK : ∀ a' w', Sz 50 a' → Kp [0, 1, 5, 6, 7, 8, 12, 13] a a' → sl a' 14 = .int .i64 (j : Int) → w' = w → K .normal a' w') :
    (regionOf Tryz.f23 11).wp Tryz.prog K a w := by
  unfold Kp at hK; rw [uoF_of hs]; clear hs; generalize sl a = u at *; clear a; have HK := Lib.hid hK; clear hK; conv => arg 2; whnf
  simp only [uoF, h14]
  clear h14
  go_wp2_with fail
  exact HK.out _ _  ⟨rfl, rfl⟩ (Kc rfl (Kc rfl (Kc rfl (Kc rfl (Kc rfl (Kc rfl (Kc rfl (Kc rfl (Kn _ _))))))))) (rfl) rfl
theorem uoR12  (a : Act) (w : World) (K : Exit → Act → World → Prop) (hs : Sz 50 a)
     
    (hK : ∀ a' w', Sz 50 a' → Kp [0, 1, 5, 6, 7, 8, 12, 13, 14] a a' → sl a' 4 = .int .i64 (-1) → w' = w → K .normal a' w') :
    (regionOf Tryz.f23 12).wp Tryz.prog K a w := by
  unfold Kp at hK; rw [uoF_of hs]; clear hs; generalize sl a = u at *; clear a; have HK := Lib.hid hK; clear hK; conv => arg 2; whnf
  simp only [uoF]
  go_wp2_with fail
  exact HK.out _ _  ⟨rfl, rfl⟩ (Kc rfl (Kc rfl (Kc rfl (Kc rfl (Kc rfl (Kc rfl (Kc rfl (Kc rfl (Kc rfl (Kn _ _)))))))))) (rfl) rfl
end Go.Proofs.YtcbkaiakdhiloabGreatDoor
set_option maxRecDepth 20000
namespace Go.Proofs.YtcbkaiakdhiloabGreatDoor
open Go.RowKit Go.Proofs
attribute [local go_sem] bs_size bs_append bs_extract bs_toList
theorem upToFn (only : Int) (ho : only = 0 ∨ only = 1 ∨ only = 2 ∨ only = 3 ∨ only = 4 ∨ only = 5) (ops : List OpD) (A : Option Addr) (cap : Nat) (w : World) (hscr : SlR w noB 17 A ops.length (scrC ops)) (hG : Glb w) (ha : RowG w 4 #[.int .u8 255, .int .u8 255, .int .u8 255, .int .u8 255, .int .u8 255, .int .u8 255]) (hn : ops.length ≤ 65536)
    (Inv : Nat → List St → Prop) (h0 : Inv 0 [])
    (hends : ∀ (base g T : Nat) (l : List Pr) (A : Option Addr) (cap k : Nat) (o : OpD) (w : World), WldAt base w g T l A cap → ops[k]? = some o → Calls Tryz.prog 53 #[.pointer (some ⟨g, 0, none⟩), .agg (opC o), .int .i64 only] w fun e w' => e = .returned (.bool false) ∧ Fr noB w w')
    (hskip : ∀ (k : Nat) (o : OpD) (ss : List St), ops[k]? = some o → playedB o.kind only = false → Inv k ss → Inv (k + 1) ss)
    (hstep : ∀ (k : Nat) (o : OpD) (ss : List St), ops[k]? = some o → playedB o.kind only = true → Inv k ss → ∃ ss', Inv (k + 1) ss' ∧ ∀ (base g T : Nat) (l : List Pr) (A : Option Addr) (cap : Nat) (w : World), WldAt base w g T l A cap → l.map (·.s) = ss → Glb2 base w → Calls Tryz.prog 54 #[.pointer (some ⟨g, 0, none⟩), .agg (opC o)] w (StepTo base g T ss' w)) :
    Calls Tryz.prog 23 #[.slice A ops.length cap, .int .i64 only] w fun e w' => e = .returned (.int .i64 (-1)) ∧ Fr noB w w' := by
  have hgl := glb_lt hG
  have hlow : Low w.heap.size := ⟨hgl, ha.1⟩
  have frN : ∀ {w' : World}, Fr (fromB w.heap.size) w w' → Fr noB w w' := fun hF => (Fr.refl noB w).trans' hF fun b hb hx => by have h1 : w.heap.size ≤ b := hx; omega
  go_enter Tryz.func23, Tryz.ntmps23
  have fin : ∀ (a' : Act) (w' : World), Sz 50 a' → sl a' 4 = .int .i64 (-1) → Fr noB w w' → bodyPost Tryz.prog Tryz.f23 (fun e w' => e = .returned (.int .i64 (-1)) ∧ Fr noB w w') .ret a' w' := fun a' w' hs h4 hf => by
    refine bodyPost_ret (results_tmp rfl _ _ _) hs.defers ⟨?_, hf⟩
    rw [show a'.tmps.getD 4 undef = _ from h4]
  refine wp_seq ?_
  refine uoR0 _ w _ ⟨rfl, rfl⟩ ?_
  intro a0 w0 hs0 k0 hw; subst w0
  have e0 : sl a0 0 = .slice A ops.length cap := (k0 0 (by decide)).trans rfl
  have e1 : sl a0 1 = .int .i64 only := (k0 1 (by decide)).trans rfl
  clear k0
  refine wp_seq ?_
  refine uoR1 a0 w _ hs0 ?_
  intro a1 w1 g T hs1 k1 o5 hB1 _ hg1 f1
  have hW1 : WldAt w.heap.size w1 g T [] none 0 := ⟨hB1, ⟨rfl, .inl ⟨rfl, rfl⟩⟩, PairsAt.nil _ _ _, hg1, (fun i x hx => by simp at hx), (fun b hb => by cases hb), (fun b hb => by cases hb)⟩
  refine wp_seq (wp_seq ?_)
  refine uoR2 A ops.length cap a1 w1 _ hs1 ((k1 0 (by decide)).trans e0) ?_
  intro a2 w2 hs2 k2 o12 o13 o14 hw; subst w2
  have e1 := (k2 1 (by decide)).trans ((k1 1 (by decide)).trans e1)
  have e5 := (k2 5 (by decide)).trans o5
  refine wp_block ?_
  refine wp_loop_sz 50 (fun a' w' => ∃ (k : Nat) (l : List Pr) (A' : Option Addr) (c' : Nat), k ≤ ops.length ∧ sl a' 14 = .int .i64 (k : Int) ∧ Kp [1, 5, 12, 13] a2 a' ∧ WldAt w.heap.size w' g T l A' c' ∧ Inv k (l.map (·.s)) ∧ Fr (fromB w.heap.size) w w') (fun a' _ => ops.length - (intOf (sl a' 14)).toNat)
    hs2 ⟨0, [], none, 0, Nat.zero_le _, o14, Kp.refl _ _, hW1, h0, f1.of_no _⟩ ?_
  rintro b1 v1 hs1' ⟨k, l, A', c', hk, i14, j1, hW, hI, hF⟩
  have i1400 := i14
  refine wp_seq ?_
  refine uoR3 k ops.length b1 v1 _ hs1' ((j1 13 (by decide)).trans o13) i14 ?_
  intro b2 v2 hs2' j2 i15 hw; subst v2
  refine wp_seq ?_
  refine wp_if i15 (fun hb => ?_) (fun hb => ?_)
  rotate_left
  · refine wp_exit (then_exit (then_exit (inBlock_self ?_)))
    refine wp_seq ?_
    refine uoR12 b2 v1 _ hs2' ?_
    intro b3 v3 hs3' j3 o4 hw; subst v3
    exact wp_ret (fin b3 v1 hs3' o4 (frN hF))
  have hlt := of_decide_eq_true hb
  obtain ⟨op, hop⟩ : ∃ op, ops[k]? = some op := ⟨_, List.getElem?_eq_getElem hlt⟩
  obtain ⟨ad, hA, hc⟩ := scr_cells (hscr.keep (frN hF)) hop
  refine wp_skip ?_
  refine wp_seq (wp_block (wp_seq ?_))
  refine uoR4 ad ops.length cap k (opC op) b2 v1 _ hs2' (by rw [← hA]; exact (j2 12 (by decide)).trans ((j1 12 (by decide)).trans o12)) ((j2 14 (by decide)).trans i14) hlt hc (opC_size op) (opC_one op) ?_
  intro b3 v3 hs3' j3 o6 o7 f3 hB3
  have j13 : Kp [1, 5, 12, 13] a2 b3 := fun x hx => (j3 x (by revert hx; revert x; decide)).trans ((j2 x (by revert hx; revert x; decide)).trans (j1 x hx))
  have i14 := (j3 14 (by decide)).trans ((j2 14 (by decide)).trans i14)
  obtain ⟨q, hq⟩ : ∃ q, v1.heap.size = q := ⟨_, rfl⟩
  rw [hq] at o7 hB3
  have hW3 := hW.nop hlow f3
  have hF3 := hF.trans (f3.of_no _)
  have e1' := (j13 1 (by decide)).trans e1
  have e5' := (j13 5 (by decide)).trans e5
  -- the round's end
  have i140 := i14
  have next : ∀ (a' : Act) (w' : World) (l' : List Pr) (A2 : Option Addr) (c2 : Nat) (K : Exit → Act → World → Prop), Sz 50 a' → sl a' 14 = .int .i64 (k : Int) → Kp [1, 5, 12, 13] b3 a' → WldAt w.heap.size w' g T l' A2 c2 → Inv (k + 1) (l'.map (·.s)) → Fr (fromB w.heap.size) w w' →
      (∀ a5 w5, Sz 50 a5 → (∃ (k : Nat) (l : List Pr) (A' : Option Addr) (c' : Nat), k ≤ ops.length ∧ sl a5 14 = .int .i64 (k : Int) ∧ Kp [1, 5, 12, 13] a2 a5 ∧ WldAt w.heap.size w5 g T l A' c' ∧ Inv k (l.map (·.s)) ∧ Fr (fromB w.heap.size) w w5) → ops.length - (intOf (sl a5 14)).toNat < ops.length - k → K .normal a5 w5) → (regionOf Tryz.f23 11).wp Tryz.prog K a' w' := fun a' w' l' A2 c2 K hs h14 kk hw hi hf hK => by
    refine uoR11 k (k + 1) a' w' _ hs h14 ((IntWalk.i64_in _ (by omega)).trans (by omega)) ?_
    intro c1 u1 hs' m1 o14 hw'; subst u1
    refine hK c1 w' hs' ⟨k + 1, l', A2, c2, by omega, o14, fun x hx => (m1 x (by revert hx; revert x; decide)).trans ((kk x hx).trans (j13 x hx)), hw, hi, hf⟩ ?_
    rw [o14]; simp only [intOf]; omega
  have hmu : ops.length - (intOf (sl b1 14)).toNat = ops.length - k := by rw [i1400]; simp [intOf]
  refine wp_seq (wp_seq ?_)
  refine uoR5 q op.kind only (playedB op.kind only) b3 v3 _ hs3' e1' o7 (hB3.cell 0) ho rfl ?_
  intro b4 v4 hs4' j4 o23 hw; subst v4
  refine wp_if o23 (fun hb => ?_) (fun hb => ?_)
  · have hnp : playedB op.kind only = false := by simpa using hb
    refine wp_exit (then_exit (inBlock_self ?_))
    refine next b4 v3 l A' c' _ hs4' ((j4 14 (by decide)).trans i14) (fun x hx => j4 x (by revert hx; revert x; decide)) hW3 (hskip k op _ hop hnp hI) hF3 ?_
    intro a5 w5 h1 h2 h3
    exact ⟨h1, h2, by rw [hmu]; exact h3⟩
  have hpl : playedB op.kind only = true := by simpa using hb
  refine wp_skip ?_
  refine wp_seq (wp_seq ?_)
  refine uoR6 g q only (opC op) false (fun w' => Fr noB v3 w') b4 v3 _ hs4' ((j4 1 (by decide)).trans e1') ((j4 5 (by decide)).trans e5') ((j4 7 (by decide)).trans o7) hB3 (opC_size op) (hends _ g T l A' c' k op v3 hW3 hop) ?_
  intro b5 v5 hs5' j5 o27 f5
  refine wp_if o27 (fun hb => by cases hb) (fun _ => ?_)
  refine wp_skip ?_
  have hB5 := hB3.keep f5 (fun x => x)
  have hW5 := hW3.nop hlow f5
  have j35 : Kp [1, 5, 7, 12, 13, 14] b3 b5 := fun x hx => (j5 x (by revert hx; revert x; decide)).trans (j4 x (by revert hx; revert x; decide))
  refine wp_seq ?_
  have key : ∀ K : Exit → Act → World → Prop, (∀ a', Sz 50 a' → Kp [1, 5, 7, 12, 13, 14] b5 a' → K .normal a' v5) → (regionOf Tryz.f23 8).wp Tryz.prog K b5 v5 := fun K hK => by
    by_cases q5 : only = 5
    · refine uoR8b q op.kind b5 v5 K hs5' (by rw [← q5]; exact (j35 1 (by decide)).trans e1') ((j35 7 (by decide)).trans o7) (hB5.cell 0) ?_
      intro a' w' hs' k' o8 hw; subst w'
      exact hK a' hs' (fun i hi => k' i (by revert hi; revert i; decide))
    · refine uoR8a q only b5 v5 K hs5' ((j35 1 (by decide)).trans e1') ((j35 7 (by decide)).trans o7) (by rw [bne_iff_ne]; exact q5) ?_
      intro a' w' hs' k' o8 hw; subst w'
      exact hK a' hs' (fun i hi => k' i (by revert hi; revert i; decide))
  refine key _ ?_
  intro b6 hs6' j6
  have j36 : Kp [1, 5, 7, 12, 13, 14] b3 b6 := fun x hx => (j6 x hx).trans (j35 x hx)
  obtain ⟨ss', hI', hcall⟩ := hstep k op _ hop hpl hI
  have hF5 := hF3.trans (f5.of_no _)
  have hG5 : Glb2 w.heap.size v5 := (Glb2.mk hG ha hlow (Nat.le_refl _)).keep hF5
  refine wp_seq ?_
  refine uoR9 g q (opC op) (fun w' => ∃ l' A' cap', WldAt w.heap.size w' g T l' A' cap' ∧ l'.map (·.s) = ss' ∧ Fr (fromB w.heap.size) v5 w') b6 v5 _ hs6' ((j36 5 (by decide)).trans e5') ((j36 7 (by decide)).trans o7) hB5 (opC_size op) (hcall _ g T l A' c' v5 hW5 rfl hG5) ?_
  intro b7 v7 hs7' j7 o47 hZ
  obtain ⟨l', A2, c2, hW7, hss, hF7⟩ := hZ
  refine wp_if o47 (fun hb => by cases hb) (fun _ => ?_)
  refine wp_skip ?_
  refine next b7 v7 l' A2 c2 _ hs7' ((j7 14 (by decide)).trans ((j36 14 (by decide)).trans i14)) (fun x hx => (j7 x (by revert hx; revert x; decide)).trans (j36 x (by revert hx; revert x; decide))) hW7 (by rw [hss]; exact hI') (hF5.trans hF7) ?_
  intro a5 w5 h1 h2 h3
  exact ⟨h1, h2, by rw [hmu]; exact h3⟩
def enF (u : Nat → Value) : Act := ⟨#[u 0, u 1, u 2, u 3, u 4, u 5, u 6, u 7, u 8, u 9, u 10, u 11, u 12, u 13, u 14, u 15, u 16, u 17, u 18, u 19, u 20, u 21, u 22, u 23, u 24, u 25, u 26, u 27, u 28, u 29, u 30, u 31, u 32, u 33, u 34, u 35, u 36, u 37, u 38, u 39, u 40, u 41, u 42, u 43, u 44, u 45, u 46, u 47, u 48, u 49, u 50, u 51, u 52, u 53, u 54, u 55, u 56, u 57, u 58, u 59, u 60, u 61, u 62, u 63, u 64, u 65, u 66, u 67, u 68, u 69, u 70, u 71, u 72, u 73, u 74, u 75, u 76, u 77, u 78, u 79, u 80, u 81, u 82, u 83, u 84, u 85, u 86, u 87, u 88, u 89, u 90, u 91, u 92, u 93, u 94, u 95, u 96, u 97, u 98, u 99, u 100, u 101, u 102, u 103, u 104, u 105, u 106, u 107, u 108, u 109, u 110, u 111, u 112, u 113], []⟩
set_option maxRecDepth 100000 in
theorem enF_eq (u : Nat → Value) : enF u = frN 114 u := rfl
theorem enF_of {a : Act} (h : Sz 114 a) : a = enF (sl a) := h.eq.trans (enF_eq _).symm
theorem enR0 (cs : Array Value) (a : Act) (w : World) (K : Exit → Act → World → Prop) (hs : Sz 114 a)
    (h1 : sl a 1 = .agg cs) 
    (hK : ∀ a' w', Sz 114 a' → Kp [0, 2] a a' → sl a' 4 = .pointer (some ⟨w.heap.size, 0, none⟩) → Fr noB w w' → K .normal a' w') :
    (regionOf Tryz.f53 0).wp Tryz.prog K a w := by
  unfold Kp at hK; rw [enF_of hs]; clear hs; generalize sl a = u at *; clear a; have HK := Lib.hid hK; clear hK; conv => arg 2; whnf
  simp only [enF, h1]
  go_wp2_with fail
  exact HK.out _ _  ⟨rfl, rfl⟩ (Kc rfl (Kc rfl (Kn _ _))) (rfl) ((Fr.refl _ _).alloc _)
theorem enR1a (g n cap : Nat) (A : Option Addr) (a : Act) (w : World) (K : Exit → Act → World → Prop) (hs : Sz 114 a)
    (h0 : sl a 0 = .pointer (some ⟨g, 0, none⟩)) (hc : w.cell? ⟨g, 1, none⟩ = some (.slice A n cap)) (hn : ((n : Int) == 0) = true)
    (hK : ∀ a' w', Sz 114 a' → Kp [0, 2, 4, 6] a a' → sl a' 21 = .bool true → w' = w → K .normal a' w') :
    (regionOf Tryz.f53 1).wp Tryz.prog K a w := by
  unfold Kp at hK; rw [enF_of hs]; clear hs; generalize sl a = u at *; clear a; have HK := Lib.hid hK; clear hK; conv => arg 2; whnf
  simp only [enF, h0]
  go_wp2_with fail
  exact HK.out _ _  ⟨rfl, rfl⟩ (Kc h0.symm (Kc rfl (Kc rfl (Kc rfl (Kn _ _))))) (rfl) rfl
theorem enR1b (g n cap : Nat) (A : Option Addr) (only : Int) (a : Act) (w : World) (K : Exit → Act → World → Prop) (hs : Sz 114 a)
    (h0 : sl a 0 = .pointer (some ⟨g, 0, none⟩)) (h2 : sl a 2 = .int .i64 only) (hc : w.cell? ⟨g, 1, none⟩ = some (.slice A n cap)) (hn : ((n : Int) == 0) = false) (h3 : (only != 3) = true) (h4 : (only != 4) = true)
    (hK : ∀ a' w', Sz 114 a' → Kp [0, 2, 4, 6] a a' → sl a' 21 = .bool true → w' = w → K .normal a' w') :
    (regionOf Tryz.f53 1).wp Tryz.prog K a w := by
  unfold Kp at hK; rw [enF_of hs]; clear hs; generalize sl a = u at *; clear a; have HK := Lib.hid hK; clear hK; conv => arg 2; whnf
  simp only [enF, h0, h2]
  go_wp2_with fail
  exact HK.out _ _  ⟨rfl, rfl⟩ (Kc h0.symm (Kc h2.symm (Kc rfl (Kc rfl (Kn _ _))))) (rfl) rfl
theorem enR2  (a : Act) (w : World) (K : Exit → Act → World → Prop) (hs : Sz 114 a)
     
    (hK : ∀ a' w', Sz 114 a' → Kp [0, 2, 4] a a' → sl a' 6 = .bool false → w' = w → K .normal a' w') :
    (regionOf Tryz.f53 2).wp Tryz.prog K a w := by
  unfold Kp at hK; rw [enF_of hs]; clear hs; generalize sl a = u at *; clear a; have HK := Lib.hid hK; clear hK; conv => arg 2; whnf
  simp only [enF]
  go_wp2_with fail
  exact HK.out _ _  ⟨rfl, rfl⟩ (Kc rfl (Kc rfl (Kc rfl (Kn _ _)))) (rfl) rfl
theorem endsNo (base g T : Nat) (l : List Pr) (A : Option Addr) (cap : Nat) (only : Int) (cs : Array Value) (w : World) (h : WldAt base w g T l A cap) (h3 : only ≠ 3) (h4 : only ≠ 4) :
    Calls Tryz.prog 53 #[.pointer (some ⟨g, 0, none⟩), .agg cs, .int .i64 only] w fun e w' => e = .returned (.bool false) ∧ Fr noB w w' := by
  go_enter Tryz.func53, Tryz.ntmps53
  refine wp_seq ?_
  refine enR0 cs _ w _ ⟨rfl, rfl⟩ rfl ?_
  intro a0 w0 hs0 k0 o4 f0
  have hc := (h.bk.keep f0 (fun x => x)).cell 1
  have e0 : sl a0 0 = .pointer (some ⟨g, 0, none⟩) := (k0 0 (by decide)).trans rfl
  have e2 : sl a0 2 = .int .i64 only := (k0 2 (by decide)).trans rfl
  refine wp_seq (wp_seq ?_)
  have key : ∀ K : Exit → Act → World → Prop, (∀ a', Sz 114 a' → sl a' 21 = .bool true → K .normal a' w0) → (regionOf Tryz.f53 1).wp Tryz.prog K a0 w0 := fun K hK => by
    by_cases hz : l.length = 0
    · refine enR1a g _ cap A a0 w0 K hs0 e0 hc (by rw [hz]; rfl) ?_
      intro a' w' hs' k' o hw; subst w'; exact hK a' hs' o
    · refine enR1b g _ cap A only a0 w0 K hs0 e0 e2 hc (by rw [beq_eq_false_iff_ne]; omega) (by rw [bne_iff_ne]; exact h3) (by rw [bne_iff_ne]; exact h4) ?_
      intro a' w' hs' k' o hw; subst w'; exact hK a' hs' o
  refine key _ ?_
  intro a1 hs1 o21
  refine wp_if o21 (fun _ => ?_) (fun hb => by cases hb)
  refine wp_seq ?_
  refine enR2 a1 w0 _ hs1 ?_
  intro a2 w2 hs2 k2 o6 hw; subst w2
  have hp : bodyPost Tryz.prog Tryz.f53 (fun e w' => e = .returned (.bool false) ∧ Fr noB w w') .ret a2 w0 := by
    refine bodyPost_ret (results_tmp rfl _ _ _) hs2.defers ⟨?_, f0⟩
    rw [show a2.tmps.getD 6 undef = .bool false from o6]
  exact wp_ret hp
end Go.Proofs.YtcbkaiakdhiloabGreatDoor
