/- The walks of the reference's roots of primes and its tables. -/
import Derived.Test.YtcbkaiakdhiloaaDoorRefN
set_option linter.unusedSimpArgs false
set_option linter.unusedVariables false
namespace Go.Proofs.YtcbkaiakdhiloaaDoor
open Go.RowKit Go.Proofs

theorem alloc_sz (w : World) (o : Obj) : (w.alloc o).heap.size = w.heap.size + 1 := Array.size_push _
theorem slice_int_info : Tryd.prog.underlying 30 = some (.slice 3) := Tryd.underlying30
/-- a row of whole numbers that is the call's own from block base on -/
def OI (w : World) (base : Nat) (v : Value) (l : List Nat) : Prop := w.ownsRow base 3 1 v l.length (ints l)
theorem OI.nil (w : World) (base : Nat) : OI w base (.slice none 0 0) [] := World.ownsRow_nil w base _ _
theorem OI.form {w : World} {base : Nat} {v : Value} {l : List Nat} (h : OI w base v l) (hl : 0 < l.length) : ∃ g cap, v = .slice (some ⟨g, 0, none⟩) l.length cap ∧ RI w g l ∧ base ≤ g := by
  rcases h.2 with ⟨_, hn⟩ | ⟨g, cap, cur, rfl, hb, hg, hnc, _, hcs, htk⟩
  · omega
  · refine ⟨g, cap, rfl, ⟨Bk.lt (t := 3) (cs := cur) hg, fun k x hx => ?_⟩, hb⟩
    have hkl : k < l.length := by
      rcases Nat.lt_or_ge k l.length with h | h
      · exact h
      · rw [List.getElem?_eq_none h] at hx; cases hx
    rw [Bk.cell (t := 3) (cs := cur) hg k]
    have h1 : (cur.toList.take (l.length * 1))[k]? = some (.int .i64 (x : Int)) := by rw [htk]; exact ints_get l k x hx
    rw [List.getElem?_take, if_pos (by omega)] at h1
    simpa using h1
theorem ints_append (a b : List Nat) : ints (a ++ b) = ints a ++ ints b := by simp [ints]
theorem ints_one (l : List Nat) : ∀ u ∈ ints l, u.oneCell' = true := by
  intro u hu; simp only [ints, List.mem_map] at hu; obtain ⟨b, _, rfl⟩ := hu; rfl
/-- one number more -/
theorem run_app_int' (w : World) (base x g : Nat) (v : Value) (l : List Nat) (h : OI w base v l) (hg : IB w g [x]) (hb : base ≤ w.heap.size) (hl : l.length < 1000000) :
    ∃ v' w', (Builtin.append_ #[30, 30] 30 #[v, .slice (some ⟨g, 0, none⟩) 1 1]).run Tryd.prog w = .ok v' w' ∧
      OI w' base v' (l ++ [x]) ∧ w.grownBy w' v.ownBlock ∧ (v'.ownBlock = v.ownBlock ∨ v'.ownBlock = some w.heap.size) := by
  obtain ⟨i, hi, hz, hs, hbb⟩ := info_parts int_info
  obtain ⟨v', w', h1, h2, h3, h4⟩ := run_app (P := Tryd.prog) w base 30 30 3 i _ 1 8 Tryd.underlying30 hi hz hs hbb rfl (by omega) v l.length (ints l) h
    noB (some ⟨g, 0, none⟩) 1 1 (ints [x]) (SlR.of_bk hg (fun h => h) rfl) (ints_one _) (by simp only [maxLen]; omega) (by omega) hb
  refine ⟨v', w', h1, ?_, h3, h4⟩
  unfold OI; rw [List.length_append, List.length_singleton, ints_append]; exact h2
theorem run_app_int (w : World) (base x : Nat) (v : Value) (l : List Nat) (h : OI w base v l) (hb : base ≤ w.heap.size) (hl : l.length < 1000000) :
    ∃ v' w', (Builtin.append_ #[30, 30] 30 #[v, .slice (some ⟨w.heap.size, 0, none⟩) 1 1]).run Tryd.prog (w.alloc (.cells #[.int .i64 (x : Int)] 3)) = .ok v' w' ∧
      OI w' base v' (l ++ [x]) ∧ Fr (fun q => v.ownBlock = some q) w w' := by
  obtain ⟨v', w', h1, h2, h3, h4⟩ := run_app_int' (w.alloc (.cells #[.int .i64 (x : Int)] 3)) base x w.heap.size v l (World.ownsRow.alloc h _) (Bk.new w _ _) (by rw [alloc_sz]; omega) hl
  exact ⟨v', w', h1, h2, ((Fr.refl (fun q => v.ownBlock = some q) w).alloc _).grown h3 fun g hg _ => hg⟩
theorem OI.quiet {w w' : World} {base : Nat} {v : Value} {l : List Nat} (h : OI w base v l) (hf : Fr noB w w') : OI w' base v l :=
  World.ownsRow.kept h (row := none) ⟨hf.os, hf.tape, hf.output, hf.size, fun k hk _ => hf.block k hk id⟩ (by cases v.ownBlock <;> simp)
theorem run_make_ints2 (w : World) (n c : Nat) (hnc : n ≤ c) (hc : c ≤ 1000000) :
    ∃ w', (Instr.makeSlice 30 (.int .i64 (n : Int)) (.int .i64 (c : Int))).run Tryd.prog w = .ok (.slice (some ⟨w.heap.size, 0, none⟩) n c) w' ∧ OI w' w.heap.size (.slice (some ⟨w.heap.size, 0, none⟩) n c) (List.replicate n 0) ∧ Fr noB w w' ∧ w'.heap.size = w.heap.size + 1 := by
  obtain ⟨i, hi, hz, hs, hb⟩ := info_parts int_info
  have h := run_make (P := Tryd.prog) (w := w) 30 3 i _ Tryd.underlying30 hi hz .i64 .i64 (n : Int) (c : Int) (by omega) (by omega) (by rw [hb]; omega) (by omega)
  rw [Int.toNat_natCast, Int.toNat_natCast, hs, Nat.mul_one] at h
  have hm : (madeCells (Value.int IntKind.i64 0).cells c).toList = List.replicate c (.int .i64 0) := by
    rw [show (Value.int IntKind.i64 0).cells = #[Value.int IntKind.i64 0] from rfl, toList_madeCells_one]
  have hsz : (madeCells (Value.int IntKind.i64 0).cells c).size = c := by rw [← Array.length_toList, hm, List.length_replicate]
  refine ⟨_, h, ⟨by simp [ints], .inr ⟨w.heap.size, c, _, by rw [List.length_replicate], Nat.le_refl _, heap_alloc_new w _, by rw [List.length_replicate]; exact hnc, by simp only [maxLen]; omega, by rw [hsz, Nat.mul_one], ?_⟩⟩, (Fr.refl _ _).alloc _, alloc_sz _ _⟩
  rw [hm, List.length_replicate, Nat.mul_one, List.take_replicate, Nat.min_eq_left hnc]; simp [ints]
/-- an append whose run is known -/
theorem wp_append_run {P : Program} {w : World} {o : Oper} {a : Act} {K : Act → World → Prop} {Q : Exit → Act → World → Prop} (s x : Operand) (t u : TypeId)
    (ho : o.op = .call { callee := .builtin .append, args := #[s, x], argTypes := #[t, u] }) {v y v' : Value} {w' : World}
    (hrun : (Builtin.append_ #[t, u] o.type #[v, y]).run P w = .ok v' w') (hs : a.eval s = v) (hx : a.eval x = y) (h : K (a.put o.dst v') w') : o.wp P a w K Q := by
  unfold Oper.wp execOp
  simp only [ho, resolve, invoke, builtin, Sem.run_bind, Sem.run_pure, Result.andThen_ok, List.map_toArray, List.map_cons, List.map_nil, hs, hx, hrun]
  exact h
theorem wpList_append_run {P : Program} {w : World} {ops : Array Oper} {rest : List Oper} {o : Oper} {a : Act} {Q : Exit → Act → World → Prop} (hgd : o.guard = none) (s x : Operand) (t u : TypeId)
    (ho : o.op = .call { callee := .builtin .append, args := #[s, x], argTypes := #[t, u] }) {v y v' : Value} {w' : World}
    (hrun : (Builtin.append_ #[t, u] o.type #[v, y]).run P w = .ok v' w') (hs : a.eval s = v) (hx : a.eval x = y) (h : wpList P ops Q rest (a.put o.dst v') w') : wpList P ops Q (o :: rest) a w :=
  wpList_plain hgd fun K hK => wp_append_run s x t u ho hrun hs hx (hK _ _ h)
theorem step_append_run {P : Program} {w : World} {ops : Array Oper} {o : Oper} {a : Act} {K : Act → World → Prop} {Q : Exit → Act → World → Prop} {E : Prop} (hgd : o.guard = none) (s x : Operand) (t u : TypeId)
    (ho : o.op = .call { callee := .builtin .append, args := #[s, x], argTypes := #[t, u] }) {v y v' : Value} {w' : World}
    (hrun : (Builtin.append_ #[t, u] o.type #[v, y]).run P w = .ok v' w') (hs : a.eval s = v) (hx : a.eval x = y) (h : K (a.put o.dst v') w') :
    if Region.wanted o (yielded ops a.tmps) = true then Oper.wp P o a w K Q else E := by
  have hw : Region.wanted o (yielded ops a.tmps) = true := by simp [Region.wanted, hgd]
  rw [if_pos hw]
  exact wp_append_run s x t u ho hrun hs hx h

set_option maxRecDepth 20000 in
set_option maxHeartbeats 1000000 in
theorem refRoot (p pw : Nat) (hp : p < 65536) (hpw : 2 ≤ pw ∧ pw ≤ 3) (w : World) :
    Calls Tryd.prog 9 #[.int .i64 (p : Int), .int .i64 (pw : Int)] w (fun e w' => e = .returned (.int .i64 (rootN p pw : Int)) ∧ Fr noB w w') := by
  obtain ⟨hp1, hp2⟩ := hpw
  obtain ⟨n, hn⟩ : ∃ n, n = 2 * pw := ⟨_, rfl⟩
  obtain ⟨c, hc⟩ : ∃ c, c = 2 * pw + 1 := ⟨_, rfl⟩
  obtain ⟨w1, hmk, hO, hF, hsz⟩ := run_make_ints2 w n c (by omega) (by omega)
  have hO2 : OI w1 w.heap.size (.slice (some ⟨w.heap.size, 0, none⟩) n c) (List.replicate n 0) := hO
  obtain ⟨v', w2, hap, hA, hF2⟩ := run_app_int w1 w.heap.size p _ _ hO2 (by omega) (by rw [List.length_replicate]; omega)
  obtain ⟨t, cap, rfl, hR, hbt⟩ := hA.form (by simp)
  have hfr : Fr noB w w2 := hF.trans' hF2 fun b hb he => absurd he (by simp only [Value.ownBlock]; intro h; injection h with h; omega)
  have hlen : (List.replicate n 0 ++ [p]).length = c := by simp; omega
  have hdig : dig (List.replicate n 0 ++ [p]) := by
    intro d hd; rw [List.mem_append] at hd
    rcases hd with h | h
    · have := (List.mem_replicate.1 h).2; omega
    · simp at h; omega
  have hval : val (List.replicate n 0 ++ [p]) = p * 2 ^ (32 * pw) := by
    rw [val_append, val_zeros, List.length_replicate, Nat.zero_add, show (65536 : Nat) = 2 ^ 16 from rfl, ← Nat.pow_mul, show 16 * n = 32 * pw by omega, Nat.mul_comm]; simp [val]
  rw [hlen] at hap
  generalize List.replicate n 0 ++ [p] = tgt at *
  clear hA hF2 hO hO2 hF
  generalize w.heap.size = B at *
  have hn1 : (2 : Int) * (pw : Int) = (n : Int) := by omega
  have hc1 : (n : Int) + 1 = (c : Int) := by omega
  have Hn := Lib.hid hn
  have Hc := Lib.hid hc
  have Hl := Lib.hid hlen
  have Hv := Lib.hid hval
  have Hs := Lib.hid hsz
  clear hn hc hlen hval hsz
  go_enter Tryd.func9, Tryd.ntmps9
  go_wp2_with (at_builtin
               go_must (refine wpList_append_run rfl (.tmp 18) (.tmp 20) _ _ rfl hap rfl rfl ?_))
  have htl := hR.lt
  go_loopw [6, 7] (fun rv bv wr => ∃ (k r b : Nat), k ≤ 37 ∧ r = rootK p pw k ∧ b = 2 ^ (37 - k) / 2 ∧ rv = .int .i64 r ∧ bv = .int .i64 b ∧ Fr noB w2 wr) (fun _ bv _ => (intOf bv).toNat)
  case atStart => exact ⟨0, 0, 68719476736, by omega, rfl, rfl, rfl, rfl, Fr.refl _ _⟩
  case round =>
    obtain ⟨k, r, b, hk, hr, hb, rfl, rfl, hfw⟩ := hrel
    obtain ⟨wo, rfl⟩ : ∃ wo, wo = wr := ⟨_, rfl⟩
    have hrl := rootK_lt p pw k hk
    rw [← hr] at hrl
    by_cases hlt : k < 37
    · have hb2 : b = 2 ^ (36 - k) := by rw [hb, show 37 - k = (36 - k) + 1 by omega, Nat.pow_succ]; omega
      have hpp : (2 : Nat) ^ (37 - k) = b + b := by rw [hb2, show 37 - k = (36 - k) + 1 by omega, Nat.pow_succ]; omega
      have hb0 : 0 < b := by rw [hb2]; exact Nat.pow_pos (by omega)
      have hnb : b / 2 = 2 ^ (37 - (k + 1)) / 2 := by rw [hb2, show 37 - (k + 1) = 36 - k by omega]
      have hstep : rootK p pw (k + 1) = if (r + b) ^ pw ≤ p * 2 ^ (32 * pw) then r + b else r := by rw [rootK, rootStep, ← hr, ← hb2]
      rw [hpp] at hrl
      obtain ⟨x, hx⟩ : ∃ x, x = r + b := ⟨_, rfl⟩
      rw [← hx] at hstep
      have hxl : x < 137438953472 := by omega
      obtain ⟨d0, hd0⟩ : ∃ d0, d0 = x % 65536 := ⟨_, rfl⟩
      obtain ⟨d1, hd1⟩ : ∃ d1, d1 = x / 65536 % 65536 := ⟨_, rfl⟩
      obtain ⟨d2, hd2⟩ : ∃ d2, d2 = x / 65536 / 65536 := ⟨_, rfl⟩
      obtain ⟨hh, hhe⟩ : ∃ hh, hh = b / 2 := ⟨_, rfl⟩
      have e0 : (r : Int) + (b : Int) = (x : Int) := by omega
      have e1 : (x : Int) % 65536 = (d0 : Int) := by omega
      have e2 : (x : Int) / 65536 % 65536 = (d1 : Int) := by omega
      have e3 : (x : Int) / 65536 / 65536 = (d2 : Int) := by omega
      have e4 : (b : Int) / 2 = (hh : Int) := by omega
      have hvD : val [d0, d1, d2] = x := by simp only [val]; omega
      have hdD : dig [d0, d1, d2] := by
        intro d hd; simp only [List.mem_cons, List.not_mem_nil, or_false] at hd; omega
      have hID : IB (wo.alloc (.cells #[.int .i64 (d0 : Int), .int .i64 (d1 : Int), .int .i64 (d2 : Int)] 3)) wo.heap.size [d0, d1, d2] := Bk.new wo _ _
      have hRD := hID.ri
      have hfD : Fr noB w2 (wo.alloc (.cells #[.int .i64 (d0 : Int), .int .i64 (d1 : Int), .int .i64 (d2 : Int)] 3)) := hfw.alloc _
      have hhb : hh < b := by omega
      have hbl : b < 137438953472 := by omega
      rw [← hhe] at hnb
      have Hx := Lib.hid hx
      have Hnb := Lib.hid hnb
      have Hst := Lib.hid hstep
      have HvD := Lib.hid hvD
      clear hr hb hb2 hpp hx hd0 hd1 hd2 hhe hID hnb hstep hvD hrl
      go_wp2_with fail
      rw [e1, e2, e3]
      go_loopw [10, 11] (fun nv kv wq => ∃ (j gn cn l3 : Nat) (cur : List Nat), 1 ≤ j ∧ j ≤ pw ∧ l3 = 3 * j ∧ kv = .int .i64 j ∧ nv = .slice (some ⟨gn, 0, none⟩) l3 cn ∧ cur.length = l3 ∧ dig cur ∧ val cur = x ^ j ∧ RI wq gn cur ∧ RI wq wo.heap.size [d0, d1, d2] ∧ Fr noB w2 wq) (fun _ kv _ => pw - (intOf kv).toNat)
      case atStart => exact ⟨1, wo.heap.size, 3, 3, [d0, d1, d2], by omega, by omega, rfl, rfl, rfl, rfl, hdD, by rw [HvD.out, Nat.pow_one], hRD, hRD, hfD⟩
      case round =>
        obtain ⟨j, gn, cn, l3, cur, hj1, hj2, hl3, rfl, rfl, hcl, hcd, hcv, hRc, hRd, hfq⟩ := hrel
        have Hl3 := Lib.hid hl3
        have hl9 : l3 ≤ 9 := by omega
        clear hl3
        by_cases hjl : j < pw
        · go_wp2_with fail
          refine (refTimes cur [d0, d1, d2] gn wo.heap.size l3 3 (l3 + 3) cn 3 wr hRc hRd hcl rfl rfl (by omega) (by omega) hcd hdD).mono ?_
          rintro e w3 ⟨g, q, rfl, hI, hql, hqd, hqv, hf3, hge⟩
          have hq2 : val q = x ^ (j + 1) := by rw [hqv, hcv, HvD.out, Nat.pow_succ]
          have hRq := hI.ri
          have hRd3 : RI w3 wo.heap.size [d0, d1, d2] := hRd.keep hf3 id
          have hfq3 : Fr noB w2 w3 := hfq.trans hf3
          have Hq2 := Lib.hid hq2
          have Hql := Lib.hid hql
          clear hq2 hql hqv hI
          go_wp2_with fail
          exact ⟨⟨j + 1, g, l3 + 3, l3 + 3, q, by omega, by omega, by have := Hl3.out; omega, by rw [Int.natCast_add]; rfl, rfl, Hql.out, hqd, Hq2.out, hRq, hRd3, hfq3⟩, by simp only [intOf]; omega⟩
        · obtain rfl : j = pw := by omega
          have hRt : RI wr t tgt := hR.keep hfq id
          go_wp2_with fail
          refine (refAbove cur tgt gn t l3 c cn cap wr hRc hRt hcl Hl.out (by omega) (by have := Hl3.out; have := Hc.out; omega) (by have := Hl3.out; omega) hcd hdig).mono ?_
          rintro e w3 ⟨rfl, hf3⟩
          have hfq3 : Fr noB w2 w3 := hfq.trans hf3
          have hdec : decide (val tgt < val cur) = !decide (x ^ j ≤ p * 2 ^ (32 * j)) := by
            rw [Hv.out, hcv]; generalize p * 2 ^ (32 * j) = G; generalize x ^ j = X
            by_cases h : X ≤ G
            · rw [decide_eq_true h, decide_eq_false (by omega)]; rfl
            · rw [decide_eq_false h, decide_eq_true (by omega)]; rfl
          rw [hdec]
          by_cases hle : x ^ j ≤ p * 2 ^ (32 * j)
          · have h1 : x = rootK p j (k + 1) := by rw [Hst.out, if_pos hle]
            have H1 := Lib.hid h1
            have h2 : (!decide (x ^ j ≤ p * 2 ^ (32 * j))) = false := by simp [hle]
            rw [h2]
            clear h1 h2 hle hdec hcv
            go_wp2_with fail
            exact ⟨⟨k + 1, x, hh, by omega, H1.out, Hnb.out, rfl, rfl, hfq3⟩, by simp only [intOf]; omega⟩
          · have h1 : r = rootK p j (k + 1) := by rw [Hst.out, if_neg hle]
            have H1 := Lib.hid h1
            have h2 : (!decide (x ^ j ≤ p * 2 ^ (32 * j))) = true := by simp [hle]
            rw [h2]
            clear h1 h2 hle hdec hcv
            go_wp2_with fail
            exact ⟨⟨k + 1, r, hh, by omega, H1.out, Hnb.out, rfl, rfl, hfq3⟩, by simp only [intOf]; omega⟩
    · obtain rfl : k = 37 := by omega
      have hb0 : b = 0 := by rw [hb]
      subst hb0
      have hfin : ((r : Int) % 4294967296) = (rootN p pw : Int) := by rw [rootN, ← hr]; omega
      have hrl2 : r < 137438953472 := by have := hrl; omega
      clear hrl hr hb
      have hff : Fr noB w wo := hfr.trans hfw
      go_wp2_with fail
      go_ret
      exact ⟨congrArg (fun v => Ending.returned (.int .i64 v)) hfin, hff⟩
end Go.Proofs.YtcbkaiakdhiloaaDoor
