/- Parts of the walk; written by programs, merged. -/
import Derived.Test.YtcbkaiakdhiloacGreatDoorMak
set_option linter.unusedSimpArgs false
set_option linter.unusedVariables false
set_option maxRecDepth 20000
set_option maxHeartbeats 8000000
namespace Go.Proofs.YtcbkaiakdhiloacGreatDoor
open Go.RowKit Go.Proofs
attribute [local go_sem] bs_size bs_append bs_extract bs_toList
theorem glb_lt {w : World} (h : Glb w) : ∀ b, glB b → b < w.heap.size := by
  rintro b (rfl | rfl | rfl | rfl | rfl | rfl)
  · exact h.all.1
  · exact h.rounds.1
  · exact h.begin.1
  · exact h.tabs.lt.1
  · exact h.tabs.lt.2
  · exact tab_lt h.pow gPow
def LPost2 (L : Lay) (s : St) (r : Value) (w : World) (e : Ending) (w' : World) : Prop := e = .returned r ∧ ∃ L' : Lay, L'.p = L.p ∧ (∀ b, own' L' b → own' L b ∨ w.heap.size ≤ b) ∧ BootAt w' L' s ∧ Fr (own' L) w w'
theorem LPost.two {L : Lay} {s : St} {r : Value} {w w' : World} {e : Ending} (h : LPost L s r w e w') : LPost2 L s r w e w' := ⟨h.1, L, rfl, fun b hb => .inl hb, h.2⟩
theorem LPost2.comp {L L1 : Lay} {s : St} {r : Value} {w w1 w' : World} {e : Ending} (hp : L1.p = L.p) (ho : ∀ b, own' L1 b → own' L b ∨ w.heap.size ≤ b) (hf : Fr (own' L) w w1) (h : LPost2 L1 s r w1 e w') : LPost2 L s r w e w' := by
  obtain ⟨h1, L', h2, h3, h4, h5⟩ := h
  refine ⟨h1, L', h2.trans hp, fun b hb => ?_, h4, hf.trans' h5 fun b hb hx => ?_⟩
  · rcases h3 b hb with h | h
    · exact ho b h
    · exact .inr (Nat.le_trans hf.size h)
  · rcases ho b hx with h | h
    · exact h
    · omega
theorem drop_ok {s : St} (h : s.Ok) : s.drop.Ok where
  rx0 := h.rx0
  rx1 := h.rx1
  tx0 := h.tx0
  tx1 := h.tx1
  draw := h.draw
  xid := by simp [St.drop]
  addr := by simp [St.drop]
  mask := by simp [St.drop]
  router := by simp [St.drop]
  server := by simp [St.drop]
  source := by simp [St.drop]
  lsends := by simp [St.drop]
  tsends := by simp [St.drop]
  port := by simp [St.drop]
  peer := by simp [St.drop]
  goal := by simp [St.drop]
  last := by simp [St.drop]
  name := h.name
  cap := h.cap
  block := h.block
  window := h.window
  blk := by simp [St.drop]
  wind := by simp [St.drop]
  next := by simp [St.drop]
  image := by simp [St.drop]
  waits := by simp [St.drop]
  cache := by simp [St.drop]
  now0 := h.now0
  now1 := h.now1
  dues := by simp [St.drop]
theorem bootDropL (L : Lay) (s : St) (w : World) (h : BootAt w L s) :
    Calls Tryz.prog 79 #[.pointer (some ⟨L.p, 0, none⟩)] w (LPost2 L s.drop (.tuple #[]) w) := by
  obtain ⟨w1, hw1⟩ : ∃ w1, ((((((((((((((((((((((((w.setCell ⟨L.p, 21, none⟩ (.int .i64 0)).setCell ⟨L.p, 22, none⟩ (.int .u32 0)).setCell ⟨L.p, 23, none⟩ (.int .u32 0)).setCell ⟨L.p, 24, none⟩ (.int .u32 0)).setCell ⟨L.p, 25, none⟩ (.int .u32 0)).setCell ⟨L.p, 26, none⟩ (.int .u32 0)).setCell ⟨L.p, 27, none⟩ (.int .u32 0)).setCell ⟨L.p, 28, none⟩ (.int .i64 0)).setCell ⟨L.p, 29, none⟩ (.int .i64 0)).setCell ⟨L.p, 30, none⟩ (.int .i64 0)).setCell ⟨L.p, 31, none⟩ (.int .i64 0)).setCell ⟨L.p, 32, none⟩ (.int .i64 0)).setCell ⟨L.p, 33, none⟩ (.int .i64 0)).setCell ⟨L.p, 34, none⟩ (.int .u16 0)).setCell ⟨L.p, 35, none⟩ (.int .u16 0)).setCell ⟨L.p, 36, none⟩ (.int .u16 0)).setCell ⟨L.p, 37, none⟩ (.int .i64 0)).setCell ⟨L.p, 38, none⟩ (.int .i64 0)).setCell ⟨L.p, 39, none⟩ (.int .u16 0)).setCell ⟨L.p, 40, none⟩ (.int .i64 0)).setCell ⟨L.p, 41, none⟩ (.int .i64 0)).setCell ⟨L.p, 42, none⟩ (.int .i64 0)).setCell ⟨L.p, 43, none⟩ (.string ⟨#[]⟩)).setCell ⟨L.p, 44, none⟩ (.slice none 0 0)) = w1 := ⟨_, rfl⟩
  have hce0 : (((((((((((((((((((((((((bootC s L).setIfInBounds 21 (.int .i64 0)).setIfInBounds 22 (.int .u32 0)).setIfInBounds 23 (.int .u32 0)).setIfInBounds 24 (.int .u32 0)).setIfInBounds 25 (.int .u32 0)).setIfInBounds 26 (.int .u32 0)).setIfInBounds 27 (.int .u32 0)).setIfInBounds 28 (.int .i64 0)).setIfInBounds 29 (.int .i64 0)).setIfInBounds 30 (.int .i64 0)).setIfInBounds 31 (.int .i64 0)).setIfInBounds 32 (.int .i64 0)).setIfInBounds 33 (.int .i64 0)).setIfInBounds 34 (.int .u16 0)).setIfInBounds 35 (.int .u16 0)).setIfInBounds 36 (.int .u16 0)).setIfInBounds 37 (.int .i64 0)).setIfInBounds 38 (.int .i64 0)).setIfInBounds 39 (.int .u16 0)).setIfInBounds 40 (.int .i64 0)).setIfInBounds 41 (.int .i64 0)).setIfInBounds 42 (.int .i64 0)).setIfInBounds 43 (.string ⟨#[]⟩)).setIfInBounds 44 (.slice none 0 0)) = bootC s.drop { L with img := none, icap := 0 } := by
    unfold bootC
    simp only [List.setIfInBounds_toArray, List.set_cons_zero, List.set_cons_succ]
    rfl
  have hb1 : Bk w1 L.p 106 (bootC s.drop { L with img := none, icap := 0 }) := by rw [← hw1, ← hce0]; exact ((((((((((((((((((((((((h.bk.set 21 (.int .i64 0)).set 22 (.int .u32 0)).set 23 (.int .u32 0)).set 24 (.int .u32 0)).set 25 (.int .u32 0)).set 26 (.int .u32 0)).set 27 (.int .u32 0)).set 28 (.int .i64 0)).set 29 (.int .i64 0)).set 30 (.int .i64 0)).set 31 (.int .i64 0)).set 32 (.int .i64 0)).set 33 (.int .i64 0)).set 34 (.int .u16 0)).set 35 (.int .u16 0)).set 36 (.int .u16 0)).set 37 (.int .i64 0)).set 38 (.int .i64 0)).set 39 (.int .u16 0)).set 40 (.int .i64 0)).set 41 (.int .i64 0)).set 42 (.int .i64 0)).set 43 (.string ⟨#[]⟩)).set 44 (.slice none 0 0))
  clear hce0
  have hf1 : Fr (oneB L.p) w w1 := by rw [← hw1]; exact (((((((((((((((((((((((((Fr.refl (oneB L.p) w).setCell (p := ⟨L.p, 21, none⟩) (fun _ => rfl) (.int .i64 0)).setCell (p := ⟨L.p, 22, none⟩) (fun _ => rfl) (.int .u32 0)).setCell (p := ⟨L.p, 23, none⟩) (fun _ => rfl) (.int .u32 0)).setCell (p := ⟨L.p, 24, none⟩) (fun _ => rfl) (.int .u32 0)).setCell (p := ⟨L.p, 25, none⟩) (fun _ => rfl) (.int .u32 0)).setCell (p := ⟨L.p, 26, none⟩) (fun _ => rfl) (.int .u32 0)).setCell (p := ⟨L.p, 27, none⟩) (fun _ => rfl) (.int .u32 0)).setCell (p := ⟨L.p, 28, none⟩) (fun _ => rfl) (.int .i64 0)).setCell (p := ⟨L.p, 29, none⟩) (fun _ => rfl) (.int .i64 0)).setCell (p := ⟨L.p, 30, none⟩) (fun _ => rfl) (.int .i64 0)).setCell (p := ⟨L.p, 31, none⟩) (fun _ => rfl) (.int .i64 0)).setCell (p := ⟨L.p, 32, none⟩) (fun _ => rfl) (.int .i64 0)).setCell (p := ⟨L.p, 33, none⟩) (fun _ => rfl) (.int .i64 0)).setCell (p := ⟨L.p, 34, none⟩) (fun _ => rfl) (.int .u16 0)).setCell (p := ⟨L.p, 35, none⟩) (fun _ => rfl) (.int .u16 0)).setCell (p := ⟨L.p, 36, none⟩) (fun _ => rfl) (.int .u16 0)).setCell (p := ⟨L.p, 37, none⟩) (fun _ => rfl) (.int .i64 0)).setCell (p := ⟨L.p, 38, none⟩) (fun _ => rfl) (.int .i64 0)).setCell (p := ⟨L.p, 39, none⟩) (fun _ => rfl) (.int .u16 0)).setCell (p := ⟨L.p, 40, none⟩) (fun _ => rfl) (.int .i64 0)).setCell (p := ⟨L.p, 41, none⟩) (fun _ => rfl) (.int .i64 0)).setCell (p := ⟨L.p, 42, none⟩) (fun _ => rfl) (.int .i64 0)).setCell (p := ⟨L.p, 43, none⟩) (fun _ => rfl) (.string ⟨#[]⟩)).setCell (p := ⟨L.p, 44, none⟩) (fun _ => rfl) (.slice none 0 0))
  have Hw1 := Lib.hid hw1
  clear hw1
  have hlt := h.lt
  have c21 := h.g21
  have c22 := h.g22
  have c23 := h.g23
  have c24 := h.g24
  have c25 := h.g25
  have c26 := h.g26
  have c27 := h.g27
  have c28 := h.g28
  have c29 := h.g29
  have c30 := h.g30
  have c31 := h.g31
  have c32 := h.g32
  have c33 := h.g33
  have c34 := h.g34
  have c35 := h.g35
  have c36 := h.g36
  have c37 := h.g37
  have c38 := h.g38
  have c39 := h.g39
  have c40 := h.g40
  have c41 := h.g41
  have c42 := h.g42
  have c43 := h.g43
  have c44 := h.g44
  have hfz := h.fr
  have hcall := cacheClear L.p 15 (.map (some L.mp)) w1 (hb1.cell 15) (hb1.free 15)
  have Hcall := Lib.hid hcall
  clear hcall
  go_enter Tryz.func79, Tryz.ntmps79
  go_wp2_with fail
  rw [Hw1.out]
  refine Hcall.out.mono ?_
  rintro e w3 ⟨rfl, rfl⟩
  have hfr : Fr (oneB L.p) w ((w1.alloc (.map #[] 0)).setCell ⟨L.p, 15, none⟩ (.map (some w1.heap.size))) := (hf1.alloc _).setCell (p := ⟨L.p, 15, none⟩) (fun _ => rfl) _
  have hpl : L.p < w1.heap.size := hb1.lt
  have hmp := cleared (w := w1) (cb := L.p) (co := 15) hpl
  have hbk : Bk ((w1.alloc (.map #[] 0)).setCell ⟨L.p, 15, none⟩ (.map (some w1.heap.size))) L.p 106 (bootC s.drop ⟨L.p, L.rx, L.rxs, L.tx, L.txs, w1.heap.size, none, 0⟩) := (hb1.alloc _).set 15 _
  generalize hw3 : (w1.alloc (.map #[] 0)).setCell ⟨L.p, 15, none⟩ (.map (some w1.heap.size)) = w3 at *
  have hs1 := hf1.size
  have hn := h.ne
  have hgl := glb_lt h.gb
  have q0 := hlt _ (.inl (show L.p ∈ L.blocks by simp [Lay.blocks]))
  have q1 := hlt _ (.inl (show L.rx ∈ L.blocks by simp [Lay.blocks]))
  have q2 := hlt _ (.inl (show L.rxs ∈ L.blocks by simp [Lay.blocks]))
  have q3 := hlt _ (.inl (show L.tx ∈ L.blocks by simp [Lay.blocks]))
  have q4 := hlt _ (.inl (show L.txs ∈ L.blocks by simp [Lay.blocks]))
  simp only [Lay.blocks, List.nodup_cons, List.mem_cons, List.not_mem_nil, or_false, not_or] at hn
  obtain ⟨⟨n1, n2, n3, n4, n5⟩, ⟨m2, m3, m4, m5⟩, ⟨k3, k4, k5⟩, ⟨j4, j5⟩, i5, _⟩ := hn
  have hown : ∀ b, own' ⟨L.p, L.rx, L.rxs, L.tx, L.txs, w1.heap.size, none, 0⟩ b → (own' L b ∨ b = w1.heap.size) := by
    rintro b (hb | ⟨a, ha, _⟩)
    · simp only [Lay.blocks, List.mem_cons, List.not_mem_nil, or_false] at hb
      rcases hb with rfl | rfl | rfl | rfl | rfl | rfl
      · exact .inl (.inl (by simp [Lay.blocks]))
      · exact .inl (.inl (by simp [Lay.blocks]))
      · exact .inl (.inl (by simp [Lay.blocks]))
      · exact .inl (.inl (by simp [Lay.blocks]))
      · exact .inl (.inl (by simp [Lay.blocks]))
      · exact .inr rfl
    · cases ha
  go_wp2_with fail
  refine bodyPost_end (results_none rfl _ _ _) rfl ⟨rfl, ⟨L.p, L.rx, L.rxs, L.tx, L.txs, w1.heap.size, none, 0⟩, rfl, fun b hb => ?_, ?_, hfr.mono fun b _ hb => by obtain rfl : b = L.p := hb; exact own_p L⟩
  · rcases hown b hb with hb | rfl
    · exact .inl hb
    · exact .inr hs1
  · refine ⟨hbk, h.rx.keep hfr (fun x => n1 x.symm) (fun x => n2 x.symm), h.tx.keep hfr (fun x => n3 x.symm) (fun x => n4 x.symm), hmp, ⟨by simp [u8s, St.drop], .inl ⟨rfl, rfl⟩⟩, ?_, (fun a ha => by cases ha), drop_ok h.ok, h.gb.keep hfr (fun b hb x => h.gd _ (own_p L) (x ▸ hb)), fun b hb => ?_⟩
    · simp only [Lay.blocks, List.nodup_cons, List.mem_cons, List.not_mem_nil, or_false, not_or]
      exact ⟨⟨n1, n2, n3, n4, by omega⟩, ⟨m2, m3, m4, by omega⟩, ⟨k3, k4, by omega⟩, ⟨j4, by omega⟩, by omega, by simp⟩
    · rcases hown b hb with hb | rfl
      · exact h.gd b hb
      · intro hx; have := hgl _ hx; omega
end Go.Proofs.YtcbkaiakdhiloacGreatDoor
namespace Go.Proofs.YtcbkaiakdhiloacGreatDoor
open Go.RowKit Go.Proofs
attribute [local go_sem] bs_size bs_append bs_extract bs_toList
theorem bootFailL (L : Lay) (s : St) (w : World) (h : BootAt w L s) :
    Calls Tryz.prog 45 #[.pointer (some ⟨L.p, 0, none⟩)] w (LPost2 L s.fail (.tuple #[]) w) := by
  have hcall := bootDropL L s w h
  have Hcall := Lib.hid hcall
  clear hcall
  go_enter Tryz.func45, Tryz.ntmps45
  go_wp2_with fail
  refine Hcall.out.mono ?_
  rintro e w1 ⟨rfl, ⟨p', rx', rxs', tx', txs', mp', im', ic'⟩, hp, ho, hB, hF⟩
  have hp' : p' = L.p := hp
  subst hp'
  have c18 := hB.g18
  have c33 := hB.g33
  have hfz := hB.fr
  dsimp only at c18 c33 hfz
  have hs : s.drop.boots = s.boots := rfl
  have hph : s.drop.phase = 0 := rfl
  rw [hs] at c18
  rw [hph] at c33
  have hown : ∀ b, b < w.heap.size → own' ⟨L.p, rx', rxs', tx', txs', mp', im', ic'⟩ b → own' L b := fun b hb hx => by
    rcases ho b hx with h | h
    · exact h
    · omega
  have hw := i64w (s.boots + 1)
  by_cases h3 : wrap64 (s.boots + 1) = 3
  · have hu : s.fail = { s.drop with boots := wrap64 (s.boots + 1), phase := 4 } := by unfold St.fail; rw [if_pos h3]
    rw [h3] at hw hu
    have Hu := Lib.hid hu
    clear hu h3 hs hph
    go_wp2_with fail
    refine bodyPost_end (results_none rfl _ _ _) rfl ⟨rfl, ⟨L.p, rx', rxs', tx', txs', mp', im', ic'⟩, rfl, ho, ?_, ?_⟩
    · rw [Hu.out]
      have hf := ((Fr.refl (oneB L.p) w1).setCell (p := ⟨L.p, 18, none⟩) (fun _ => rfl) (.int .i64 3)).setCell (p := ⟨L.p, 33, none⟩) (fun _ => rfl) (.int .i64 4)
      exact hB.turn _ hf ((hB.bk.set 18 _).set 33 _) rfl rfl rfl rfl rfl { drop_ok h.ok with }
    · exact hF.trans' (((Fr.refl (own' ⟨L.p, rx', rxs', tx', txs', mp', im', ic'⟩) w1).setCell (p := ⟨L.p, 18, none⟩) (fun _ => own_p ⟨L.p, rx', rxs', tx', txs', mp', im', ic'⟩) _).setCell (p := ⟨L.p, 33, none⟩) (fun _ => own_p ⟨L.p, rx', rxs', tx', txs', mp', im', ic'⟩) _) hown
  · have hu : s.fail = { s.drop with boots := wrap64 (s.boots + 1) } := by unfold St.fail; rw [if_neg h3]
    have h3b : (wrap64 (s.boots + 1) == 3) = false := by rw [beq_eq_false_iff_ne]; exact h3
    have Hu := Lib.hid hu
    clear hu h3 hs hph
    go_wp2_with fail
    refine bodyPost_end (results_none rfl _ _ _) rfl ⟨rfl, ⟨L.p, rx', rxs', tx', txs', mp', im', ic'⟩, rfl, ho, ?_, ?_⟩
    · rw [Hu.out]
      have hf := (Fr.refl (oneB L.p) w1).setCell (p := ⟨L.p, 18, none⟩) (fun _ => rfl) (.int .i64 (wrap64 (s.boots + 1)))
      exact hB.turn _ hf (hB.bk.set 18 _) rfl rfl rfl rfl rfl { drop_ok h.ok with }
    · exact hF.trans' ((Fr.refl (own' ⟨L.p, rx', rxs', tx', txs', mp', im', ic'⟩) w1).setCell (p := ⟨L.p, 18, none⟩) (fun _ => own_p ⟨L.p, rx', rxs', tx', txs', mp', im', ic'⟩) _) hown
end Go.Proofs.YtcbkaiakdhiloacGreatDoor
namespace Go.Proofs.YtcbkaiakdhiloacGreatDoor
open Go.RowKit Go.Proofs
attribute [local go_sem] bs_size bs_append bs_extract bs_toList
theorem BootAt.set1 {w : World} {L : Lay} {s : St} (h : BootAt w L s) (k : Nat) (v : Value) (s' : St) (he : (bootC s L).setIfInBounds k v = bootC s' L) (hc : s'.c = s.c) (hr : s'.rx = s.rx) (ht : s'.tx = s.tx) (hm : s'.cache = s.cache) (hi : s'.image = s.image) (ok : s'.Ok) :
    BootAt (w.setCell ⟨L.p, k, Option.none⟩ v) L s' := by
  have hb : Bk (w.setCell ⟨L.p, k, Option.none⟩ v) L.p 106 (bootC s' L) := by rw [← he]; exact h.bk.set k v
  exact h.turn s' ((Fr.refl (oneB L.p) w).setCell (p := ⟨L.p, k, Option.none⟩) (fun _ => rfl) v) hb hc hr ht hm hi ok
theorem fr_set1 (L : Lay) (w : World) (k : Nat) (v : Value) : Fr (own' L) w (w.setCell ⟨L.p, k, none⟩ v) := (Fr.refl (own' L) w).setCell (p := ⟨L.p, k, none⟩) (fun _ => own_p L) v
theorem both_wt (s : St) : wtO s.both ≤ 1000 := by simp [St.both, wtO, big_length]
theorem bootAsksL (L : Lay) (s : St) (w : World) (h : BootAt w L s) :
    Calls Tryz.prog 76 #[.pointer (some ⟨L.p, 0, none⟩)] w (LPost L s.asks (.tuple #[]) w) := by
  have c21 := h.g21
  by_cases hl : s.lease = 1
  · have hu : s.asks = s.say 1 false [] := by unfold St.asks; rw [if_pos hl]
    have b1 : ((s.lease : Int) == 1) = true := by rw [hl]; rfl
    have hcall := bootSayL0 L s 1 [] none 0 0 w h rfl SlR.nil (by decide)
    have Hcall := Lib.hid hcall
    have Hu := Lib.hid hu
    clear hcall hu hl
    go_enter Tryz.func76, Tryz.ntmps76
    go_wp2_with fail
    refine Hcall.out.mono ?_
    rintro e w2 ⟨rfl, hM, f2⟩
    go_wp2_with fail
    refine bodyPost_end (results_none rfl _ _ _) rfl ?_
    rw [Hu.out]
    exact ⟨rfl, hM, f2⟩
  · have hu : s.asks = s.say 3 false s.both := by unfold St.asks; rw [if_neg hl]
    have b1 : ((s.lease : Int) == 1) = false := by simp; omega
    have Hu := Lib.hid hu
    clear hu hl
    go_enter Tryz.func76, Tryz.ntmps76
    go_upto_region 2 with fail
    refine wp_region_pls (by kernel_rfl) (fun w' => BootAt w' L s ∧ Fr noB w w') [16] (.p 0 (.p 1 (.p 2 (.p 3 (.p 4 (.p 8 (.p 9 (.p 10 (.p 11 (.q 5 (.q 12 (.e 6 (.p 7 (.e 13 (.p 14 (.e 15 (.e 16 (.nil)))))))))))))))))) (by kernel_rfl) (⟨h.drew, (Fr.refl _ _).drew⟩) ?_
    intro ops Q' hO hQ' wr1 hR1
    iterate 9 (refine pl_p0 hO rfl rfl ?_ (fun w' => ?_) ?_; rotate_left 1; (focus (go_simp; ((try with_reducible rfl); done))); simp only [Act.put, List.setIfInBounds_toArray, List.set_cons_zero, List.set_cons_succ])
    iterate 2 (refine pl_q0 hO rfl rfl ?_ (fun w' hS => ?_) ?_; rotate_left 1; (focus (obtain ⟨hB, hF⟩ := hS; have c23 := hB.g23; have c26 := hB.g26; go_simp; ((try with_reducible rfl); done))); simp only [Act.put, List.setIfInBounds_toArray, List.set_cons_zero, List.set_cons_succ])
    refine pl_e0 hO rfl rfl rfl (fun K hK => ?_)
    go_simp
    refine (bootFour s.addr _ h.ok.addr).mono ?_
    rintro e w2 ⟨rfl, fw2⟩
    refine hK _ _ (⟨hR1.1.none fw2, hR1.2.none fw2⟩) (fun hR_6 => ?_)
    clear hK K
    refine pl_p0 hO rfl rfl ?_ (fun w' => ?_) ?_; rotate_left 1; (focus (go_simp; ((try with_reducible rfl); done))); simp only [Act.put, List.setIfInBounds_toArray, List.set_cons_zero, List.set_cons_succ]
    refine pl_e0 hO rfl rfl rfl (fun K hK => ?_)
    go_simp
    refine (bootFour s.server _ h.ok.server).mono ?_
    rintro e w3 ⟨rfl, fw3⟩
    refine hK _ _ (⟨hR_6.1.none fw3, hR_6.2.none fw3⟩) (fun hR_13 => ?_)
    clear hK K
    refine pl_p0 hO rfl rfl ?_ (fun w' => ?_) ?_; rotate_left 1; (focus (go_simp; ((try with_reducible rfl); done))); simp only [Act.put, List.setIfInBounds_toArray, List.set_cons_zero, List.set_cons_succ]
    refine pl_e0 hO rfl rfl rfl (fun K hK => ?_)
    go_simp
    refine hK _ _ (⟨hR_13.1.none ((Fr.refl _ _).alloc _), hR_13.2.none ((Fr.refl _ _).alloc _)⟩) (fun hR_15 => ?_)
    clear hK K
    refine pl_b0 hO rfl rfl rfl (fun K hK => ?_)
    go_simp
    refine (bootSayL0 L s 3 s.both (some ⟨w3.heap.size, 0, none⟩) 2 2 _ hR_15.1 rfl (SlR.of_bk (Bk.new w3 66 #[.int .u8 50, .string (bs (big 4 s.addr)), .int .u8 54, .string (bs (big 4 s.server))]) (fun x => x) rfl) (both_wt s)).mono ?_
    rintro e w4 ⟨rfl, hM4, f4⟩
    refine hK _ _ ?_
    clear hK K
    refine pl_nil (hQ' _ _ ?_)
    go_wp2_with fail
    refine bodyPost_end (results_none rfl _ _ _) rfl ?_
    rw [Hu.out]
    exact ⟨rfl, hM4, (hR_15.2.of_no (own' L)).trans f4⟩
theorem bootGoesL (L : Lay) (s : St) (l : Nat) (w : World) (h : BootAt w L s) :
    Calls Tryz.prog 75 #[.pointer (some ⟨L.p, 0, none⟩), .int .i64 (l : Int)] w (LPost L (s.goes l) (.tuple #[]) w) := by
  obtain ⟨s2, hs2⟩ : ∃ s2 : St, { s with lease := l, lsends := 1 } = s2 := ⟨_, rfl⟩
  have hM2 : BootAt ((w.setCell ⟨L.p, 21, none⟩ (.int .i64 (l : Int))).setCell ⟨L.p, 32, none⟩ (.int .i64 1)) L s2 := by
    rw [← hs2]
    exact (h.set1 21 (.int .i64 (l : Int)) { s with lease := l } rfl rfl rfl rfl rfl rfl { h.ok with }).set1 32 (.int .i64 1) { s with lease := l, lsends := 1 } rfl rfl rfl rfl rfl rfl { h.ok with lsends := by show 1 ≤ 4; decide }
  have f2 : Fr (own' L) w ((w.setCell ⟨L.p, 21, none⟩ (.int .i64 (l : Int))).setCell ⟨L.p, 32, none⟩ (.int .i64 1)) := (fr_set1 L w _ _).trans (fr_set1 L _ _ _)
  have c21 := h.g21
  have c32 := h.g32
  have hfz := h.fr
  go_enter Tryz.func75, Tryz.ntmps75
  go_upto_region 2 with fail
  generalize (w.setCell ⟨L.p, 21, none⟩ (.int .i64 (l : Int))).setCell ⟨L.p, 32, none⟩ (.int .i64 1) = w2 at *
  have q := i64w (s2.now + s2.wait 0)
  refine wp_region_pls (by kernel_rfl) (fun w' => BootAt w' L s2 ∧ Fr noB w2 w') [11] (.p 0 (.p 1 (.p 2 (.p 3 (.p 5 (.q 4 (.e 6 (.p 7 (.p 8 (.p 9 (.p 10 (.e 11 (.nil))))))))))))) (by kernel_rfl) (⟨hM2.drew, (Fr.refl _ _).drew⟩) ?_
  intro ops Q' hO hQ' wr1 hR1
  iterate 5 (refine pl_p0 hO rfl rfl ?_ (fun w' => ?_) ?_; rotate_left 1; (focus (go_simp; ((try with_reducible rfl); done))); simp only [Act.put, List.setIfInBounds_toArray, List.set_cons_zero, List.set_cons_succ])
  refine pl_q0 hO rfl rfl ?_ (fun w' hS => ?_) ?_; rotate_left 1; (focus (obtain ⟨hB, hF⟩ := hS; have c16 := hB.g16; go_simp; ((try with_reducible rfl); done))); simp only [Act.put, List.setIfInBounds_toArray, List.set_cons_zero, List.set_cons_succ]
  refine pl_e0 hO rfl rfl rfl (fun K hK => ?_)
  go_simp
  refine (bootWait L s2 0 (by decide) _ hR1.1).mono ?_
  rintro e w5 ⟨rfl, fw5⟩
  refine hK _ _ (⟨hR1.1.none fw5, hR1.2.none fw5⟩) (fun hR_6 => ?_)
  clear hK K
  iterate 4 (refine pl_p0 hO rfl rfl ?_ (fun w' => ?_) ?_; rotate_left 1; (focus (go_simp; ((try with_reducible rfl); done))); simp only [Act.put, List.setIfInBounds_toArray, List.set_cons_zero, List.set_cons_succ])
  refine pl_b0 hO rfl rfl rfl (fun K hK => ?_)
  have c31 := hR_6.1.g31
  have hfz := hR_6.1.fr
  go_simp
  refine hK _ _ ?_
  clear hK K
  refine pl_nil (hQ' _ _ ?_)
  have hM6 := hR_6.1.set1 31 (.int .i64 (wrap64 (s2.now + s2.wait 0))) { s2 with lagain := wrap64 (s2.now + s2.wait 0) } rfl rfl rfl rfl rfl rfl { hR_6.1.ok with }
  have f6 := fr_set1 L w5 31 (.int .i64 (wrap64 (s2.now + s2.wait 0)))
  generalize w5.setCell ⟨L.p, 31, none⟩ (.int .i64 (wrap64 (s2.now + s2.wait 0))) = w6 at *
  go_wp2_with fail
  refine (bootAsksL L _ _ hM6).mono ?_
  rintro e w7 ⟨rfl, hM7, f7⟩
  go_wp2_with fail
  refine bodyPost_end (results_none rfl _ _ _) rfl ?_
  exact ⟨rfl, by rw [← hs2] at hM7; exact hM7, f2.trans ((hR_6.2.of_no (own' L)).trans (f6.trans f7))⟩
end Go.Proofs.YtcbkaiakdhiloacGreatDoor
namespace Go.Proofs.YtcbkaiakdhiloacGreatDoor
open Go.RowKit Go.Proofs
attribute [local go_sem] bs_size bs_append bs_extract bs_toList
theorem tick0 (L : Lay) (s : St) (w : World) (h : BootAt w L s) (hl : s.lease = 0) :
    Calls Tryz.prog 44 #[.pointer (some ⟨L.p, 0, none⟩)] w (LPost L (({ s with xid := s.draw } : St).goes 1) (.tuple #[]) w) := by
  have c21 := h.g21
  have hfz := h.fr
  rw [hl] at c21
  have c17 := h.g17
  have c22 := h.g22
  have hM2 := h.set1 22 (.int .u32 (s.draw : Int)) { s with xid := s.draw } rfl rfl rfl rfl rfl rfl { h.ok with xid := h.ok.draw }
  go_enter Tryz.func44, Tryz.ntmps44
  go_wp2_with fail
  refine (bootGoesL L { s with xid := s.draw } 1 _ hM2).mono ?_
  rintro e w2 ⟨rfl, hM3, f3⟩
  go_wp2_with fail
  exact bodyPost_end (results_none rfl _ _ _) rfl ⟨rfl, hM3, (fr_set1 L w 22 _).trans f3⟩
theorem tick1a (L : Lay) (s : St) (w : World) (h : BootAt w L s) (hl : s.lease = 1) (h1 : s.now < s.lagain) :
    Calls Tryz.prog 44 #[.pointer (some ⟨L.p, 0, none⟩)] w (LPost L s (.tuple #[]) w) := by
  have c21 := h.g21
  have hfz := h.fr
  rw [hl] at c21
  go_enter Tryz.func44, Tryz.ntmps44
  go_upto_region 8 with fail
  refine wp_region_pls (by kernel_rfl) (fun w' => BootAt w' L s ∧ Fr noB w w') [] (.p 0 (.p 1 (.p 2 (.p 4 (.p 5 (.p 6 (.q 3 (.q 7 (.p 8 .nil))))))))) (by kernel_rfl) (⟨h.drew, (Fr.refl _ _).drew⟩) ?_
  intro ops Q' hO hQ' wr1 hR1
  iterate 6 (refine pl_p0 hO rfl rfl ?_ (fun w' => ?_) ?_; rotate_left 1; (focus (go_simp; ((try with_reducible rfl); done))); simp only [Act.put, List.setIfInBounds_toArray, List.set_cons_zero, List.set_cons_succ])
  iterate 2 (refine pl_q0 hO rfl rfl ?_ (fun w' hS => ?_) ?_; rotate_left 1; (focus (obtain ⟨hB, hF⟩ := hS; have c16 := hB.g16; have c31 := hB.g31; have c32 := hB.g32; go_simp; ((try with_reducible rfl); done))); simp only [Act.put, List.setIfInBounds_toArray, List.set_cons_zero, List.set_cons_succ])
  refine pl_p0 hO rfl rfl ?_ (fun w' => ?_) ?_; rotate_left 1; (focus (go_simp; ((try with_reducible rfl); done))); simp only [Act.put, List.setIfInBounds_toArray, List.set_cons_zero, List.set_cons_succ]
  refine pl_nil (hQ' _ _ ?_)
  go_wp2_with fail
  exact bodyPost_end (results_none rfl _ _ _) rfl ⟨rfl, hR1.1, hR1.2.of_no _⟩
theorem tick1b (L : Lay) (s : St) (w : World) (h : BootAt w L s) (hl : s.lease = 1) (h1 : s.lagain ≤ s.now) (h4 : s.lsends = 4) :
    Calls Tryz.prog 44 #[.pointer (some ⟨L.p, 0, none⟩)] w (LPost2 L s.fail (.tuple #[]) w) := by
  have c21 := h.g21
  have hfz := h.fr
  rw [hl] at c21
  have g1 : decide (s.now < s.lagain) = false := by simp; omega
  go_enter Tryz.func44, Tryz.ntmps44
  go_upto_region 8 with fail
  refine wp_region_pls (by kernel_rfl) (fun w' => BootAt w' L s ∧ Fr noB w w') [] (.p 0 (.p 1 (.p 2 (.p 4 (.p 5 (.p 6 (.q 3 (.q 7 (.p 8 .nil))))))))) (by kernel_rfl) (⟨h.drew, (Fr.refl _ _).drew⟩) ?_
  intro ops Q' hO hQ' wr1 hR1
  iterate 6 (refine pl_p0 hO rfl rfl ?_ (fun w' => ?_) ?_; rotate_left 1; (focus (go_simp; ((try with_reducible rfl); done))); simp only [Act.put, List.setIfInBounds_toArray, List.set_cons_zero, List.set_cons_succ])
  iterate 2 (refine pl_q0 hO rfl rfl ?_ (fun w' hS => ?_) ?_; rotate_left 1; (focus (obtain ⟨hB, hF⟩ := hS; have c16 := hB.g16; have c31 := hB.g31; have c32 := hB.g32; go_simp; ((try with_reducible rfl); done))); simp only [Act.put, List.setIfInBounds_toArray, List.set_cons_zero, List.set_cons_succ])
  refine pl_p0 hO rfl rfl ?_ (fun w' => ?_) ?_; rotate_left 1; (focus (go_simp; ((try with_reducible rfl); done))); simp only [Act.put, List.setIfInBounds_toArray, List.set_cons_zero, List.set_cons_succ]
  refine pl_nil (hQ' _ _ ?_)
  have d32 := hR1.1.g32
  rw [h4] at d32
  go_wp2_with fail
  refine (bootFailL L s _ hR1.1).mono ?_
  intro e w2 hp
  obtain ⟨rfl, hp⟩ := hp
  go_wp2_with fail
  exact bodyPost_end (results_none rfl _ _ _) rfl (LPost2.comp (L1 := L) rfl (fun b hb => .inl hb) (hR1.2.of_no _) ⟨rfl, hp⟩)
theorem tick1c (L : Lay) (s : St) (w : World) (h : BootAt w L s) (hl : s.lease = 1) (h1 : s.lagain ≤ s.now) (h4 : s.lsends ≠ 4) :
    Calls Tryz.prog 44 #[.pointer (some ⟨L.p, 0, none⟩)] w (LPost L (({ s with lagain := wrap64 (s.now + s.wait s.lsends), lsends := s.lsends + 1 } : St).asks) (.tuple #[]) w) := by
  have c21 := h.g21
  have hfz := h.fr
  rw [hl] at c21
  have g1 : decide (s.now < s.lagain) = false := by simp; omega
  have b4 : ((s.lsends : Int) == 4) = false := by simp; omega
  have hls := h.ok.lsends
  obtain ⟨n1, hn1⟩ : ∃ n1, s.lsends + 1 = n1 := ⟨_, rfl⟩
  have hn4 : n1 ≤ 4 := by omega
  have q1 : IntKind.i64.wrap ((s.lsends : Int) + 1) = (n1 : Int) := by rw [IntWalk.i64_in _ (by omega)]; omega
  have q := i64w (s.now + s.wait s.lsends)
  have Hn1 := Lib.hid hn1
  have H4 := Lib.hid h4
  have Hls := Lib.hid hls
  clear hn1 h4 hls
  go_enter Tryz.func44, Tryz.ntmps44
  go_upto_region 8 with fail
  refine wp_region_pls (by kernel_rfl) (fun w' => BootAt w' L s ∧ Fr noB w w') [] (.p 0 (.p 1 (.p 2 (.p 4 (.p 5 (.p 6 (.q 3 (.q 7 (.p 8 .nil))))))))) (by kernel_rfl) (⟨h.drew, (Fr.refl _ _).drew⟩) ?_
  intro ops Q' hO hQ' wr1 hR1
  iterate 6 (refine pl_p0 hO rfl rfl ?_ (fun w' => ?_) ?_; rotate_left 1; (focus (go_simp; ((try with_reducible rfl); done))); simp only [Act.put, List.setIfInBounds_toArray, List.set_cons_zero, List.set_cons_succ])
  iterate 2 (refine pl_q0 hO rfl rfl ?_ (fun w' hS => ?_) ?_; rotate_left 1; (focus (obtain ⟨hB, hF⟩ := hS; have c16 := hB.g16; have c31 := hB.g31; have c32 := hB.g32; go_simp; ((try with_reducible rfl); done))); simp only [Act.put, List.setIfInBounds_toArray, List.set_cons_zero, List.set_cons_succ])
  refine pl_p0 hO rfl rfl ?_ (fun w' => ?_) ?_; rotate_left 1; (focus (go_simp; ((try with_reducible rfl); done))); simp only [Act.put, List.setIfInBounds_toArray, List.set_cons_zero, List.set_cons_succ]
  refine pl_nil (hQ' _ _ ?_)
  have d32 := hR1.1.g32
  go_upto_region 11 with fail
  refine wp_region_pls (by kernel_rfl) (fun w' => BootAt w' L s ∧ Fr noB w w') [14] (.p 0 (.p 1 (.p 2 (.p 3 (.p 5 (.p 6 (.p 7 (.p 8 (.q 4 (.q 9 (.e 10 (.p 11 (.p 12 (.p 13 (.e 14 (.nil)))))))))))))))) (by kernel_rfl) (⟨hR1.1.drew, hR1.2.drew⟩) ?_
  intro ops Q' hO hQ' wr2 hR2
  iterate 8 (refine pl_p0 hO rfl rfl ?_ (fun w' => ?_) ?_; rotate_left 1; (focus (go_simp; ((try with_reducible rfl); done))); simp only [Act.put, List.setIfInBounds_toArray, List.set_cons_zero, List.set_cons_succ])
  iterate 2 (refine pl_q0 hO rfl rfl ?_ (fun w' hS => ?_) ?_; rotate_left 1; (focus (obtain ⟨hB, hF⟩ := hS; have c16 := hB.g16; have c31 := hB.g31; have c32 := hB.g32; go_simp; ((try with_reducible rfl); done))); simp only [Act.put, List.setIfInBounds_toArray, List.set_cons_zero, List.set_cons_succ])
  refine pl_e0 hO rfl rfl rfl (fun K hK => ?_)
  go_simp
  refine (bootWait L s s.lsends h.ok.lsends _ hR2.1).mono ?_
  rintro e w5 ⟨rfl, fw5⟩
  refine hK _ _ (⟨hR2.1.none fw5, hR2.2.none fw5⟩) (fun hR_10 => ?_)
  clear hK K
  iterate 3 (refine pl_p0 hO rfl rfl ?_ (fun w' => ?_) ?_; rotate_left 1; (focus (go_simp; ((try with_reducible rfl); done))); simp only [Act.put, List.setIfInBounds_toArray, List.set_cons_zero, List.set_cons_succ])
  refine pl_b0 hO rfl rfl rfl (fun K hK => ?_)
  have d31 := hR_10.1.g31
  have hfz2 := hR_10.1.fr
  go_simp
  refine hK _ _ ?_
  clear hK K
  refine pl_nil (hQ' _ _ ?_)
  have hM6 := (hR_10.1.set1 31 (.int .i64 (wrap64 (s.now + s.wait s.lsends))) { s with lagain := wrap64 (s.now + s.wait s.lsends) } rfl rfl rfl rfl rfl rfl { h.ok with })
  have hM7 := hM6.set1 32 (.int .i64 (n1 : Int)) { s with lagain := wrap64 (s.now + s.wait s.lsends), lsends := n1 } rfl rfl rfl rfl rfl rfl { h.ok with lsends := hn4 }
  have f7 := (fr_set1 L w5 31 (.int .i64 (wrap64 (s.now + s.wait s.lsends)))).trans (fr_set1 L _ 32 (.int .i64 (n1 : Int)))
  have d32 := hR_10.1.g32
  have hfz3 := hR_10.1.fr
  go_wp2_with fail
  refine (bootAsksL L _ _ hM7).mono ?_
  rintro e w8 ⟨rfl, hM8, f8⟩
  go_wp2_with fail
  refine bodyPost_end (results_none rfl _ _ _) rfl ?_
  rw [Hn1.out] 
  exact ⟨rfl, hM8, (hR_10.2.of_no (own' L)).trans (f7.trans f8)⟩
end Go.Proofs.YtcbkaiakdhiloacGreatDoor
