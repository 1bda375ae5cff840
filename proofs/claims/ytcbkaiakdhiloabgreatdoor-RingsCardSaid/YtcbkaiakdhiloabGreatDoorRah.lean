/- Parts of the walk; written by programs, merged. -/
import Derived.Test.YtcbkaiakdhiloabGreatDoorRag
import Derived.Deep.CutBlock
import Derived.Laws.StructEq
import Derived.DeepKeys
set_option linter.unusedSimpArgs false
set_option linter.unusedVariables false
set_option maxRecDepth 20000
set_option maxHeartbeats 8000000
namespace Go.Proofs.YtcbkaiakdhiloabGreatDoor
open Go.RowKit Go.Proofs Go.Maps
attribute [local go_sem] bs_size bs_append bs_extract bs_toList
def learnRes (l : List EntD) (ip : Nat) : List UInt8 := match find l ip with
  | none => []
  | some e => e.waits
def learnL (l : List EntD) (ip : Nat) (card : Mac) (add : Bool) (now : Int) : List EntD := match find l ip with
  | none => if add then enter l ⟨ip, card, true, wrap64 (now + 60), 0, []⟩ else l
  | some _ => setEnt l ip fun _ => ⟨ip, card, true, wrap64 (now + 60), 0, []⟩
def learnPost (b : Nat) (l : List EntD) (ip : Nat) (card : Mac) (add : Bool) (now : Int) (w : World) (e : Ending) (w' : World) : Prop := e = .returned (.string (bs (learnRes l ip))) ∧ MapAt w' b (learnL l ip card add now) ∧ Fr (oneB b) w w'
theorem cacheLearn (cb co b ip : Nat) (l : List EntD) (m0 m1 m2 m3 m4 m5 : UInt8) (add : Bool) (now : Int) (w : World) (hc : w.cell? ⟨cb, co, none⟩ = some (.map (some b))) (hcb : cb ≠ b) (hm : MapAt w b l) (hd : ∀ e ∈ l, 0 ≤ e.due ∧ e.due ≤ 4611686018427388000) (hl4 : l.length ≤ 4) (hip : ip < 4294967296) :
    Calls Tryz.prog 222 #[.pointer (some ⟨cb, co, none⟩), .int .u32 (ip : Int), .agg #[.int .u8 (m0.toNat : Int), .int .u8 (m1.toNat : Int), .int .u8 (m2.toNat : Int), .int .u8 (m3.toNat : Int), .int .u8 (m4.toNat : Int), .int .u8 (m5.toNat : Int)], .bool add, .int .i64 now] w (learnPost b l ip (m0, m1, m2, m3, m4, m5) add now w) := by
  obtain ⟨D, hown, hrep⟩ := hm
  have hkey := ipKey hip
  have hbl := hown.lt
  have hcl : cb < w.heap.size := cell_lt' hc
  have hownX := (hown.alloc (.cells #[.int .u8 (m0.toNat : Int), .int .u8 (m1.toNat : Int), .int .u8 (m2.toNat : Int), .int .u8 (m3.toNat : Int), .int .u8 (m4.toNat : Int), .int .u8 (m5.toNat : Int)] 23))
  cases hf : find l ip with
  | some e =>
    obtain ⟨hhas, hat⟩ := at_some hrep hf
    have Hat := Lib.hid hat
    have Hhas := Lib.hid hhas
    have Hf := Lib.hid hf
    clear hf hat hhas
    have hg7 := (Bk.new w 23 #[.int .u8 (m0.toNat : Int), .int .u8 (m1.toNat : Int), .int .u8 (m2.toNat : Int), .int .u8 (m3.toNat : Int), .int .u8 (m4.toNat : Int), .int .u8 (m5.toNat : Int)]).alloc (.cells #[.int .u8 (e.card.1.toNat : Int), .int .u8 (e.card.2.1.toNat : Int), .int .u8 (e.card.2.2.1.toNat : Int), .int .u8 (e.card.2.2.2.1.toNat : Int), .int .u8 (e.card.2.2.2.2.1.toNat : Int), .int .u8 (e.card.2.2.2.2.2.toNat : Int), .bool e.known, .int .i64 e.due, .int .i64 e.asked, .string (bs e.waits)] 159)
    have hg11 := Bk.new (w.alloc (.cells #[.int .u8 (m0.toNat : Int), .int .u8 (m1.toNat : Int), .int .u8 (m2.toNat : Int), .int .u8 (m3.toNat : Int), .int .u8 (m4.toNat : Int), .int .u8 (m5.toNat : Int)] 23)) 159 #[.int .u8 (e.card.1.toNat : Int), .int .u8 (e.card.2.1.toNat : Int), .int .u8 (e.card.2.2.1.toNat : Int), .int .u8 (e.card.2.2.2.1.toNat : Int), .int .u8 (e.card.2.2.2.2.1.toNat : Int), .int .u8 (e.card.2.2.2.2.2.toNat : Int), .bool e.known, .int .i64 e.due, .int .i64 e.asked, .string (bs e.waits)]
    have hf1 : Fr noB w ((w.alloc (.cells #[.int .u8 (m0.toNat : Int), .int .u8 (m1.toNat : Int), .int .u8 (m2.toNat : Int), .int .u8 (m3.toNat : Int), .int .u8 (m4.toNat : Int), .int .u8 (m5.toNat : Int)] 23)).alloc (.cells #[.int .u8 (e.card.1.toNat : Int), .int .u8 (e.card.2.1.toNat : Int), .int .u8 (e.card.2.2.1.toNat : Int), .int .u8 (e.card.2.2.2.1.toNat : Int), .int .u8 (e.card.2.2.2.2.1.toNat : Int), .int .u8 (e.card.2.2.2.2.2.toNat : Int), .bool e.known, .int .i64 e.due, .int .i64 e.asked, .string (bs e.waits)] 159)) := ((Fr.refl _ _).alloc _).alloc _
    rw [show (w.alloc (.cells #[.int .u8 (m0.toNat : Int), .int .u8 (m1.toNat : Int), .int .u8 (m2.toNat : Int), .int .u8 (m3.toNat : Int), .int .u8 (m4.toNat : Int), .int .u8 (m5.toNat : Int)] 23)).heap.size = w.heap.size + 1 by simp] at hg11
    have Hd := Lib.hid hd
    clear hd
    go_enter Tryz.func222, Tryz.ntmps222
    go_upto_region 2 with (at_lookup; go_must (refine wpList_lookup_own_ok _ rfl (.tmp 17) (.tmp 18) 93 rfl 34 159 cacheK Tryz.underlying93 entR (z := entC ent0) (zeroEnt _) (entDat ent0) [] (entR_mk ent0) b l.length D rfl hownX _ (ipL ip) rfl hkey ?_); intro v ps hv; rw [Hat.out] at hv; obtain rfl := entR_inv hv; clear hv; rw [Hhas.out]; unfold entC)
    have hownY := hown.alloc (.cells #[.int .u8 (m0.toNat : Int), .int .u8 (m1.toNat : Int), .int .u8 (m2.toNat : Int), .int .u8 (m3.toNat : Int), .int .u8 (m4.toNat : Int), .int .u8 (m5.toNat : Int)] 23)
    have hownZ := hownY.alloc (.cells #[.int .u8 (e.card.1.toNat : Int), .int .u8 (e.card.2.1.toNat : Int), .int .u8 (e.card.2.2.1.toNat : Int), .int .u8 (e.card.2.2.2.1.toNat : Int), .int .u8 (e.card.2.2.2.2.1.toNat : Int), .int .u8 (e.card.2.2.2.2.2.toNat : Int), .bool e.known, .int .i64 e.due, .int .i64 e.asked, .string (bs e.waits)] 159)
    have hc2 : ((w.alloc (.cells #[.int .u8 (m0.toNat : Int), .int .u8 (m1.toNat : Int), .int .u8 (m2.toNat : Int), .int .u8 (m3.toNat : Int), .int .u8 (m4.toNat : Int), .int .u8 (m5.toNat : Int)] 23)).alloc (.cells #[.int .u8 (e.card.1.toNat : Int), .int .u8 (e.card.2.1.toNat : Int), .int .u8 (e.card.2.2.1.toNat : Int), .int .u8 (e.card.2.2.2.1.toNat : Int), .int .u8 (e.card.2.2.2.2.1.toNat : Int), .int .u8 (e.card.2.2.2.2.2.toNat : Int), .bool e.known, .int .i64 e.due, .int .i64 e.asked, .string (bs e.waits)] 159)).cell? ⟨cb, co, none⟩ = some (.map (some b)) := (hf1.cell (a := ⟨cb, co, none⟩) hcl (fun x => x)).trans hc
    generalize (w.alloc (.cells #[.int .u8 (m0.toNat : Int), .int .u8 (m1.toNat : Int), .int .u8 (m2.toNat : Int), .int .u8 (m3.toNat : Int), .int .u8 (m4.toNat : Int), .int .u8 (m5.toNat : Int)] 23)).alloc (.cells #[.int .u8 (e.card.1.toNat : Int), .int .u8 (e.card.2.1.toNat : Int), .int .u8 (e.card.2.2.1.toNat : Int), .int .u8 (e.card.2.2.2.1.toNat : Int), .int .u8 (e.card.2.2.2.2.1.toNat : Int), .int .u8 (e.card.2.2.2.2.2.toNat : Int), .bool e.known, .int .i64 e.due, .int .i64 e.asked, .string (bs e.waits)] 159) = w2 at *
    obtain ⟨g7, hg7e⟩ : ∃ g7, w.heap.size = g7 := ⟨_, rfl⟩
    obtain ⟨g11, hg11e⟩ : ∃ g11, w.heap.size + 1 = g11 := ⟨_, rfl⟩
    rw [hg11e] at hg11
    rw [hg11e]
    rw [hg7e] at hg7
    rw [hg7e]
    have hn3 : g7 < g11 := by omega
    have hn1 : cb < g7 := by omega
    have hn2 : b < g7 := by omega
    have Hg7 := Lib.hid hg7e
    have Hg11 := Lib.hid hg11e
    clear hg7e hg11e hownX hownY hown hc hcl hbl
    go_upto_region 6 with fail
    have q1 : IntKind.i64.wrap (now + 60) = wrap64 (now + 60) := i64w _
    refine wp_region_pls (by kernel_rfl) (fun w' => Bk w' g7 23 #[.int .u8 (m0.toNat : Int), .int .u8 (m1.toNat : Int), .int .u8 (m2.toNat : Int), .int .u8 (m3.toNat : Int), .int .u8 (m4.toNat : Int), .int .u8 (m5.toNat : Int)] ∧ Bk w' g11 159 #[.int .u8 (e.card.1.toNat : Int), .int .u8 (e.card.2.1.toNat : Int), .int .u8 (e.card.2.2.1.toNat : Int), .int .u8 (e.card.2.2.2.1.toNat : Int), .int .u8 (e.card.2.2.2.2.1.toNat : Int), .int .u8 (e.card.2.2.2.2.2.toNat : Int), .bool e.known, .int .i64 e.due, .int .i64 e.asked, .string (bs e.waits)] ∧ w'.cell? ⟨cb, co, none⟩ = some (.map (some b)) ∧ w'.ownsMap Tryz.prog 34 entR b l.length D ∧ Fr noB w w') [9] (.p 0 (.p 1 (.p 2 (.p 4 (.p 6 (.p 7 (.q 3 (.q 5 (.p 8 (.e 9 (.nil))))))))))) (by kernel_rfl) (⟨hg7.drew, hg11.drew, hc2, hownZ.drew, hf1.drew⟩) ?_
    intro ops Q' hO hQ' wr1 hR1
    iterate 6 (refine pl_p0 hO rfl rfl ?_ (fun w' => ?_) ?_; rotate_left 1; (focus (go_simp; ((try with_reducible rfl); done))); simp only [Act.put, List.setIfInBounds_toArray, List.set_cons_zero, List.set_cons_succ])
    iterate 2 (refine pl_q0 hO rfl rfl ?_ (fun w' hS => ?_) ?_; rotate_left 1; (focus (obtain ⟨hS1, hS2, hS3, hS4, hS5⟩ := hS; have hSc := hS1.cells; go_simp; ((try with_reducible rfl); done))); simp only [Act.put, List.setIfInBounds_toArray, List.set_cons_zero, List.set_cons_succ])
    refine pl_p0 hO rfl rfl ?_ (fun w' => ?_) ?_; rotate_left 1; (focus (go_simp; ((try with_reducible rfl); done))); simp only [Act.put, List.setIfInBounds_toArray, List.set_cons_zero, List.set_cons_succ]
    refine pl_b0 hO rfl rfl rfl (fun K hK => ?_)
    obtain ⟨w4, hrun, hown4, htn4⟩ := hR1.2.2.2.1.store cacheK Tryz.underlying93 (by unfold maxLen; omega) hkey (entR_mk ⟨ip, (m0, m1, m2, m3, m4, m5), true, wrap64 (now + 60), 0, []⟩)
    have hez : entC ⟨ip, (m0, m1, m2, m3, m4, m5), true, wrap64 (now + 60), 0, []⟩ = .agg #[.int .u8 (m0.toNat : Int), .int .u8 (m1.toNat : Int), .int .u8 (m2.toNat : Int), .int .u8 (m3.toNat : Int), .int .u8 (m4.toNat : Int), .int .u8 (m5.toNat : Int), .bool true, .int .i64 (wrap64 (now + 60)), .int .i64 0, .string ⟨#[]⟩] := rfl
    rw [hez] at hrun
    clear hez
    go_simp
    refine hK _ _ ?_
    clear hK K
    refine pl_nil (hQ' _ _ ?_)
    clear q1
    obtain ⟨k1, k2, k3, k4, k5⟩ := hR1
    have hf4 : Fr (oneB b) wr1 w4 := (Fr.refl (oneB b) wr1).grown htn4.grown (fun g h _ => by injection h with h; exact h.symm)
    have h11d := (k2.keep hf4 (by unfold oneB; omega)).cells
    have Hown4 := Lib.hid hown4
    clear hrun hown4 htn4
    go_wp2_with fail
    go_ret
    obtain ⟨hmem, hei⟩ := find_some Hf.out
    have hres : learnRes l ip = e.waits := by unfold learnRes; rw [Hf.out]
    have hL : learnL l ip (m0, m1, m2, m3, m4, m5) add now = setEnt l ip fun _ => ⟨ip, (m0, m1, m2, m3, m4, m5), true, wrap64 (now + 60), 0, []⟩ := by unfold learnL; rw [Hf.out]
    refine ⟨by rw [hres]; rfl, ?_, (k5.of_no _).trans hf4⟩
    rw [hL]
    exact .of Hown4.out (hrep.old (e := ⟨ip, (m0, m1, m2, m3, m4, m5), true, wrap64 (now + 60), 0, []⟩) (by simp only; rw [← hei]; exact List.mem_map_of_mem hmem))
  | none =>
    obtain ⟨hhas, hat⟩ := at_none hrep hf
    have Hat := Lib.hid hat
    have Hhas := Lib.hid hhas
    have Hf := Lib.hid hf
    clear hf hat hhas
    have hg7 := (Bk.new w 23 #[.int .u8 (m0.toNat : Int), .int .u8 (m1.toNat : Int), .int .u8 (m2.toNat : Int), .int .u8 (m3.toNat : Int), .int .u8 (m4.toNat : Int), .int .u8 (m5.toNat : Int)]).alloc (.cells #[.int .u8 0, .int .u8 0, .int .u8 0, .int .u8 0, .int .u8 0, .int .u8 0, .bool false, .int .i64 0, .int .i64 0, .string ⟨#[]⟩] 159)
    have hg11 := Bk.new (w.alloc (.cells #[.int .u8 (m0.toNat : Int), .int .u8 (m1.toNat : Int), .int .u8 (m2.toNat : Int), .int .u8 (m3.toNat : Int), .int .u8 (m4.toNat : Int), .int .u8 (m5.toNat : Int)] 23)) 159 #[.int .u8 0, .int .u8 0, .int .u8 0, .int .u8 0, .int .u8 0, .int .u8 0, .bool false, .int .i64 0, .int .i64 0, .string ⟨#[]⟩]
    have hf1 : Fr noB w ((w.alloc (.cells #[.int .u8 (m0.toNat : Int), .int .u8 (m1.toNat : Int), .int .u8 (m2.toNat : Int), .int .u8 (m3.toNat : Int), .int .u8 (m4.toNat : Int), .int .u8 (m5.toNat : Int)] 23)).alloc (.cells #[.int .u8 0, .int .u8 0, .int .u8 0, .int .u8 0, .int .u8 0, .int .u8 0, .bool false, .int .i64 0, .int .i64 0, .string ⟨#[]⟩] 159)) := ((Fr.refl _ _).alloc _).alloc _
    rw [show (w.alloc (.cells #[.int .u8 (m0.toNat : Int), .int .u8 (m1.toNat : Int), .int .u8 (m2.toNat : Int), .int .u8 (m3.toNat : Int), .int .u8 (m4.toNat : Int), .int .u8 (m5.toNat : Int)] 23)).heap.size = w.heap.size + 1 by simp] at hg11
    have Hd := Lib.hid hd
    clear hd
    go_enter Tryz.func222, Tryz.ntmps222
    go_upto_region 2 with (at_lookup; go_must (refine wpList_lookup_own_ok _ rfl (.tmp 17) (.tmp 18) 93 rfl 34 159 cacheK Tryz.underlying93 entR (z := entC ent0) (zeroEnt _) (entDat ent0) [] (entR_mk ent0) b l.length D rfl hownX _ (ipL ip) rfl hkey ?_); intro v ps hv; rw [Hat.out] at hv; obtain rfl := entR_inv hv; clear hv; rw [Hhas.out]; rw [ent0_C])
    have hownY := hown.alloc (.cells #[.int .u8 (m0.toNat : Int), .int .u8 (m1.toNat : Int), .int .u8 (m2.toNat : Int), .int .u8 (m3.toNat : Int), .int .u8 (m4.toNat : Int), .int .u8 (m5.toNat : Int)] 23)
    have hownZ := hownY.alloc (.cells #[.int .u8 0, .int .u8 0, .int .u8 0, .int .u8 0, .int .u8 0, .int .u8 0, .bool false, .int .i64 0, .int .i64 0, .string ⟨#[]⟩] 159)
    have hc2 : ((w.alloc (.cells #[.int .u8 (m0.toNat : Int), .int .u8 (m1.toNat : Int), .int .u8 (m2.toNat : Int), .int .u8 (m3.toNat : Int), .int .u8 (m4.toNat : Int), .int .u8 (m5.toNat : Int)] 23)).alloc (.cells #[.int .u8 0, .int .u8 0, .int .u8 0, .int .u8 0, .int .u8 0, .int .u8 0, .bool false, .int .i64 0, .int .i64 0, .string ⟨#[]⟩] 159)).cell? ⟨cb, co, none⟩ = some (.map (some b)) := (hf1.cell (a := ⟨cb, co, none⟩) hcl (fun x => x)).trans hc
    generalize (w.alloc (.cells #[.int .u8 (m0.toNat : Int), .int .u8 (m1.toNat : Int), .int .u8 (m2.toNat : Int), .int .u8 (m3.toNat : Int), .int .u8 (m4.toNat : Int), .int .u8 (m5.toNat : Int)] 23)).alloc (.cells #[.int .u8 0, .int .u8 0, .int .u8 0, .int .u8 0, .int .u8 0, .int .u8 0, .bool false, .int .i64 0, .int .i64 0, .string ⟨#[]⟩] 159) = w2 at *
    obtain ⟨g7, hg7e⟩ : ∃ g7, w.heap.size = g7 := ⟨_, rfl⟩
    obtain ⟨g11, hg11e⟩ : ∃ g11, w.heap.size + 1 = g11 := ⟨_, rfl⟩
    rw [hg11e] at hg11
    rw [hg11e]
    rw [hg7e] at hg7
    rw [hg7e]
    have hn3 : g7 < g11 := by omega
    have hn1 : cb < g7 := by omega
    have hn2 : b < g7 := by omega
    have Hg7 := Lib.hid hg7e
    have Hg11 := Lib.hid hg11e
    clear hg7e hg11e hownX hownY hown hc hcl hbl
    have hres : learnRes l ip = [] := by unfold learnRes; rw [Hf.out]
    have Hres := Lib.hid hres
    clear hres
    cases add
    · go_wp2_with fail
      go_ret
      have hL : learnL l ip (m0, m1, m2, m3, m4, m5) false now = l := by unfold learnL; rw [Hf.out]; rfl
      exact ⟨by rw [Hres.out]; rfl, by rw [hL]; exact ⟨D, hownZ, hrep⟩, hf1.of_no _⟩
    have hroom := cacheRoom cb co b l w2 hc2 hcb ⟨D, hownZ, hrep⟩ Hd.out (by omega)
    have Hroom := Lib.hid hroom
    clear hroom
    go_wp2_with fail
    refine Hroom.out.mono ?_
    intro e w5 hp
    obtain ⟨rfl, hf5, l', D', hown5, hrep5, hnin, hlen5, hperm⟩ := hp.use hrep.nd Hf.out
    clear hp
    go_upto_region 6 with fail
    have hg7c := hg7.keep hf5 (by unfold oneB; omega)
    have hg11c := hg11.keep hf5 (by unfold oneB; omega)
    have hcc := (hf5.cell (a := ⟨cb, co, none⟩) (cell_lt' hc2) (by unfold oneB; simp only; omega)).trans hc2
    have hf25 : Fr (oneB b) w w5 := (hf1.of_no _).trans hf5
    have Hperm := Lib.hid hperm
    have Hnin := Lib.hid hnin
    clear hg7 hg11 hc2 hownZ hf1 hf5 hperm hnin Hroom
    have q1 : IntKind.i64.wrap (now + 60) = wrap64 (now + 60) := i64w _
    refine wp_region_pls (by kernel_rfl) (fun w' => Bk w' g7 23 #[.int .u8 (m0.toNat : Int), .int .u8 (m1.toNat : Int), .int .u8 (m2.toNat : Int), .int .u8 (m3.toNat : Int), .int .u8 (m4.toNat : Int), .int .u8 (m5.toNat : Int)] ∧ Bk w' g11 159 #[.int .u8 0, .int .u8 0, .int .u8 0, .int .u8 0, .int .u8 0, .int .u8 0, .bool false, .int .i64 0, .int .i64 0, .string ⟨#[]⟩] ∧ w'.cell? ⟨cb, co, none⟩ = some (.map (some b)) ∧ w'.ownsMap Tryz.prog 34 entR b l'.length D' ∧ Fr (oneB b) w w') [9] (.p 0 (.p 1 (.p 2 (.p 4 (.p 6 (.p 7 (.q 3 (.q 5 (.p 8 (.e 9 (.nil))))))))))) (by kernel_rfl) (⟨hg7c.drew, hg11c.drew, hcc, hown5.drew, hf25.drew⟩) ?_
    intro ops Q' hO hQ' wr1 hR1
    iterate 6 (refine pl_p0 hO rfl rfl ?_ (fun w' => ?_) ?_; rotate_left 1; (focus (go_simp; ((try with_reducible rfl); done))); simp only [Act.put, List.setIfInBounds_toArray, List.set_cons_zero, List.set_cons_succ])
    iterate 2 (refine pl_q0 hO rfl rfl ?_ (fun w' hS => ?_) ?_; rotate_left 1; (focus (obtain ⟨hS1, hS2, hS3, hS4, hS5⟩ := hS; have hSc := hS1.cells; go_simp; ((try with_reducible rfl); done))); simp only [Act.put, List.setIfInBounds_toArray, List.set_cons_zero, List.set_cons_succ])
    refine pl_p0 hO rfl rfl ?_ (fun w' => ?_) ?_; rotate_left 1; (focus (go_simp; ((try with_reducible rfl); done))); simp only [Act.put, List.setIfInBounds_toArray, List.set_cons_zero, List.set_cons_succ]
    refine pl_b0 hO rfl rfl rfl (fun K hK => ?_)
    obtain ⟨w4, hrun, hown4, htn4⟩ := hR1.2.2.2.1.store cacheK Tryz.underlying93 (by unfold maxLen; omega) hkey (entR_mk ⟨ip, (m0, m1, m2, m3, m4, m5), true, wrap64 (now + 60), 0, []⟩)
    have hez : entC ⟨ip, (m0, m1, m2, m3, m4, m5), true, wrap64 (now + 60), 0, []⟩ = .agg #[.int .u8 (m0.toNat : Int), .int .u8 (m1.toNat : Int), .int .u8 (m2.toNat : Int), .int .u8 (m3.toNat : Int), .int .u8 (m4.toNat : Int), .int .u8 (m5.toNat : Int), .bool true, .int .i64 (wrap64 (now + 60)), .int .i64 0, .string ⟨#[]⟩] := rfl
    rw [hez] at hrun
    clear hez
    go_simp
    refine hK _ _ ?_
    clear hK K
    refine pl_nil (hQ' _ _ ?_)
    clear q1
    obtain ⟨k1, k2, k3, k4, k5⟩ := hR1
    have hf4 : Fr (oneB b) wr1 w4 := (Fr.refl (oneB b) wr1).grown htn4.grown (fun g h _ => by injection h with h; exact h.symm)
    have h11d := (k2.keep hf4 (by unfold oneB; omega)).cells
    have Hown4 := Lib.hid hown4
    clear hrun hown4 htn4
    go_wp2_with fail
    go_ret
    have hL : learnL l ip (m0, m1, m2, m3, m4, m5) true now = enter l ⟨ip, (m0, m1, m2, m3, m4, m5), true, wrap64 (now + 60), 0, []⟩ := by unfold learnL; rw [Hf.out]; rfl
    refine ⟨by rw [Hres.out]; rfl, ?_, k5.trans hf4⟩
    rw [hL]
    exact (MapAt.of Hown4.out (hrep5.new (e := ⟨ip, (m0, m1, m2, m3, m4, m5), true, wrap64 (now + 60), 0, []⟩) Hnin.out hip)).perm (Hperm.out _)
end Go.Proofs.YtcbkaiakdhiloabGreatDoor
namespace Go.Proofs.YtcbkaiakdhiloabGreatDoor
open Go.RowKit Go.Proofs
attribute [local go_sem] bs_size bs_append bs_extract bs_toList
theorem enter_mem {l : List EntD} {e x : EntD} (h : x ∈ enter l e) : x = e ∨ x ∈ l := by
  unfold enter at h
  split at h
  · rcases List.mem_append.1 h with h | h
    · exact .inr h
    · exact .inl (by simpa using h)
  · cases l with
    | nil => exact .inl (by simpa using h)
    | cons b r =>
      obtain ⟨y, hy, rfl⟩ := List.mem_map.1 h
      split
      · exact .inl rfl
      · exact .inr hy
theorem enter_len {l : List EntD} {e : EntD} (h : l.length ≤ 4) : (enter l e).length ≤ 4 := by
  unfold enter
  split
  · simp; omega
  · cases l with
    | nil => simp
    | cons b r => simpa using h
theorem setEnt_mem {l : List EntD} {ip : Nat} {f : EntD → EntD} {x : EntD} (h : x ∈ setEnt l ip f) : x ∈ l ∨ ∃ y ∈ l, x = f y := by
  unfold setEnt at h
  obtain ⟨y, hy, rfl⟩ := List.mem_map.1 h
  split
  · exact .inr ⟨y, hy, rfl⟩
  · exact .inl hy
theorem setEnt_len (l : List EntD) (ip : Nat) (f : EntD → EntD) : (setEnt l ip f).length = l.length := by simp [setEnt]
theorem small2 {n : Int} (h0 : 0 ≤ n) (h1 : n ≤ 4611686018427387904) (k : Int) (hk : 0 ≤ k ∧ k ≤ 60) : wrap64 (n + k) = n + k := IntWalk.wrap64_in _ ⟨by omega, by omega⟩
end Go.Proofs.YtcbkaiakdhiloabGreatDoor
namespace Go.Proofs.YtcbkaiakdhiloabGreatDoor
open Go.RowKit Go.Proofs
attribute [local go_sem] bs_size bs_append bs_extract bs_toList
theorem cacheLen (cb co b : Nat) (l : List EntD) (w : World) (hc : w.cell? ⟨cb, co, none⟩ = some (.map (some b))) (hm : MapAt w b l) (hl4 : l.length ≤ 4) :
    Calls Tryz.prog 50 #[.pointer (some ⟨cb, co, none⟩)] w fun e w' => e = .returned (.int .i64 (l.length : Int)) ∧ Fr noB w w' := by
  obtain ⟨D, hown, hrep⟩ := hm
  go_enter Tryz.func50, Tryz.ntmps50
  go_wp2_with fail
  rw [hown.len Tryz.underlying93 3, hrep.size]
  go_wp2_with fail
  go_ret
  exact ⟨rfl, Fr.refl _ _⟩
end Go.Proofs.YtcbkaiakdhiloabGreatDoor
namespace Go.Proofs.YtcbkaiakdhiloabGreatDoor
open Go.RowKit Go.Proofs
attribute [local go_sem] bs_size bs_append bs_extract bs_toList
theorem cacheClear (cb co : Nat) (v : Value) (w : World) (hc : w.cell? ⟨cb, co, none⟩ = some v) (hfz : w.frozen? ⟨cb, co, none⟩ = false) :
    Calls Tryz.prog 40 #[.pointer (some ⟨cb, co, none⟩)] w fun e w' => e = .returned (.tuple #[]) ∧ w' = (w.alloc (.map #[] 0)).setCell ⟨cb, co, none⟩ (.map (some w.heap.size)) := by
  have hlt := cell_lt' hc
  have hc2 : (w.alloc (.map #[] 0)).cell? ⟨cb, co, none⟩ = some v := by
    rw [show (w.alloc (.map #[] 0)).cell? ⟨cb, co, none⟩ = w.cell? ⟨cb, co, none⟩ from by unfold World.cell?; rw [Below.heap_alloc w _ cb hlt]]
    exact hc
  have hf2 : (w.alloc (.map #[] 0)).frozen? ⟨cb, co, none⟩ = false := by
    rw [show (w.alloc (.map #[] 0)).frozen? ⟨cb, co, none⟩ = w.frozen? ⟨cb, co, none⟩ from by unfold World.frozen?; rw [Below.heap_alloc w _ cb hlt]]
    exact hfz
  have hmm := @run_makeMap Tryz.prog
  go_enter Tryz.func40, Tryz.ntmps40
  go_wp2_with fail
  exact bodyPost_end (results_none rfl _ _ _) rfl ⟨rfl, rfl⟩
theorem cleared {w : World} {cb co : Nat} (hlt : cb < w.heap.size) : MapAt ((w.alloc (.map #[] 0)).setCell ⟨cb, co, none⟩ (.map (some w.heap.size))) w.heap.size [] := by
  have h1 : MapAt (w.alloc (.map #[] 0)) w.heap.size [] := ⟨_, w.ownsMap_made _ _ _, Rep.nil⟩
  have hf : Fr (oneB cb) (w.alloc (.map #[] 0)) ((w.alloc (.map #[] 0)).setCell ⟨cb, co, none⟩ (.map (some w.heap.size))) := (Fr.refl (oneB cb) (w.alloc (.map #[] 0))).setCell (p := ⟨cb, co, none⟩) (fun _ => rfl) (.map (some w.heap.size))
  exact h1.keep hf (fun x => by have x' : w.heap.size = cb := x; omega)
end Go.Proofs.YtcbkaiakdhiloabGreatDoor
namespace Go.Proofs.YtcbkaiakdhiloabGreatDoor
open Go.RowKit Go.Proofs
attribute [local go_sem] bs_size bs_append bs_extract bs_toList
theorem glb_lt {w : World} (h : Glb w) : ∀ b, glB b → b < w.heap.size := by
  rintro b (rfl | rfl | rfl | rfl | rfl | rfl)
  · exact h.all.1
  · exact h.rounds.1
  · exact h.begin.1
  · exact h.tabs.lt.1
  · exact h.tabs.lt.2
  · exact tab_lt h.pow gPow
def LPost2 (L : Lay) (s : St) (r : Value) (w : World) (e : Ending) (w' : World) : Prop := e = .returned r ∧ ∃ L' : Lay, L'.p = L.p ∧ (∀ b, own' L' b → own' L b ∨ w.heap.size ≤ b) ∧ BootAt w' L' s ∧ Fr (own' L) w w'
theorem LPost.two {L : Lay} {s : St} {r : Value} {w w' : World} {e : Ending} (h : LPost L s r w e w') : LPost2 L s r w e w' := ⟨h.1, L, rfl, fun b hb => .inl hb, h.2⟩
theorem LPost2.comp {L L1 : Lay} {s : St} {r : Value} {w w1 w' : World} {e : Ending} (hp : L1.p = L.p) (ho : ∀ b, own' L1 b → own' L b ∨ w.heap.size ≤ b) (hf : Fr (own' L) w w1) (h : LPost2 L1 s r w1 e w') : LPost2 L s r w e w' := by
  obtain ⟨h1, L', h2, h3, h4, h5⟩ := h
  refine ⟨h1, L', h2.trans hp, fun b hb => ?_, h4, hf.trans' h5 fun b hb hx => ?_⟩
  · rcases h3 b hb with h | h
    · exact ho b h
    · exact .inr (Nat.le_trans hf.size h)
  · rcases ho b hx with h | h
    · exact h
    · omega
end Go.Proofs.YtcbkaiakdhiloabGreatDoor
namespace Go.Proofs.YtcbkaiakdhiloabGreatDoor
open Go.RowKit Go.Proofs
structure MLay where
  rx : Option Addr
  rxc : Nat
  tx : Option Addr
  txc : Nat
  ca : Option Addr
  cac : Nat
  im : Option Addr
  imc : Nat
def blkA (a : Option Addr) : List Nat := match a with | none => [] | some x => [x.block]
def mblocks (p : Nat) (M : MLay) : List Nat := p :: (blkA M.rx ++ (blkA M.tx ++ (blkA M.ca ++ blkA M.im)))
def mown (p : Nat) (M : MLay) (b : Nat) : Prop := b ∈ mblocks p M
structure Dj (p : Nat) (r t c i : List Nat) : Prop where
  pr : p ∉ r
  pt : p ∉ t
  pc : p ∉ c
  pi : p ∉ i
  rt : ∀ b ∈ r, b ∉ t
  rc : ∀ b ∈ r, b ∉ c
  ri : ∀ b ∈ r, b ∉ i
  tc : ∀ b ∈ t, b ∉ c
  ti : ∀ b ∈ t, b ∉ i
  ci : ∀ b ∈ c, b ∉ i
def strV (l : List (List UInt8)) : List Value := l.map fun f => .string (bs f)
def entF (e : EntD) : List Value := [.int .u32 (e.ip : Int), .int .u8 (e.card.1.toNat : Int), .int .u8 (e.card.2.1.toNat : Int), .int .u8 (e.card.2.2.1.toNat : Int), .int .u8 (e.card.2.2.2.1.toNat : Int), .int .u8 (e.card.2.2.2.2.1.toNat : Int), .int .u8 (e.card.2.2.2.2.2.toNat : Int), .bool e.known, .int .i64 e.due, .int .i64 e.asked, .string (bs e.waits)]
def entsF : List EntD → List Value
  | [] => []
  | e :: r => entF e ++ entsF r
theorem entsF_at : ∀ (l : List EntD) (k : Nat) (e : EntD) (j : Nat), l[k]? = some e → j < 11 → (entsF l)[k * 11 + j]? = (entF e)[j]?
  | [], _, _, _, h, _ => by cases h
  | x :: r, 0, e, j, h, hj => by
    cases h
    rw [entsF, List.getElem?_append_left (by simp [entF]; omega)]; congr 1; omega
  | x :: r, k + 1, e, j, h, hj => by
    rw [entsF, List.getElem?_append_right (by simp [entF]; omega)]
    rw [show (k + 1) * 11 + j - (entF x).length = k * 11 + j by simp [entF]; omega]
    exact entsF_at r k e j h hj
def modC (s : St) (T : Nat) (M : MLay) : Array Value := #[.pointer (some ⟨T, 0, none⟩), .int .u8 (s.c.card.1.toNat : Int), .int .u8 (s.c.card.2.1.toNat : Int), .int .u8 (s.c.card.2.2.1.toNat : Int), .int .u8 (s.c.card.2.2.2.1.toNat : Int), .int .u8 (s.c.card.2.2.2.2.1.toNat : Int), .int .u8 (s.c.card.2.2.2.2.2.toNat : Int), .string (bs s.c.name), .int .i64 (s.c.cap : Int), .string (bs s.c.digest), .int .i64 (s.c.block : Int), .int .i64 (s.c.window : Int), .int .i64 (s.c.rx : Int), .int .i64 (s.c.tx : Int), .slice M.rx s.rx.length M.rxc, .slice M.tx s.tx.length M.txc, .int .i64 s.now, .int .u32 (s.draw : Int), .int .i64 s.boots, .int .i64 s.lost, .int .i64 (wrap64 (s.id : Int)), .slice M.ca s.cache.length M.cac, .int .i64 (s.lease : Int), .int .u32 (s.xid : Int), .int .u32 (s.addr : Int), .int .u32 (s.mask : Int), .int .u32 (s.router : Int), .int .u32 (s.server : Int), .int .u32 (s.source : Int), .int .i64 s.t1, .int .i64 s.t2, .int .i64 s.untl, .int .i64 s.lagain, .int .i64 (s.lsends : Int), .int .i64 (s.phase : Int), .int .i64 (s.port : Int), .int .i64 (s.peer : Int), .int .i64 (s.block : Int), .int .i64 (s.wind : Int), .int .i64 (s.next : Int), .int .i64 s.came, .int .i64 s.tagain, .int .i64 (s.tsends : Int), .int .i64 (s.goal : Int), .string (bs s.last), .slice M.im s.image.length M.imc]
structure ModelAt (w : World) (p T : Nat) (M : MLay) (s : St) : Prop where
  bk : Bk w p 174 (modC s T M)
  rx : w.ownsRow 0 9 1 (.slice M.rx s.rx.length M.rxc) s.rx.length (strV s.rx)
  tx : w.ownsRow 0 9 1 (.slice M.tx s.tx.length M.txc) s.tx.length (strV s.tx)
  ca : w.ownsRow 0 237 11 (.slice M.ca s.cache.length M.cac) s.cache.length (entsF s.cache)
  im : w.ownsRow 0 5 1 (.slice M.im s.image.length M.imc) s.image.length (u8s s.image)
  nd : Dj p (blkA M.rx) (blkA M.tx) (blkA M.ca) (blkA M.im)
  ok : s.Ok
  rxl : s.rx.length ≤ s.c.rx
  txl : s.tx.length ≤ s.c.tx
  all : RowG w 4 #[.int .u8 255, .int .u8 255, .int .u8 255, .int .u8 255, .int .u8 255, .int .u8 255]
  ga : ∀ b, mown p M b → b ≠ 4
  dk : (s.cache.map (·.ip)).Nodup
  ip : ∀ e ∈ s.cache, e.ip < 4294967296
section
variable {w : World} {p T : Nat} {M : MLay} {s : St}
theorem ModelAt.g1 (h : ModelAt w p T M s) : w.cell? ⟨p, 1, none⟩ = some (.int .u8 (s.c.card.1.toNat : Int)) := h.bk.cell 1
theorem ModelAt.g2 (h : ModelAt w p T M s) : w.cell? ⟨p, 2, none⟩ = some (.int .u8 (s.c.card.2.1.toNat : Int)) := h.bk.cell 2
theorem ModelAt.g3 (h : ModelAt w p T M s) : w.cell? ⟨p, 3, none⟩ = some (.int .u8 (s.c.card.2.2.1.toNat : Int)) := h.bk.cell 3
theorem ModelAt.g4 (h : ModelAt w p T M s) : w.cell? ⟨p, 4, none⟩ = some (.int .u8 (s.c.card.2.2.2.1.toNat : Int)) := h.bk.cell 4
theorem ModelAt.g5 (h : ModelAt w p T M s) : w.cell? ⟨p, 5, none⟩ = some (.int .u8 (s.c.card.2.2.2.2.1.toNat : Int)) := h.bk.cell 5
theorem ModelAt.g6 (h : ModelAt w p T M s) : w.cell? ⟨p, 6, none⟩ = some (.int .u8 (s.c.card.2.2.2.2.2.toNat : Int)) := h.bk.cell 6
theorem ModelAt.g12 (h : ModelAt w p T M s) : w.cell? ⟨p, 12, none⟩ = some (.int .i64 (s.c.rx : Int)) := h.bk.cell 12
theorem ModelAt.g14 (h : ModelAt w p T M s) : w.cell? ⟨p, 14, none⟩ = some (.slice M.rx s.rx.length M.rxc) := h.bk.cell 14
theorem ModelAt.g15 (h : ModelAt w p T M s) : w.cell? ⟨p, 15, none⟩ = some (.slice M.tx s.tx.length M.txc) := h.bk.cell 15
theorem ModelAt.g16 (h : ModelAt w p T M s) : w.cell? ⟨p, 16, none⟩ = some (.int .i64 s.now) := h.bk.cell 16
theorem ModelAt.g18 (h : ModelAt w p T M s) : w.cell? ⟨p, 18, none⟩ = some (.int .i64 s.boots) := h.bk.cell 18
theorem ModelAt.g19 (h : ModelAt w p T M s) : w.cell? ⟨p, 19, none⟩ = some (.int .i64 s.lost) := h.bk.cell 19
theorem ModelAt.g21 (h : ModelAt w p T M s) : w.cell? ⟨p, 21, none⟩ = some (.slice M.ca s.cache.length M.cac) := h.bk.cell 21
theorem ModelAt.g22 (h : ModelAt w p T M s) : w.cell? ⟨p, 22, none⟩ = some (.int .i64 (s.lease : Int)) := h.bk.cell 22
theorem ModelAt.g23 (h : ModelAt w p T M s) : w.cell? ⟨p, 23, none⟩ = some (.int .u32 (s.xid : Int)) := h.bk.cell 23
theorem ModelAt.g24 (h : ModelAt w p T M s) : w.cell? ⟨p, 24, none⟩ = some (.int .u32 (s.addr : Int)) := h.bk.cell 24
theorem ModelAt.g27 (h : ModelAt w p T M s) : w.cell? ⟨p, 27, none⟩ = some (.int .u32 (s.server : Int)) := h.bk.cell 27
theorem ModelAt.g34 (h : ModelAt w p T M s) : w.cell? ⟨p, 34, none⟩ = some (.int .i64 (s.phase : Int)) := h.bk.cell 34
theorem ModelAt.g45 (h : ModelAt w p T M s) : w.cell? ⟨p, 45, none⟩ = some (.slice M.im s.image.length M.imc) := h.bk.cell 45
theorem ModelAt.fr (h : ModelAt w p T M s) : ∀ j, w.frozen? ⟨p, j, none⟩ = false := h.bk.frees
end
theorem orow_keep {w w' : World} {S : Nat → Prop} {e : TypeId} {size n c : Nat} {A : Option Addr} {xs : List Value} (h : w.ownsRow 0 e size (.slice A n c) n xs) (hf : Fr S w w') (hb : ∀ b ∈ blkA A, ¬ S b) : w'.ownsRow 0 e size (.slice A n c) n xs := by
  refine ⟨h.1, ?_⟩
  rcases h.2 with h1 | ⟨g, cap, cur, h1, h2, h3, h4⟩
  · exact .inl h1
  · refine .inr ⟨g, cap, cur, h1, h2, ?_, h4⟩
    have hl : g < w.heap.size := (Array.getElem?_eq_some_iff.1 h3).1
    injection h1 with h1
    exact (hf.block g hl (hb _ (by rw [h1]; simp [blkA]))).trans h3
theorem orow_lt {w : World} {e : TypeId} {size n c : Nat} {A : Option Addr} {xs : List Value} (h : w.ownsRow 0 e size (.slice A n c) n xs) : ∀ b ∈ blkA A, b < w.heap.size := by
  intro b hb
  rcases h.2 with ⟨h1, _⟩ | ⟨g, cap, cur, h1, h2, h3, h4⟩
  · injection h1 with h1; rw [h1] at hb; cases hb
  · injection h1 with h1
    rw [h1] at hb
    have : b = g := by simpa [blkA] using hb
    subst this
    exact (Array.getElem?_eq_some_iff.1 h3).1
theorem ModelAt.lt {w : World} {p T : Nat} {M : MLay} {s : St} (h : ModelAt w p T M s) : ∀ b, mown p M b → b < w.heap.size := by
  intro b hb
  unfold mown mblocks at hb
  simp only [List.mem_cons, List.mem_append] at hb
  rcases hb with rfl | hb | hb | hb | hb
  · exact h.bk.lt
  · exact orow_lt h.rx b hb
  · exact orow_lt h.tx b hb
  · exact orow_lt h.ca b hb
  · exact orow_lt h.im b hb
theorem mown_p (p : Nat) (M : MLay) : mown p M p := by simp [mown, mblocks]
theorem ModelAt.keep {w w' : World} {S : Nat → Prop} {p T : Nat} {M : MLay} {s : St} (h : ModelAt w p T M s) (hf : Fr S w w') (hS : ∀ b, mown p M b → ¬ S b) (hA : ¬ S 4) : ModelAt w' p T M s where
  bk := h.bk.keep hf (hS _ (mown_p p M))
  rx := orow_keep h.rx hf fun b hb => hS b (by simp [mown, mblocks, hb])
  tx := orow_keep h.tx hf fun b hb => hS b (by simp [mown, mblocks, hb])
  ca := orow_keep h.ca hf fun b hb => hS b (by simp [mown, mblocks, hb])
  im := orow_keep h.im hf fun b hb => hS b (by simp [mown, mblocks, hb])
  nd := h.nd
  ok := h.ok
  rxl := h.rxl
  txl := h.txl
  all := h.all.keep hf hA
  ga := h.ga
  dk := h.dk
  ip := h.ip
theorem ModelAt.none {w w' : World} {p T : Nat} {M : MLay} {s : St} (h : ModelAt w p T M s) (hf : Fr noB w w') : ModelAt w' p T M s := h.keep hf (fun _ _ x => x) (fun x => x)
theorem ModelAt.drew {w : World} {p T : Nat} {M : MLay} {s : St} (h : ModelAt w p T M s) : ModelAt w.drew p T M s := h.none ((Fr.refl _ _).drew)
def MNow (p T : Nat) (M : MLay) (w0 : World) (s : St) (w : World) : Prop := ∃ M' : MLay, (∀ b, mown p M' b → mown p M b ∨ w0.heap.size ≤ b) ∧ ModelAt w p T M' s ∧ Fr (mown p M) w0 w
theorem MNow.at_ {p T : Nat} {M : MLay} {w : World} {s : St} (h : ModelAt w p T M s) : MNow p T M w s w := ⟨M, fun _ hb => .inl hb, h, Fr.refl _ _⟩
theorem MNow.of {p T : Nat} {M : MLay} {w w' : World} {s : St} (h : ModelAt w' p T M s) (hf : Fr (mown p M) w w') : MNow p T M w s w' := ⟨M, fun _ hb => .inl hb, h, hf⟩
theorem MNow.comp {p T : Nat} {M M1 : MLay} {w0 w w' : World} {s' : St} (o1 : ∀ b, mown p M1 b → mown p M b ∨ w0.heap.size ≤ b) (f1 : Fr (mown p M) w0 w) (h : MNow p T M1 w s' w') : MNow p T M w0 s' w' := by
  obtain ⟨M2, o2, b2, f2⟩ := h
  refine ⟨M2, fun b hb => ?_, b2, f1.trans' f2 fun b hb hx => (o1 b hx).resolve_right (by omega)⟩
  rcases o2 b hb with x | x
  · exact o1 b x
  · exact .inr (Nat.le_trans f1.size x)
theorem MNow.pre {p T : Nat} {M : MLay} {w0 w w' : World} {s : St} (hf : Fr noB w0 w) (h : MNow p T M w s w') : MNow p T M w0 s w' := MNow.comp (fun _ hb => .inl hb) (hf.of_no _) h
theorem ModelAt.rxTurn {w w' : World} {p T : Nat} {M : MLay} {s : St} {q : List (List UInt8)} {A : Option Addr} {c : Nat} (h : ModelAt w p T M s) (hf : Fr (fun b => b ∈ blkA M.rx) w w') (hA : w'.ownsRow 0 9 1 (.slice A q.length c) q.length (strV q)) (hb : ∀ b ∈ blkA A, b ∈ blkA M.rx ∨ w.heap.size ≤ b) (hq : q.length ≤ s.c.rx) :
    MNow p T M w { s with rx := q } (w'.setCell ⟨p, 14, Option.none⟩ (.slice A q.length c)) := by
  have hlt := h.lt
  have hal := h.all.1
  have hpl : p < w.heap.size := h.bk.lt
  have hpA : p ∉ blkA A := fun hx => by rcases hb p hx with y | y; exact h.nd.pr y; omega
  have hf2 : Fr (fun b => b ∈ blkA M.rx ∨ b = p) w (w'.setCell ⟨p, 14, Option.none⟩ (.slice A q.length c)) := (hf.mono fun b _ hb => .inl hb).setCell (p := ⟨p, 14, Option.none⟩) (fun _ => .inr rfl) _
  have otx : ∀ b ∈ blkA M.tx, b < w.heap.size := fun b hb => hlt b (by simp [mown, mblocks, hb])
  have ktx : ∀ b ∈ blkA M.tx, ¬ (b ∈ blkA M.rx ∨ b = p) := fun b hb hx => by
    rcases hx with hx | rfl
    · exact (fun b hb hx => h.nd.rt b hx hb) b hb hx
    · exact h.nd.pt hb
  have atx : ∀ b ∈ blkA A, b ∉ blkA M.tx := fun b hbA hy => by
    rcases hb b hbA with z | z
    · exact h.nd.rt b z hy
    · have := otx b hy; omega
  have oca : ∀ b ∈ blkA M.ca, b < w.heap.size := fun b hb => hlt b (by simp [mown, mblocks, hb])
  have kca : ∀ b ∈ blkA M.ca, ¬ (b ∈ blkA M.rx ∨ b = p) := fun b hb hx => by
    rcases hx with hx | rfl
    · exact (fun b hb hx => h.nd.rc b hx hb) b hb hx
    · exact h.nd.pc hb
  have aca : ∀ b ∈ blkA A, b ∉ blkA M.ca := fun b hbA hy => by
    rcases hb b hbA with z | z
    · exact h.nd.rc b z hy
    · have := oca b hy; omega
  have oim : ∀ b ∈ blkA M.im, b < w.heap.size := fun b hb => hlt b (by simp [mown, mblocks, hb])
  have kim : ∀ b ∈ blkA M.im, ¬ (b ∈ blkA M.rx ∨ b = p) := fun b hb hx => by
    rcases hx with hx | rfl
    · exact (fun b hb hx => h.nd.ri b hx hb) b hb hx
    · exact h.nd.pi hb
  have aim : ∀ b ∈ blkA A, b ∉ blkA M.im := fun b hbA hy => by
    rcases hb b hbA with z | z
    · exact h.nd.ri b z hy
    · have := oim b hy; omega
  refine ⟨{ M with rx := A, rxc := c }, fun b hb' => ?_, ⟨(h.bk.keep hf (fun hx => h.nd.pr hx)).set 14 _, ?_, orow_keep h.tx hf2 ktx, orow_keep h.ca hf2 kca, orow_keep h.im hf2 kim, ?_, { h.ok with }, hq, h.txl, h.all.keep hf2 ?_, fun b hb' => ?_, h.dk, h.ip⟩, hf2.mono fun b _ hb' => ?_⟩
  · simp only [mown, mblocks, List.mem_cons, List.mem_append] at hb' ⊢
    rcases hb' with y | y | y | y | y
    · exact .inl (.inl y)
    · rcases hb b y with z | z
      · simp [z]
      · exact .inr z
    · simp [y]
    · simp [y]
    · simp [y]
  · refine orow_keep (S := oneB p) hA ((Fr.refl (oneB p) w').setCell (p := ⟨p, 14, Option.none⟩) (fun _ => rfl) _) fun b hb' e => hpA ?_
    have e' : b = p := e
    exact e' ▸ hb'
  · exact ⟨hpA, h.nd.pt, h.nd.pc, h.nd.pi, atx, aca, aim, h.nd.tc, h.nd.ti, h.nd.ci⟩
  · rintro (hx | hx)
    · exact h.ga _ (by simp [mown, mblocks, hx]) rfl
    · exact h.ga p (mown_p p M) hx.symm
  · simp only [mown, mblocks, List.mem_cons, List.mem_append] at hb'
    rcases hb' with y | y | y | y | y
    · exact h.ga b (by simp [mown, mblocks, y])
    · rcases hb b y with z | z
      · exact h.ga b (by simp [mown, mblocks, z])
      · omega
    · exact h.ga b (by simp [mown, mblocks, y])
    · exact h.ga b (by simp [mown, mblocks, y])
    · exact h.ga b (by simp [mown, mblocks, y])
  · rcases hb' with y | rfl
    · simp [mown, mblocks, y]
    · exact mown_p _ _
theorem ModelAt.txTurn {w w' : World} {p T : Nat} {M : MLay} {s : St} {q : List (List UInt8)} {A : Option Addr} {c : Nat} (h : ModelAt w p T M s) (hf : Fr (fun b => b ∈ blkA M.tx) w w') (hA : w'.ownsRow 0 9 1 (.slice A q.length c) q.length (strV q)) (hb : ∀ b ∈ blkA A, b ∈ blkA M.tx ∨ w.heap.size ≤ b) (hq : q.length ≤ s.c.tx) :
    MNow p T M w { s with tx := q } (w'.setCell ⟨p, 15, Option.none⟩ (.slice A q.length c)) := by
  have hlt := h.lt
  have hal := h.all.1
  have hpl : p < w.heap.size := h.bk.lt
  have hpA : p ∉ blkA A := fun hx => by rcases hb p hx with y | y; exact h.nd.pt y; omega
  have hf2 : Fr (fun b => b ∈ blkA M.tx ∨ b = p) w (w'.setCell ⟨p, 15, Option.none⟩ (.slice A q.length c)) := (hf.mono fun b _ hb => .inl hb).setCell (p := ⟨p, 15, Option.none⟩) (fun _ => .inr rfl) _
  have orx : ∀ b ∈ blkA M.rx, b < w.heap.size := fun b hb => hlt b (by simp [mown, mblocks, hb])
  have krx : ∀ b ∈ blkA M.rx, ¬ (b ∈ blkA M.tx ∨ b = p) := fun b hb hx => by
    rcases hx with hx | rfl
    · exact h.nd.rt b hb hx
    · exact h.nd.pr hb
  have arx : ∀ b ∈ blkA A, b ∉ blkA M.rx := fun b hbA hy => by
    rcases hb b hbA with z | z
    · exact (fun b hb hx => h.nd.rt b hx hb) b z hy
    · have := orx b hy; omega
  have oca : ∀ b ∈ blkA M.ca, b < w.heap.size := fun b hb => hlt b (by simp [mown, mblocks, hb])
  have kca : ∀ b ∈ blkA M.ca, ¬ (b ∈ blkA M.tx ∨ b = p) := fun b hb hx => by
    rcases hx with hx | rfl
    · exact (fun b hb hx => h.nd.tc b hx hb) b hb hx
    · exact h.nd.pc hb
  have aca : ∀ b ∈ blkA A, b ∉ blkA M.ca := fun b hbA hy => by
    rcases hb b hbA with z | z
    · exact h.nd.tc b z hy
    · have := oca b hy; omega
  have oim : ∀ b ∈ blkA M.im, b < w.heap.size := fun b hb => hlt b (by simp [mown, mblocks, hb])
  have kim : ∀ b ∈ blkA M.im, ¬ (b ∈ blkA M.tx ∨ b = p) := fun b hb hx => by
    rcases hx with hx | rfl
    · exact (fun b hb hx => h.nd.ti b hx hb) b hb hx
    · exact h.nd.pi hb
  have aim : ∀ b ∈ blkA A, b ∉ blkA M.im := fun b hbA hy => by
    rcases hb b hbA with z | z
    · exact h.nd.ti b z hy
    · have := oim b hy; omega
  refine ⟨{ M with tx := A, txc := c }, fun b hb' => ?_, ⟨(h.bk.keep hf (fun hx => h.nd.pt hx)).set 15 _, orow_keep h.rx hf2 krx, ?_, orow_keep h.ca hf2 kca, orow_keep h.im hf2 kim, ?_, { h.ok with }, h.rxl, hq, h.all.keep hf2 ?_, fun b hb' => ?_, h.dk, h.ip⟩, hf2.mono fun b _ hb' => ?_⟩
  · simp only [mown, mblocks, List.mem_cons, List.mem_append] at hb' ⊢
    rcases hb' with y | y | y | y | y
    · exact .inl (.inl y)
    · simp [y]
    · rcases hb b y with z | z
      · simp [z]
      · exact .inr z
    · simp [y]
    · simp [y]
  · refine orow_keep (S := oneB p) hA ((Fr.refl (oneB p) w').setCell (p := ⟨p, 15, Option.none⟩) (fun _ => rfl) _) fun b hb' e => hpA ?_
    have e' : b = p := e
    exact e' ▸ hb'
  · exact ⟨h.nd.pr, hpA, h.nd.pc, h.nd.pi, fun b hb hx => arx b hx hb, h.nd.rc, h.nd.ri, aca, aim, h.nd.ci⟩
  · rintro (hx | hx)
    · exact h.ga _ (by simp [mown, mblocks, hx]) rfl
    · exact h.ga p (mown_p p M) hx.symm
  · simp only [mown, mblocks, List.mem_cons, List.mem_append] at hb'
    rcases hb' with y | y | y | y | y
    · exact h.ga b (by simp [mown, mblocks, y])
    · exact h.ga b (by simp [mown, mblocks, y])
    · rcases hb b y with z | z
      · exact h.ga b (by simp [mown, mblocks, z])
      · omega
    · exact h.ga b (by simp [mown, mblocks, y])
    · exact h.ga b (by simp [mown, mblocks, y])
  · rcases hb' with y | rfl
    · simp [mown, mblocks, y]
    · exact mown_p _ _
end Go.Proofs.YtcbkaiakdhiloabGreatDoor
namespace Go.Proofs.YtcbkaiakdhiloabGreatDoor
open Go.RowKit Go.Proofs
section
variable {P : Program} (w : World)
def partV (P : Program) (e : TypeId) (xs : Array Value) (off : Nat) : Option Value :=
  match P.underlying e with
  | some (.struct _) => some (.agg (xs.extract off (off + P.cellsOf e)))
  | some (.array _ _) => some (.agg (xs.extract off (off + P.cellsOf e)))
  | some _ => xs[off]?
  | none => none
theorem run_partV {e : TypeId} {xs : Array Value} {off : Nat} {a : Value} (h : partV P e xs off = some a) : (part e xs off).run P w = .ok a w := by
  unfold partV at h
  cases hu : P.underlying e with
  | none => simp [hu] at h
  | some kd =>
    obtain ⟨i, hi⟩ := info_of_underlying hu
    cases kd <;> simp [hu] at h <;> first | (subst h; simp [part, isAgg, run_underlying hu, run_sizeOf w hi]) | simp [part, isAgg, run_underlying hu, h]
def selfEq (P : Program) : Nat → TypeId → Value → Bool
  | 0, _, _ => false
  | m + 1, t, v => match P.underlying t, v with
    | some .bool, .bool _ => true
    | some (.int _), .int _ _ => true
    | some .string, .string _ => true
    | some (.array n e), .agg xs => (P.info? e).isSome && (List.range n).all fun i => match partV P e xs (i * P.cellsOf e) with | some a => selfEq P m e a | none => false
    | some (.struct fs), .agg xs => !P.stoodInHeld t && fs.toList.all fun f => f.name == "_" || match partV P f.type xs f.offset with | some a => selfEq P m f.type a | none => false
    | _, _ => false
theorem eqItems_self (d : Nat) {e : TypeId} {c : Nat} {xs : Array Value} : ∀ (is : List Nat),
    (∀ i ∈ is, ∃ a, partV P e xs (i * c) = some a ∧ (Op.equalIn d e a a).run P w = .ok true w) → (Op.eqItems d e c xs xs is).run P w = .ok true w
  | [], _ => by simp [Op.eqItems]
  | i :: is, h => by
    obtain ⟨a, h1, h2⟩ := h i (by simp)
    simp only [Op.eqItems, Sem.run_bind, run_partV w h1, h2, Result.andThen_ok, Bool.not_true, Bool.false_eq_true, if_false]
    exact eqItems_self d is fun j hj => h j (by simp [hj])
theorem eqFields_self (d : Nat) {xs : Array Value} : ∀ (fs : List Field),
    (∀ f ∈ fs, f.name = "_" ∨ ∃ a, partV P f.type xs f.offset = some a ∧ (Op.equalIn d f.type a a).run P w = .ok true w) → (Op.eqFields d xs xs fs).run P w = .ok true w
  | [], _ => by simp [Op.eqFields]
  | f :: fs, h => by
    have ih := eqFields_self d fs fun g hg => h g (by simp [hg])
    unfold Op.eqFields
    rw [Sem.run_ite]
    split
    · next hn =>
      rcases h f (by simp) with h0 | ⟨a, h1, h2⟩
      · exact absurd h0 hn
      · simp only [Sem.run_bind, run_partV w h1, h2, Result.andThen_ok, Bool.not_true, Bool.false_eq_true, if_false]
        exact ih
    · exact ih
theorem equalIn_self (d : Nat) : ∀ (m : Nat) (t : TypeId) (v : Value), selfEq P m t v = true → (Op.equalIn (d + m) t v v).run P w = .ok true w
  | 0, t, v, h => by simp [selfEq] at h
  | m + 1, t, v, h => by
    unfold selfEq at h
    cases hu : P.underlying t with
    | none => simp [hu] at h
    | some kd =>
      simp only [hu] at h
      rw [show d + (m + 1) = (d + m) + 1 from rfl]
      have h0 := h
      cases kd <;> cases v <;> simp at h
      · rw [run_equalIn_bool' w (d + m) t _ _ hu]; simp
      · rw [run_equalIn_int w (d + m) t _ _ _ _ hu]; simp
      · rw [run_equalIn_string w (d + m) t _ _ hu]; simp
      · next n e xs =>
        obtain ⟨i, hi⟩ := Option.isSome_iff_exists.1 h.1
        rw [run_equalIn_array w (d + m) xs xs hu hi]
        refine eqItems_self w (d + m) _ fun j hj => ?_
        have h2 := h.2 j (by simpa using hj)
        cases hp : partV P e xs (j * P.cellsOf e) with
        | none => simp [hp] at h2
        | some a => rw [hp] at h2; exact ⟨a, rfl, equalIn_self d m e a h2⟩
      · next fs xs =>
        have hf : P.fieldsOf t = fs := by unfold Program.fieldsOf; rw [hu]
        rw [run_equalIn_struct w (d + m) t xs xs (by rw [hf]; exact hu) h.1, hf]
        refine eqFields_self w (d + m) _ fun f hfm => ?_
        simp only [Bool.and_eq_true] at h0
        have h2 := List.all_eq_true.1 h0.2 f hfm
        simp only [Bool.or_eq_true, beq_iff_eq] at h2
        rcases h2 with h2 | h2
        · exact .inl h2
        · refine .inr ?_
          cases hp : partV P f.type xs f.offset with
          | none => simp [hp] at h2
          | some a => rw [hp] at h2; exact ⟨a, rfl, equalIn_self d m f.type a h2⟩
theorem eql_self {t : TypeId} {xs : Array Value} (h : selfEq P 8 t (.agg xs) = true) : (binOp .eql t (.agg xs) (.agg xs)).run P w = .ok (.bool true) w := by
  rw [run_eql_struct w t xs xs, show (10000 : Nat) = 9992 + 8 from rfl, equalIn_self w 9992 8 t (.agg xs) h]; rfl
end
end Go.Proofs.YtcbkaiakdhiloabGreatDoor
namespace Go.Proofs.YtcbkaiakdhiloabGreatDoor
open Go.RowKit Go.Proofs
theorem eqItems_step {P : Program} (w : World) (d : Nat) {e : TypeId} {c : Nat} {xs ys : Array Value} {i : Nat} {is : List Nat} (a b : UInt8) (hu : P.underlying e = some (.int .u8))
    (h1 : partV P e xs (i * c) = some (.int .u8 (a.toNat : Int))) (h2 : partV P e ys (i * c) = some (.int .u8 (b.toNat : Int))) :
    (Op.eqItems (d + 1) e c xs ys (i :: is)).run P w = if a = b then (Op.eqItems (d + 1) e c xs ys is).run P w else .ok false w := by
  simp only [Op.eqItems, Sem.run_bind, run_partV w h1, run_partV w h2, Result.andThen_ok, run_equalIn_int w d e _ _ _ _ hu]
  by_cases h : a = b
  · subst h
    simp
  · have : ((a.toNat : Int) == (b.toNat : Int)) = false := by
      rw [beq_eq_false_iff_ne]; intro x; exact h (UInt8.toNat_inj.1 (by omega))
    simp [this, h]
def macA (a : Mac) : Array Value := #[.int .u8 (a.1.toNat : Int), .int .u8 (a.2.1.toNat : Int), .int .u8 (a.2.2.1.toNat : Int), .int .u8 (a.2.2.2.1.toNat : Int), .int .u8 (a.2.2.2.2.1.toNat : Int), .int .u8 (a.2.2.2.2.2.toNat : Int)]
theorem mac_run (a b : Mac) (w : World) : (Op.equalIn 10000 23 (.agg (macA a)) (.agg (macA b))).run Tryz.prog w = .ok (decide (a = b)) w := by
  obtain ⟨a0, a1, a2, a3, a4, a5⟩ := a
  obtain ⟨b0, b1, b2, b3, b4, b5⟩ := b
  obtain ⟨i, hi⟩ := info_of_underlying (P := Tryz.prog) Tryz.underlying5
  have hp : ∀ (xs : Array Value) (k : Nat), partV Tryz.prog 5 xs k = xs[k]? := fun xs k => by unfold partV; rw [Tryz.underlying5]
  have hc : Tryz.prog.cellsOf 5 = 1 := by kernel_rfl
  rw [show (10000 : Nat) = 9998 + 1 + 1 from rfl, run_equalIn_array w (9998 + 1) _ _ Tryz.underlying23 hi, hc]
  simp only [show (List.range 6) = [0, 1, 2, 3, 4, 5] from rfl]
  rw [eqItems_step w 9998 a0 b0 Tryz.underlying5 (by rw [hp]; rfl) (by rw [hp]; rfl), eqItems_step w 9998 a1 b1 Tryz.underlying5 (by rw [hp]; rfl) (by rw [hp]; rfl),
    eqItems_step w 9998 a2 b2 Tryz.underlying5 (by rw [hp]; rfl) (by rw [hp]; rfl), eqItems_step w 9998 a3 b3 Tryz.underlying5 (by rw [hp]; rfl) (by rw [hp]; rfl),
    eqItems_step w 9998 a4 b4 Tryz.underlying5 (by rw [hp]; rfl) (by rw [hp]; rfl), eqItems_step w 9998 a5 b5 Tryz.underlying5 (by rw [hp]; rfl) (by rw [hp]; rfl)]
  simp only [Op.eqItems, Sem.run_pure, Prod.mk.injEq]
  by_cases h0 : a0 = b0 <;> simp [h0]
  by_cases h1 : a1 = b1 <;> simp [h1]
  by_cases h2 : a2 = b2 <;> simp [h2]
  by_cases h3 : a3 = b3 <;> simp [h3]
  by_cases h4 : a4 = b4 <;> simp [h4]
  by_cases h5 : a5 = b5 <;> simp [h5]
theorem mac_eql (a b : Mac) (w : World) : (binOp .eql 23 (.agg (macA a)) (.agg (macA b))).run Tryz.prog w = .ok (.bool (decide (a = b))) w := by
  rw [run_eql_struct w _ _ _, mac_run]; rfl
theorem mac_neq (a b : Mac) (w : World) : (binOp .neq 23 (.agg (macA a)) (.agg (macA b))).run Tryz.prog w = .ok (.bool (decide (a ≠ b))) w := by
  rw [run_neq_struct w _ _ _, mac_run]
  simp [Result.andThen]
theorem mac_guard : Tryz.prog.eqGuardType Tryz.prog.depth 23 = false := by kernel_rfl
end Go.Proofs.YtcbkaiakdhiloabGreatDoor
