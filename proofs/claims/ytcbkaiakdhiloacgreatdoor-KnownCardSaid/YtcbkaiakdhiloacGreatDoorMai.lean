/- Parts of the walk; written by programs, merged. -/
import Derived.Test.YtcbkaiakdhiloacGreatDoorMah
import Derived.Maps.RangeWalk
set_option linter.unusedSimpArgs false
set_option linter.unusedVariables false
set_option maxRecDepth 20000
set_option maxHeartbeats 8000000
namespace Go.Proofs.YtcbkaiakdhiloacGreatDoor
open Go.RowKit Go.Proofs
attribute [local go_sem] bs_size bs_append bs_extract bs_toList
theorem Fr.ofDrew {w : World} (n : Nat) : Fr noB w (w.drewN n) := (Fr.refl _ _).drewN n
theorem bootWait (L : Lay) (s : St) (k : Nat) (hk : k ≤ 4) (w : World) (h : BootAt w L s) :
    Calls Tryz.prog 46 #[.pointer (some ⟨L.p, 0, none⟩), .int .i64 (k : Int)] w fun e w' => e = .returned (.int .i64 (s.wait k)) ∧ Fr noB w w' := by
  have c17 := h.g17
  have hd := h.ok.draw
  have hw : ∀ k : Nat, s.wait k = ((2 * 2 ^ k + s.draw % 3 : Nat) : Int) - 1 := fun _ => rfl
  rw [hw]
  clear hw
  match k, hk with
  | 0, _ =>
    go_enter Tryz.func46, Tryz.ntmps46
    go_wp2
    go_quiet (fail)
    go_wp2
    go_ret
    exact ⟨by first | rfl | (congr 2; omega), Fr.ofDrew _⟩
  | 1, _ =>
    go_enter Tryz.func46, Tryz.ntmps46
    go_wp2
    go_quiet (fail)
    go_wp2
    go_ret
    exact ⟨by first | rfl | (congr 2; omega), Fr.ofDrew _⟩
  | 2, _ =>
    go_enter Tryz.func46, Tryz.ntmps46
    go_wp2
    go_quiet (fail)
    go_wp2
    go_ret
    exact ⟨by first | rfl | (congr 2; omega), Fr.ofDrew _⟩
  | 3, _ =>
    go_enter Tryz.func46, Tryz.ntmps46
    go_wp2
    go_quiet (fail)
    go_wp2
    go_ret
    exact ⟨by first | rfl | (congr 2; omega), Fr.ofDrew _⟩
  | 4, _ =>
    go_enter Tryz.func46, Tryz.ntmps46
    go_wp2
    go_quiet (fail)
    go_wp2
    go_ret
    exact ⟨by first | rfl | (congr 2; omega), Fr.ofDrew _⟩
theorem bootOver (L : Lay) (s : St) (w : World) (h : BootAt w L s) :
    Calls Tryz.prog 40 #[.pointer (some ⟨L.p, 0, none⟩)] w fun e w' => e = .returned (.bool s.over) ∧ w = w' := by
  have c33 := h.g33
  unfold St.over
  by_cases h3 : s.phase = 3
  · have e3 : (s.phase : Int) = 3 := by omega
    have e4 : (s.phase == 3 || s.phase == 4) = true := by simp [h3]
    rw [e4]
    clear h3 e4
    go_enter Tryz.func40, Tryz.ntmps40
    go_wp2_with fail
    go_ret
    exact ⟨rfl, rfl⟩
  · have e3 : ((s.phase : Int) == 3) = false := by rw [beq_eq_false_iff_ne]; omega
    by_cases h4 : s.phase = 4
    · have e4 : (s.phase : Int) = 4 := by omega
      have e5 : (s.phase == 3 || s.phase == 4) = true := by simp [h4]
      rw [e5]
      clear h3 h4 e5 e3
      go_enter Tryz.func40, Tryz.ntmps40
      go_wp2_with fail
      go_ret
      exact ⟨rfl, rfl⟩
    · have e4 : ((s.phase : Int) == 4) = false := by rw [beq_eq_false_iff_ne]; omega
      have e5 : (s.phase == 3 || s.phase == 4) = false := by simp [h3, h4]
      rw [e5]
      clear h3 h4 e5
      go_enter Tryz.func40, Tryz.ntmps40
      go_wp2_with fail
      go_ret
      exact ⟨rfl, rfl⟩
theorem bootAddress (L : Lay) (s : St) (w : World) (h : BootAt w L s) :
    Calls Tryz.prog 36 #[.pointer (some ⟨L.p, 0, none⟩)] w fun e w' => e = .returned (.int .u32 (s.address : Int)) ∧ w = w' := by
  have c21 := h.g21
  have c23 := h.g23
  unfold St.address
  by_cases h4 : 4 ≤ s.lease
  · have e4 : ¬ (s.lease : Int) < 4 := by omega
    rw [if_pos h4]
    clear h4
    go_enter Tryz.func36, Tryz.ntmps36
    go_wp2_with fail
    go_ret
    exact ⟨rfl, rfl⟩
  · have e4 : (s.lease : Int) < 4 := by omega
    rw [if_neg h4]
    clear h4
    go_enter Tryz.func36, Tryz.ntmps36
    go_wp2_with fail
    go_ret
    exact ⟨rfl, rfl⟩
theorem bootSendL (L : Lay) (s : St) (m0 m1 m2 m3 m4 m5 : UInt8) (kind : Nat) (ld : List UInt8) (w : World) (h : BootAt w L s) (hkd : kind < 65536) (hld : ld.length ≤ 9223372036854775807) :
    Calls Tryz.prog 130 #[.pointer (some ⟨L.p, 0, none⟩), .agg #[.int .u8 (m0.toNat : Int), .int .u8 (m1.toNat : Int), .int .u8 (m2.toNat : Int), .int .u8 (m3.toNat : Int), .int .u8 (m4.toNat : Int), .int .u8 (m5.toNat : Int)], .int .u16 (kind : Int), .string (bs ld)] w (LPost L (s.send (m0, m1, m2, m3, m4, m5) kind ld) (.tuple #[]) w) := by
  have hf1 : Fr noB w (w.alloc (.cells #[.int .u8 (m0.toNat : Int), .int .u8 (m1.toNat : Int), .int .u8 (m2.toNat : Int), .int .u8 (m3.toNat : Int), .int .u8 (m4.toNat : Int), .int .u8 (m5.toNat : Int)] 26)) := (Fr.refl _ _).alloc _
  have hB1 := h.none hf1
  have hg1 := Bk.new w 26 #[.int .u8 (m0.toNat : Int), .int .u8 (m1.toNat : Int), .int .u8 (m2.toNat : Int), .int .u8 (m3.toNat : Int), .int .u8 (m4.toNat : Int), .int .u8 (m5.toNat : Int)]
  obtain ⟨g, hg⟩ : ∃ g, w.heap.size = g := ⟨_, rfl⟩
  rw [hg] at hg1
  have Hg := Lib.hid hg
  clear hg
  go_enter Tryz.func130, Tryz.ntmps130
  go_upto_region 1 with fail
  rw [Hg.out]
  generalize w.alloc (.cells #[.int .u8 (m0.toNat : Int), .int .u8 (m1.toNat : Int), .int .u8 (m2.toNat : Int), .int .u8 (m3.toNat : Int), .int .u8 (m4.toNat : Int), .int .u8 (m5.toNat : Int)] 26) = w1 at *
  refine wp_region_pls (by kernel_rfl) (fun w' => BootAt w' L s ∧ Bk w' g 26 #[.int .u8 (m0.toNat : Int), .int .u8 (m1.toNat : Int), .int .u8 (m2.toNat : Int), .int .u8 (m3.toNat : Int), .int .u8 (m4.toNat : Int), .int .u8 (m5.toNat : Int)] ∧ Fr noB w w') [] (.p 1 (.p 2 (.p 3 (.p 4 (.p 6 (.p 7 (.q 0 (.q 5 (.p 8 (.e 9 (.p 10 (.p 11 (.p 12 (.p 13 (.p 14 .nil))))))))))))))) (by kernel_rfl) (⟨hB1.drew, hg1.drew, hf1.drew⟩) ?_
  intro ops Q' hO hQ' wr1 hR1
  iterate 6 (refine pl_p0 hO rfl rfl ?_ (fun w' => ?_) ?_; rotate_left 1; (focus (go_simp; ((try with_reducible rfl); done))); simp only [Act.put, List.setIfInBounds_toArray, List.set_cons_zero, List.set_cons_succ])
  iterate 2 (refine pl_q0 hO rfl rfl ?_ (fun w' hS => ?_) ?_; rotate_left 1; (focus (obtain ⟨hB, hG, hF⟩ := hS; have hGc := hG.cells; have c0 := hB.g0; have c1 := hB.g1; have c2 := hB.g2; have c3 := hB.g3; have c4 := hB.g4; have c5 := hB.g5; go_simp; ((try with_reducible rfl); done))); simp only [Act.put, List.setIfInBounds_toArray, List.set_cons_zero, List.set_cons_succ])
  refine pl_p0 hO rfl rfl ?_ (fun w' => ?_) ?_; rotate_left 1; (focus (go_simp; ((try with_reducible rfl); done))); simp only [Act.put, List.setIfInBounds_toArray, List.set_cons_zero, List.set_cons_succ]
  refine pl_e0 hO rfl rfl rfl (fun K hK => ?_)
  go_simp
  refine (packetWriteEther kind ld m0 m1 m2 m3 m4 m5 s.c.card.1 s.c.card.2.1 s.c.card.2.2.1 s.c.card.2.2.2.1 s.c.card.2.2.2.2.1 s.c.card.2.2.2.2.2 _ hkd hld).mono ?_
  rintro e w2 ⟨rfl, f2⟩
  refine hK _ _ (⟨hR1.1.none f2, hR1.2.1.keep f2 (fun x => x), hR1.2.2.none f2⟩) (fun hR_9 => ?_)
  clear hK K
  iterate 5 (refine pl_p0 hO rfl rfl ?_ (fun w' => ?_) ?_; rotate_left 1; (focus (go_simp; ((try with_reducible rfl); done))); simp only [Act.put, List.setIfInBounds_toArray, List.set_cons_zero, List.set_cons_succ])
  refine pl_nil (hQ' _ _ ?_)
  obtain ⟨hB2, hg2, hf2⟩ := hR_9
  have c14 := hB2.g14
  clear hR1 hB1 hg1 hf1 f2
  obtain ⟨i, cs, hrr, hrg, hrs, hri, hql, hne, hso⟩ := id hB2.tx
  clear hrr hrg hrs hri hne hso i cs
  have hrp := ringPut L.tx L.txs s.c.tx s.tx (wrEther (m0, m1, m2, m3, m4, m5) s.c.card kind ld).1 w2 hB2.ok.tx0 (by have := hB2.ok.tx1; omega) hB2.tx
  unfold putPost at hrp
  obtain ⟨fb, hfb⟩ : ∃ fb, (wrEther (m0, m1, m2, m3, m4, m5) s.c.card kind ld).1 = fb := ⟨_, rfl⟩
  have hsd : s.send (m0, m1, m2, m3, m4, m5) kind ld = if s.tx.length = s.c.tx then { s with lost := wrap64 (s.lost + 1) } else { s with tx := s.tx ++ [fb] } := by unfold St.send; rw [hfb]
  have Hsd := Lib.hid hsd
  have hfb' : (wrEther (m0, m1, m2, m3, m4, m5) (s.c.card.1, s.c.card.2.1, s.c.card.2.2.1, s.c.card.2.2.2.1, s.c.card.2.2.2.2.1, s.c.card.2.2.2.2.2) kind ld).1 = fb := hfb
  rw [hfb] at hrp
  rw [hfb']
  clear hsd hfb hfb'
  have hF2 : Fr (own' L) w w2 := hf2.of_no _
  by_cases hfull : s.tx.length = s.c.tx
  · have hnl : ¬ s.tx.length < s.c.tx := by omega
    rw [decide_eq_false hnl, if_neg hnl] at hrp
    have Hfull := Lib.hid hfull
    have Hrp := Lib.hid hrp
    clear hrp hnl hfull hql
    go_wp2_with fail
    refine Hrp.out.mono ?_
    rintro e w3 ⟨rfl, hr3, hf3⟩
    have hB3 := hB2.txTurn hf3 hr3
    have hF3 := hF2.trans (hf3.mono fun b _ hb => by rcases hb with rfl | rfl; exact own_tx L; exact own_txs L)
    have c19 := hB3.g19
    have hfz := hB3.fr
    clear c14
    go_wp2_with fail
    refine bodyPost_end (results_none rfl _ _ _) rfl ⟨rfl, ?_, ?_⟩
    · rw [Hsd.out, if_pos Hfull.out]
      exact hB3.turn _ ((Fr.refl (oneB L.p) w3).setCell (p := ⟨L.p, 19, none⟩) (fun _ => rfl) _) (hB3.bk.set 19 _) rfl rfl rfl rfl rfl { hB3.ok with }
    · exact hF3.setCell (p := ⟨L.p, 19, none⟩) (fun _ => own_p L) _
  · have hnl : s.tx.length < s.c.tx := by omega
    rw [decide_eq_true hnl, if_pos hnl] at hrp
    have Hfull := Lib.hid hfull
    have Hrp := Lib.hid hrp
    clear hrp hnl hfull hql
    go_wp2_with fail
    refine Hrp.out.mono ?_
    rintro e w3 ⟨rfl, hr3, hf3⟩
    have hB3 := hB2.txTurn hf3 hr3
    have hF3 := hF2.trans (hf3.mono fun b _ hb => by rcases hb with rfl | rfl; exact own_tx L; exact own_txs L)
    clear c14
    go_wp2_with fail
    exact bodyPost_end (results_none rfl _ _ _) rfl ⟨rfl, by rw [Hsd.out, if_neg Hfull.out]; exact hB3, hF3⟩
end Go.Proofs.YtcbkaiakdhiloacGreatDoor
namespace Go.Proofs.YtcbkaiakdhiloacGreatDoor
open Go.RowKit Go.Proofs
attribute [local go_sem] bs_size bs_append bs_extract bs_toList
theorem wrUDP_len (fm tp fi ti : Nat) (ld : List UInt8) : (wrUDP fm tp fi ti ld).1.length ≤ 1480 := by
  unfold wrUDP
  split
  · simp
  · simp [udpWith, udpA, big_length]; omega
theorem bootPacketL (L : Lay) (s : St) (dst fm port : Nat) (ld : List UInt8) (w : World) (h : BootAt w L s) (hdst : dst < 4294967296) (hfm : fm < 65536) (hport : port < 65536) (hld : ld.length ≤ 4611686018427387000) :
    Calls Tryz.prog 140 #[.pointer (some ⟨L.p, 0, none⟩), .int .u32 (dst : Int), .int .u16 (fm : Int), .int .u16 (port : Int), .string (bs ld)] w (LPost L s.took (.string (bs (s.packet dst fm port ld))) w) := by
  have hadr : s.address < 4294967296 := by unfold St.address; split; exact h.ok.addr; omega
  go_enter Tryz.func140, Tryz.ntmps140
  go_wp2_with fail
  refine (bootAddress L s w h).mono ?_
  rintro e w1 ⟨rfl, rfl⟩
  go_wp2_with fail
  refine (packetWriteUDP fm port s.address dst ld w hfm hport hadr hdst hld).mono ?_
  rintro e w2 ⟨rfl, f2⟩
  have hB2 := h.none f2
  have hF2 : Fr noB w w2 := f2
  have hub := wrUDP_len fm port s.address dst ld
  have hpk : s.packet dst fm port ld = (wrIP (s.id % 65536) 64 17 s.address dst (wrUDP fm port s.address dst ld).1).1 := rfl
  obtain ⟨ub, hube⟩ : ∃ ub, (wrUDP fm port s.address dst ld).1 = ub := ⟨_, rfl⟩
  obtain ⟨idn, hide⟩ : ∃ idn, (s.id % 65536) = idn := ⟨_, rfl⟩
  rw [hube, hide] at hpk
  rw [hube] at hub ⊢
  have hidn : idn < 65536 := by omega
  have hub2 : ub.length ≤ 9223372036854775807 := by omega
  have Hpk := Lib.hid hpk
  have Hide := Lib.hid hide
  clear hpk hube hide
  go_upto_region 2 with fail
  refine wp_region_pls (by kernel_rfl) (fun w' => BootAt w' L s ∧ Fr noB w w') [] (.p 0 (.p 1 (.p 2 (.p 4 (.p 6 (.p 7 (.q 3 (.e 5 (.p 8 (.e 9 (.p 10 (.p 11 (.p 12 (.p 13 (.p 14 .nil))))))))))))))) (by kernel_rfl) (⟨hB2.drew, hF2.drew⟩) ?_
  intro ops Q' hO hQ' wr1 hR1
  iterate 6 (refine pl_p0 hO rfl rfl ?_ (fun w' => ?_) ?_; rotate_left 1; (focus (go_simp; ((try with_reducible rfl); done))); simp only [Act.put, List.setIfInBounds_toArray, List.set_cons_zero, List.set_cons_succ])
  refine pl_q0 hO rfl rfl ?_ (fun w' hS => ?_) ?_; rotate_left 1; (focus (obtain ⟨hB, hF⟩ := hS; have c20 := hB.g20; rw [Hide.out] at c20; go_simp; ((try with_reducible rfl); done))); simp only [Act.put, List.setIfInBounds_toArray, List.set_cons_zero, List.set_cons_succ]
  refine pl_e0 hO rfl rfl rfl (fun K hK => ?_)
  go_simp
  refine (bootAddress L s _ hR1.1).mono ?_
  rintro e w3 ⟨rfl, rfl⟩
  refine hK _ _ (hR1) (fun hR_5 => ?_)
  clear hK K
  refine pl_p0 hO rfl rfl ?_ (fun w' => ?_) ?_; rotate_left 1; (focus (go_simp; ((try with_reducible rfl); done))); simp only [Act.put, List.setIfInBounds_toArray, List.set_cons_zero, List.set_cons_succ]
  refine pl_e0 hO rfl rfl rfl (fun K hK => ?_)
  go_simp
  refine (packetWriteIP idn s.address dst 64 17 ub _ hidn hadr hdst hub2).mono ?_
  rintro e w4 ⟨rfl, f4⟩
  refine hK _ _ (⟨hR_5.1.none f4, hR_5.2.none f4⟩) (fun hR_9 => ?_)
  clear hK K
  iterate 5 (refine pl_p0 hO rfl rfl ?_ (fun w' => ?_) ?_; rotate_left 1; (focus (go_simp; ((try with_reducible rfl); done))); simp only [Act.put, List.setIfInBounds_toArray, List.set_cons_zero, List.set_cons_succ])
  refine pl_nil (hQ' _ _ ?_)
  obtain ⟨hB4, hF4⟩ := hR_9
  have c20 := hB4.g20
  rw [Hide.out] at c20
  have hfz := hB4.fr
  clear hR1 hR_5 f4 hB2 hF2
  go_wp2_with fail
  have hval : IntKind.u16.wrap ((idn : Int) + 1) = (((s.id + 1) % 65536 : Nat) : Int) := by have := Hide.out; rw [IntKind.wrap_u16]; omega
  have e : (bootC s L).setIfInBounds 20 (.int .u16 (IntKind.u16.wrap ((idn : Int) + 1))) = bootC s.took L := by rw [hval]; rfl
  go_ret
  refine ⟨by rw [Hpk.out]; rfl, ?_, ?_⟩
  · exact hB4.turn s.took ((Fr.refl (oneB L.p) w4).setCell (p := ⟨L.p, 20, none⟩) (fun _ => rfl) _) (e ▸ hB4.bk.set 20 _) rfl rfl rfl rfl rfl { hB4.ok with }
  · exact (hF4.of_no _).setCell (p := ⟨L.p, 20, none⟩) (fun _ => own_p L) _
end Go.Proofs.YtcbkaiakdhiloacGreatDoor
namespace Go.Proofs.YtcbkaiakdhiloacGreatDoor
open Go.RowKit Go.Proofs Go.Maps
theorem ipL_inj {a b : Nat} (h : ipL a = ipL b) : a = b := by
  unfold ipL at h
  injection h with _ h
  omega
theorem ipL_key (a : Nat) : WideAt.IsKeyLit (ipL a) := trivial
theorem Rep.nil : Rep (.map [] : DataW Unit) [] := ⟨by simp, by simp, by intro ip; rfl, by simp, rfl, tidy_empty⟩
theorem Rep.perm {D : DataW Unit} {l l' : List EntD} (h : Rep D l) (hp : l.Perm l') : Rep D l' where
  nd := (hp.map _).nodup_iff.1 h.nd
  lt := fun e he => h.lt e (hp.mem_iff.2 he)
  has := fun ip => by
    rw [h.has ip, Bool.eq_iff_iff, List.any_eq_true, List.any_eq_true]
    exact ⟨fun ⟨x, hx, hb⟩ => ⟨x, hp.mem_iff.1 hx, hb⟩, fun ⟨x, hx, hb⟩ => ⟨x, hp.mem_iff.2 hx, hb⟩⟩
  at_ := fun e he => h.at_ e (hp.mem_iff.2 he)
  size := by rw [h.size, hp.length_eq]
  tidy := h.tidy
theorem any_ip (l : List EntD) (ip : Nat) : (l.any fun e => e.ip == ip) = true ↔ ip ∈ l.map (·.ip) := by
  rw [List.any_eq_true, List.mem_map]
  exact ⟨fun ⟨x, hx, hb⟩ => ⟨x, hx, by simpa using hb⟩, fun ⟨x, hx, hb⟩ => ⟨x, hx, by simpa using hb⟩⟩
theorem find_some {l : List EntD} {ip : Nat} {e : EntD} (h : find l ip = some e) : e ∈ l ∧ e.ip = ip := ⟨List.mem_of_find?_eq_some h, by have := List.find?_some h; simpa using this⟩
theorem Rep.old {D : DataW Unit} {l : List EntD} {e : EntD} (h : Rep D l) (hm : e.ip ∈ l.map (·.ip)) : Rep (D.put (ipL e.ip) (entDat e)) (setEnt l e.ip fun _ => e) where
  nd := by
    have : (setEnt l e.ip fun _ => e).map (·.ip) = l.map (·.ip) := by
      unfold setEnt; rw [List.map_map]; apply List.map_congr_left; intro x _; simp only [Function.comp]; split <;> simp_all
    rw [this]; exact h.nd
  lt := fun x hx => by
    unfold setEnt at hx
    obtain ⟨y, hy, rfl⟩ := List.mem_map.1 hx
    split
    · obtain ⟨z, hz, e'⟩ := List.mem_map.1 hm; rw [← e']; exact h.lt z hz
    · exact h.lt y hy
  has := fun ip => by
    have e1 : ((setEnt l e.ip fun _ => e).any fun x => x.ip == ip) = l.any fun x => x.ip == ip := by
      unfold setEnt; rw [List.any_map]; congr 1; funext x; simp only [Function.comp]; split <;> simp_all
    rw [e1]
    by_cases hi : ip = e.ip
    · subst hi; rw [has_put_same h.tidy.isMap (ipL_key _)]; exact ((any_ip l _).2 hm).symm
    · rw [has_put_other (fun x => hi (ipL_inj x)), h.has ip]
  at_ := fun x hx z => by
    unfold setEnt at hx
    obtain ⟨y, hy, rfl⟩ := List.mem_map.1 hx
    split
    · exact atKey_put_same h.tidy.isMap (ipL_key _) _ _
    · next hne => rw [atKey_put_other (fun q => hne (ipL_inj q))]; exact h.at_ y hy z
  size := by
    rw [size_put h.tidy, h.has, if_pos ((any_ip l _).2 hm), h.size]; simp [setEnt]
  tidy := h.tidy.put (ipL_key _) _
theorem Rep.del {D : DataW Unit} {l : List EntD} (h : Rep D l) (ip : Nat) : Rep (D.del (ipL ip)) (l.filter fun e => e.ip != ip) where
  nd := (List.filter_sublist.map _).nodup h.nd
  lt := fun e he => h.lt e (List.mem_filter.1 he).1
  has := fun i => by
    rw [List.any_filter]
    by_cases hi : i = ip
    · subst hi; rw [has_del_same]; symm; rw [List.any_eq_false]; intro x _; simp
    · rw [has_del_other (fun x => hi (ipL_inj x)), h.has i]
      congr 1; funext x
      by_cases hx : x.ip = i
      · simp [hx, hi]
      · simp [hx]
  at_ := fun e he z => by
    have h1 := List.mem_filter.1 he
    have hne : e.ip ≠ ip := by simpa using h1.2
    rw [atKey_del_other (fun x => hne (ipL_inj x))]; exact h.at_ e h1.1 z
  size := by
    have h1 := size_del (k := ipL ip) h.tidy
    rw [h.has, h.size] at h1
    have key : ∀ l : List EntD, (l.map (·.ip)).Nodup → (l.filter fun e => e.ip != ip).length + (if (l.any fun e => e.ip == ip) = true then 1 else 0) = l.length := by
      intro l
      induction l with
      | nil => intro _; rfl
      | cons x r ih =>
        intro hn
        rw [List.map_cons, List.nodup_cons] at hn
        have := ih hn.2
        by_cases hx : x.ip = ip
        · have h0 : (r.any fun e => e.ip == ip) = false := by
            rw [Bool.eq_false_iff]; intro h2; exact hn.1 (hx ▸ (any_ip r ip).1 h2)
          rw [h0] at this
          simp only [List.filter_cons, hx, bne_self_eq_false, Bool.false_eq_true, if_false, List.any_cons, beq_self_eq_true, Bool.true_or, if_true, List.length_cons] at this ⊢
          omega
        · have hb : (x.ip == ip) = false := by simpa using hx
          simp only [List.filter_cons, bne, hb, Bool.not_false, if_true, List.any_cons, Bool.false_or, List.length_cons] at this ⊢
          omega
    have := key l h.nd
    omega
  tidy := h.tidy.del _
theorem tight {w : World} {b n : Nat} {D : DataW Unit} (h : w.ownsMap Tryz.prog 38 entR b n D) : w.ownsMap Tryz.prog 38 entR b (Maps.size D) D := by
  obtain ⟨es, c, h1, h2, h3, h4⟩ := h
  refine ⟨es, c, h1, h2, ?_, h4⟩
  rw [h4]
  show es.size ≤ ((es.toList.map _).foldr DataW.insert []).length
  rw [length_sorted]; simp
theorem MapAt.of {w : World} {b n : Nat} {D : DataW Unit} {l : List EntD} (h : w.ownsMap Tryz.prog 38 entR b n D) (hr : Rep D l) : MapAt w b l := ⟨D, by rw [← hr.size]; exact tight h, hr⟩
/-! the one whose time is up first -/
theorem BootAt.mpTurn {w w' : World} {L : Lay} {s : St} {l : List EntD} (h : BootAt w L s) (hf : Fr (oneB L.mp) w w') (hm : MapAt w' L.mp l) (ok : ({ s with cache := l } : St).Ok) : BootAt w' L { s with cache := l } := by
  have hn := h.ne
  simp only [Lay.blocks, List.nodup_cons, List.mem_cons, List.not_mem_nil, or_false, not_or] at hn
  obtain ⟨⟨n1, n2, n3, n4, n5⟩, ⟨m2, m3, m4, m5⟩, ⟨k3, k4, k5⟩, ⟨j4, j5⟩, i5, _⟩ := hn
  exact ⟨h.bk.keep hf n5, h.rx.keep hf m5 k5, h.tx.keep hf j5 i5, hm, row_keep h.im hf fun a ha x => h.ni a ha (by simp only [Lay.blocks, List.mem_cons]; simp [show a.block = L.mp from x]), h.ne, h.ni, ok,
    h.gb.keep hf (fun b hb x => h.gd _ (own_mp L) (x ▸ hb)), h.gd⟩
end Go.Proofs.YtcbkaiakdhiloacGreatDoor
namespace Go.Proofs.YtcbkaiakdhiloacGreatDoor
open Go.RowKit Go.Proofs Go.Maps
attribute [local go_sem] bs_size bs_append bs_extract bs_toList
theorem cacheK : Keyed Tryz.prog 38 := int_keyed Tryz.underlying38
theorem ipKey {ip : Nat} (h : ip < 4294967296) : keyOf Tryz.prog 38 (.int .u32 (ip : Int)) = some (ipL ip) := keyOf_int_mk Tryz.underlying38 (by simp [Lit.wf, IntKind.min, IntKind.max, IntKind.signed, IntKind.bits]; omega)
end Go.Proofs.YtcbkaiakdhiloacGreatDoor
namespace Go.Proofs.YtcbkaiakdhiloacGreatDoor
open Go.RowKit Go.Proofs Go.Maps
attribute [local go_sem] bs_size bs_append bs_extract bs_toList
def ent0 : EntD := ⟨0, zMac, false, 0, 0, []⟩
theorem zeroEnt (w : World) : (zeroValue 160).run Tryz.prog w = .ok (entC ent0) w := by kernel_rfl
theorem at_some {D : DataW Unit} {l : List EntD} {ip : Nat} {e : EntD} (h : Rep D l) (hf : find l ip = some e) : Maps.has D (ipL ip) = true ∧ D.atKey (ipL ip) (entDat ent0) = entDat e := by
  obtain ⟨h1, rfl⟩ := find_some hf
  exact ⟨by rw [h.has, List.any_eq_true]; exact ⟨e, h1, by simp⟩, h.at_ e h1 _⟩
end Go.Proofs.YtcbkaiakdhiloacGreatDoor
namespace Go.Proofs.YtcbkaiakdhiloacGreatDoor
open Go.RowKit Go.Proofs
attribute [local go_sem] bs_size bs_append bs_extract bs_toList
theorem wrIP_len (id : Nat) (ttl pr : UInt8) (fi ti : Nat) (ld : List UInt8) : (wrIP id ttl pr fi ti ld).1.length ≤ 1500 := by
  unfold wrIP
  split
  · simp
  · split
    · simp
    · simp only [ipBytes, List.length_append, ipHead_length]; omega
theorem packet_len (s : St) (dst fm port : Nat) (ld : List UInt8) : (s.packet dst fm port ld).length ≤ 1500 := wrIP_len _ _ _ _ _ _
end Go.Proofs.YtcbkaiakdhiloacGreatDoor
namespace Go.Proofs.YtcbkaiakdhiloacGreatDoor
open Go.RowKit Go.Proofs
section
variable {w1 w w' : World} {p B n : Nat} {A : Option Addr} {l l' : List UInt8} {L : Bool} {v : Value} {t : TypeId} {cs : Array Value}
theorem Chn.drew2 (h : Chn w1 p B A l w) : Chn w1 p B A l w.drew := ⟨h.wr.drew, h.row, h.fr.drew, h.eB, h.lt⟩
theorem AlS.drew2 (h : AlS L v n t cs B A w) : AlS L v n t cs B A w.drew := fun hL => by
  obtain ⟨g, h1, h2, h3, h4⟩ := h hL
  exact ⟨g, h1, h2.drew, h3, h4⟩
theorem AlS.beside (h : Chn w1 p B A l w) (t : TypeId) (cs : Array Value) : AlS true (.slice (some ⟨w.heap.size, 0, none⟩) 0 0) 0 t cs B A (w.alloc (.cells cs t)) := AlS.new h 0 t cs
end
section
variable {P : Program} {ops : Array Oper} {Q : Exit → Act → World → Prop}
end
theorem sl_put {a : Act} {n k j : Nat} {v : Value} (h : Sz n a) (hk : k < n) : sl (a.put (some k) v) j = if j = k then v else sl a j := by
  obtain ⟨t, d⟩ := a
  have hs := h.size
  simp only at hs
  unfold sl Act.put
  by_cases e : j = k
  · subst e; simp [hs, hk]
  · simp only [e, if_false]
    by_cases hj : j < t.size
    · simp [Array.getD, hj, Array.getElem_setIfInBounds, e]
      intro x; exact absurd x.symm e
    · simp [Array.getD, hj]
theorem Sz.put {a : Act} {n k : Nat} {v : Value} (h : Sz n a) : Sz n (a.put (some k) v) := ⟨by simpa [Act.put] using h.size, h.defers⟩
theorem foldl_put {n : Nat} {u : Nat → Value} : ∀ (D : List Nat) (a : Act), Sz n a → (∀ k ∈ D, k < n) → Sz n (D.foldl (fun b k => b.put (some k) (u k)) a) ∧ ∀ j, sl (D.foldl (fun b k => b.put (some k) (u k)) a) j = if j ∈ D then u j else sl a j
  | [], a, h, _ => ⟨h, fun j => by simp⟩
  | k :: D, a, h, hD => by
    obtain ⟨h1, h2⟩ := foldl_put (u := u) D (a.put (some k) (u k)) h.put (fun x hx => hD x (by simp [hx]))
    refine ⟨h1, fun j => ?_⟩
    rw [List.foldl_cons, h2 j, sl_put h (hD k (by simp))]
    by_cases hj : j ∈ D
    · simp [hj]
    · by_cases hk : j = k
      · subst hk; simp [hj]
      · simp [hj, hk]
theorem Kp.eq_put {n : Nat} {keep : List Nat} {a a' : Act} (D : List Nat) (h : Sz n a) (h' : Sz n a') (kp : Kp keep a a') (hd : ((List.range n).all fun k => D.contains k || keep.contains k) = true) (hD : (D.all fun k => decide (k < n)) = true) :
    a' = D.foldl (fun b k => b.put (some k) (sl a' k)) a := by
  have hD' : ∀ k ∈ D, k < n := fun k hk => by simpa using List.all_eq_true.1 hD k hk
  obtain ⟨h1, h2⟩ := foldl_put (u := sl a') D a h hD'
  refine h'.eq.trans (Eq.trans ?_ h1.eq.symm)
  unfold frN
  congr 2
  apply List.map_congr_left
  intro k hk
  have hk' : k < n := by simpa using hk
  rw [h2 k]
  split
  · rfl
  · next hnd =>
    have := List.all_eq_true.1 hd k hk
    simp only [Bool.or_eq_true, List.contains_iff_mem] at this
    rcases this with h3 | h3
    · exact absurd h3 hnd
    · exact kp k h3
theorem wp_at {P : Program} {c c' : Code} {Q : Exit → Act → World → Prop} {a : Act} {w : World} (h : c = c') (k : c.wp P Q a w) : c'.wp P Q a w := h ▸ k
end Go.Proofs.YtcbkaiakdhiloacGreatDoor
namespace Go.Proofs.YtcbkaiakdhiloacGreatDoor
open Go.RowKit Go.Proofs
attribute [local go_sem] bs_size bs_append bs_extract
def optC : List OptD → List Value
  | [] => []
  | o :: r => .int .u8 (o.code.toNat : Int) :: .string (bs o.data) :: optC r
theorem optC_length : ∀ os : List OptD, (optC os).length = os.length * 2
  | [] => rfl
  | o :: r => by simp only [optC, List.length_cons, optC_length r]; omega
theorem optC_append : ∀ a b : List OptD, optC (a ++ b) = optC a ++ optC b
  | [], _ => rfl
  | o :: r, b => by simp only [List.cons_append, optC, optC_append r b]
theorem optC_code : ∀ (os : List OptD) (k : Nat) (o : OptD), os[k]? = some o → (optC os)[k * 2]? = some (.int .u8 (o.code.toNat : Int))
  | [], _, _, h => by cases h
  | o :: r, 0, o', h => by cases h; rfl
  | o :: r, k + 1, o', h => by
    rw [show (k + 1) * 2 = k * 2 + 1 + 1 by omega]
    exact optC_code r k o' h
theorem optC_data : ∀ (os : List OptD) (k : Nat) (o : OptD), os[k]? = some o → (optC os)[k * 2 + 1]? = some (.string (bs o.data))
  | [], _, _, h => by cases h
  | o :: r, 0, o', h => by cases h; rfl
  | o :: r, k + 1, o', h => by
    rw [show (k + 1) * 2 + 1 = k * 2 + 1 + 1 + 1 by omega]
    exact optC_data r k o' h
theorem optOf_drop {os : List OptD} {k : Nat} {o : OptD} (h : os[k]? = some o) (c : UInt8) : optOf (os.drop k) c = if o.code = c then some o.data else optOf (os.drop (k + 1)) c := by
  have hk : k < os.length := by
    rcases Nat.lt_or_ge k os.length with h1 | h1
    · exact h1
    · rw [List.getElem?_eq_none h1] at h; cases h
  rw [List.drop_eq_getElem_cons hk]
  rw [List.getElem?_eq_getElem hk] at h
  cases h
  rfl
theorem SlR.opt {w : World} {S : Nat → Prop} {A : Option Addr} {n : Nat} {os : List OptD} (h : SlR w S 2 A n (optC os)) : os.length = n := by
  have := h.1; rw [optC_length] at this; omega
theorem SlR.optAt {w : World} {S : Nat → Prop} {A : Option Addr} {n k : Nat} {os : List OptD} {o : OptD} (h : SlR w S 2 A n (optC os)) (hk : os[k]? = some o) :
    ∃ ad, A = some ad ∧ w.cell? (ad.add (k * 2)) = some (.int .u8 (o.code.toNat : Int)) ∧ w.cell? ⟨(ad.add (k * 2)).block, (ad.add (k * 2)).off + 1, none⟩ = some (.string (bs o.data)) := by
  have hl : k < os.length := by
    rcases Nat.lt_or_ge k os.length with h1 | h1
    · exact h1
    · rw [List.getElem?_eq_none h1] at hk; cases hk
  have hn := h.opt
  obtain ⟨ad, e, _, _, hc⟩ := h.2 (by omega)
  exact ⟨ad, e, hc _ _ (optC_code os k o hk), by
    have := hc _ _ (optC_data os k o hk)
    rw [← add_add] at this
    exact this⟩
theorem u8_ne {a b : UInt8} (h : a ≠ b) : ((a.toNat : Int) == (b.toNat : Int)) = false := by
  rw [beq_eq_false_iff_ne]
  intro e
  exact h (UInt8.toNat.inj (by omega))
theorem dhcOf (S : Nat → Prop) (A : Option Addr) (n cap : Nat) (os : List OptD) (c : UInt8) (w : World) (hA : SlR w S 2 A n (optC os)) (hn : n ≤ 4611686018427387904) :
    Calls Tryz.prog 153 #[.slice A n cap, .int .u8 (c.toNat : Int)] w fun e w' =>
      e = .returned (.tuple #[.string (bs ((optOf os c).getD [])), .bool (optOf os c).isSome]) ∧ Fr noB w w' := by
  have hlen := hA.opt
  go_enter Tryz.func153, Tryz.ntmps153
  go_wp2_with fail
  go_loopw [10] (fun iv wr => ∃ (i : Nat), i ≤ n ∧ iv = .int .i64 (i : Int) ∧ optOf os c = optOf (os.drop i) c ∧ Fr noB w wr) (fun iv _ => n - (intOf iv).toNat)
  case atStart => exact ⟨0, by omega, rfl, rfl, Fr.refl _ _⟩
  case round =>
    obtain ⟨i, hi, rfl, ha, hw⟩ := hrel
    by_cases hlt : i < n
    · obtain ⟨o, ho⟩ : ∃ o, os[i]? = some o := ⟨_, List.getElem?_eq_getElem (by omega)⟩
      obtain ⟨ad, rfl, c1, c2⟩ := ((hA.sub (T := noB) (fun _ _ x => x.elim)).keep hw).optAt ho
      have ha2 := ha.trans (optOf_drop ho c)
      have Ha := Lib.hid ha2
      clear ha ha2 ho
      have hne := Lib.hid (Fr.alloc hw (.cells #[.int .u8 (o.code.toNat : Int), .string (bs o.data)] 66))
      by_cases he : o.code = c
      · subst he
        have H1 : Hid (optOf os o.code = some o.data) := Lib.hid (by have := Ha.out; rw [if_pos rfl] at this; exact this)
        clear Ha
        go_wp2_with fail
        go_ret2
        rw [H1.out]
        exact ⟨rfl, hne.out⟩
      · have hb := u8_ne he
        have H1 : Hid (optOf os c = optOf (os.drop (i + 1)) c) := Lib.hid (by have := Ha.out; rw [if_neg he] at this; exact this)
        have hbi : ¬ (o.code.toNat : Int) = (c.toNat : Int) := by simpa using hb
        clear Ha he
        go_wp2_with fail
        exact ⟨⟨i + 1, by omega, by rw [Int.natCast_add]; rfl, H1.out, hne.out⟩, by simp only [intOf]; omega⟩
    · obtain rfl : i = n := by omega
      have H1 : Hid (optOf os c = none) := Lib.hid (by rw [ha, List.drop_of_length_le (by omega)]; rfl)
      clear ha
      go_wp2_with fail
      go_ret2
      rw [H1.out]
      exact ⟨rfl, hw⟩
end Go.Proofs.YtcbkaiakdhiloacGreatDoor
