/- Parts of the walk; written by programs, merged. -/
import Derived.Test.YtcbkaiakdhiloabGreatDoorRam
set_option linter.unusedSimpArgs false
set_option linter.unusedVariables false
set_option maxRecDepth 20000
set_option maxHeartbeats 8000000
namespace Go.Proofs.YtcbkaiakdhiloabGreatDoor
open Go.RowKit Go.Proofs
attribute [local go_sem] bs_size bs_append bs_extract bs_toList
theorem optRdW : ∀ (n : Nat) (os : List OptD) (l : List UInt8) (os' : List OptD), optRead n os l = some os' → wtO os' ≤ wtO os + l.length
  | 0, _, _, _, h => by cases h
  | n + 1, os, [], _, h => by cases h
  | n + 1, os, c :: r, os', h => by
    rw [optRead_cons] at h
    split at h
    · cases h; omega
    · split at h
      · have := optRdW n os r os' h; simp only [List.length_cons]; omega
      · cases r with
        | nil => cases h
        | cons k r =>
          simp only at h
          split at h
          · cases h
          · have h1 := optRdW n _ _ os' h
            have h2 := wtO_add os c (r.take k.toNat)
            simp only [List.length_cons, List.length_drop] at h1 ⊢
            rw [List.length_take] at h2
            omega
theorem oversW (os : List OptD) (name file : List UInt8) : wtO (overs os name file).1 ≤ wtO os + name.length + file.length := by
  have h0 : wtO (os.filter fun o => !(o.code == 52)) ≤ wtO os := wtO_filter os
  unfold overs
  split
  · simp only; omega
  · split
    · exact Nat.zero_le _
    · split
      · exact Nat.zero_le _
      · next a h1 =>
        have h2 : wtO a ≤ wtO os + file.length := by
          split at h1
          · have := optRdW _ _ _ _ h1; omega
          · cases h1; omega
        split
        · exact Nat.zero_le _
        · next a2 h3 =>
          have h4 : wtO a2 ≤ wtO os + name.length + file.length := by
            split at h3
            · have := optRdW _ _ _ _ h3; omega
            · cases h3; omega
          split
          · exact Nat.zero_le _
          · exact h4
  · exact Nat.zero_le _
theorem num_subM (l : List UInt8) (i j n : Nat) (hn : j - i = n) : num (sub l i j) < 256 ^ n := by
  have h := num_lt (sub l i j)
  have h2 : (sub l i j).length ≤ n := by unfold sub; rw [List.length_drop, List.length_take]; omega
  exact Nat.lt_of_lt_of_le h (Nat.pow_le_pow_right (by decide) h2)
theorem readDHCP_in (l : List UInt8) : (readDHCP l).1.yours < 4294967296 ∧ (readDHCP l).1.next < 4294967296 ∧ wtO (readDHCP l).1.os ≤ l.length + 192 := by
  unfold readDHCP
  have h2 := num_subM l 16 20 4 rfl
  have h3 := num_subM l 20 24 4 rfl
  split
  · exact ⟨by decide, by decide, Nat.zero_le _⟩
  split
  · exact ⟨by decide, by decide, Nat.zero_le _⟩
  split
  · exact ⟨by decide, by decide, Nat.zero_le _⟩
  · next os ho =>
    have w1 := optRdW _ _ _ _ ho
    have w2 := oversW os (sub l 44 108) (sub l 108 236)
    have s1 : (sub l 44 108).length ≤ 64 := by unfold sub; rw [List.length_drop, List.length_take]; omega
    have s2 : (sub l 108 236).length ≤ 128 := by unfold sub; rw [List.length_drop, List.length_take]; omega
    have hd : (l.drop 240).length ≤ l.length := by rw [List.length_drop]; omega
    simp only [wtO] at w1
    split
    · next a heq =>
      rw [heq] at w2
      simp only at w2
      exact ⟨h2, h3, by simp only; omega⟩
    · exact ⟨by show (0 : Nat) < _; decide, by show (0 : Nat) < _; decide, Nat.zero_le _⟩
def St.leasedP (s : St) (ld : List UInt8) : St := if (readDHCP ld).2 = 0 ∧ (readDHCP ld).1.reply = true ∧ (readDHCP ld).1.xid = s.xid ∧ (readDHCP ld).1.mac = s.c.card then s.leased (readDHCP ld).1 else s
def ldF (u : Nat → Value) : Act := ⟨#[u 0, u 1, u 2, u 3, u 4, u 5, u 6, u 7, u 8, u 9, u 10, u 11, u 12, u 13, u 14, u 15, u 16, u 17, u 18, u 19, u 20, u 21, u 22, u 23, u 24, u 25, u 26, u 27, u 28, u 29, u 30, u 31, u 32, u 33, u 34, u 35, u 36, u 37, u 38, u 39, u 40, u 41, u 42, u 43, u 44, u 45, u 46, u 47, u 48, u 49, u 50, u 51, u 52, u 53, u 54, u 55, u 56, u 57, u 58, u 59, u 60, u 61, u 62, u 63, u 64, u 65, u 66, u 67, u 68, u 69, u 70, u 71, u 72, u 73, u 74, u 75, u 76, u 77, u 78, u 79, u 80, u 81, u 82, u 83, u 84, u 85, u 86, u 87, u 88, u 89, u 90, u 91, u 92, u 93, u 94, u 95, u 96, u 97, u 98, u 99, u 100, u 101, u 102, u 103, u 104, u 105, u 106, u 107, u 108, u 109, u 110, u 111, u 112, u 113, u 114, u 115, u 116, u 117, u 118, u 119, u 120, u 121, u 122, u 123, u 124, u 125, u 126, u 127, u 128, u 129, u 130], []⟩
set_option maxRecDepth 100000 in
theorem ldF_eq (u : Nat → Value) : ldF u = frN 131 u := rfl
theorem ldF_of {a : Act} (h : Sz 131 a) : a = ldF (sl a) := h.eq.trans (ldF_eq _).symm
theorem ldR0 (L : Lay) (ld : List UInt8) (a : Act) (w : World) (K : Exit → Act → World → Prop) (hs : Sz 131 a)
    (h1 : sl a 1 = .string (bs ld)) (hld : ld.length ≤ 1048576) (hlt : ∀ b, own' L b → b < w.heap.size)
    (hK : ∀ a' w' A cap g, Sz 131 a' → Kp [0, 6, 7, 8, 9, 10, 63] a a' → sl a' 4 = .pointer (some ⟨g, 0, none⟩) → sl a' 5 = .int .i64 ((readDHCP ld).2 : Int) → Fr noB w w' → DhAt w' L (readDHCP ld).1 A cap (readDHCP ld).1.os.length g → K .normal a' w') :
    (regionOf Tryz.f223 0).wp Tryz.prog K a w := by
  unfold Kp at hK; rw [ldF_of hs]; clear hs; generalize sl a = u at *; clear a; have HK := Lib.hid hK; clear hK; conv => arg 2; whnf
  simp only [ldF, h1]
  go_wp2_with fail
  refine (dhcpRead ld _ (by omega)).mono ?_
  rintro e w2 ⟨⟨A, cap, rfl, hSl⟩, hf1⟩
  have hin3 := readDHCP_in ld
  have hsz := Lib.hid (dhcC_size (readDHCP ld).1 A cap)
  have hin := Lib.hid (dhc_info (readDHCP ld).1 A cap)
  have hon := Lib.hid (dhcC_one (readDHCP ld).1 A cap)
  generalize hr : readDHCP ld = r at *
  have Hr := Lib.hid hr
  clear hr
  generalize hc : dhcC r.1 A cap = c at *
  have Hc := Lib.hid hc
  clear hc
  have hx0 := Bk.new w2 75 zcDhc
  go_wp2_with ((refine wpList_store_bk rfl 75 (.tmp 4) (.tmp 14) rfl w2.heap.size _ zcDhc c rfl rfl hx0 hsz.out hin.out hon.out ?_); intro w9 hx9 hf9)
  have hf10 : Fr noB w w9 := ((hf1.alloc _).trans' hf9 (fun b hb e => by have e' : b = w2.heap.size := e; have := hf1.size; omega))
  exact HK.out _ _ A cap w2.heap.size ⟨rfl, rfl⟩ (Kc rfl (Kc rfl (Kc rfl (Kc rfl (Kc rfl (Kc rfl (Kc rfl (Kn _ _)))))))) (rfl) (rfl) hf10 ⟨by rw [← Hc.out] at hx9; exact hx9, (hSl.sub (T := own' L) (fun b _ hb => hlt b hb)).keep ((show Fr noB w2 w9 from ((Fr.refl noB w2).alloc _).trans' hf9 (fun b hb e => by have e' : b = w2.heap.size := e; omega)).of_no _), fun hx => by have := hlt _ hx; have := hf1.size; omega, rfl, by omega, hin3.1, hin3.2.1⟩
attribute [-go_sem] run_eql_struct run_neq_struct run_equalIn_agg in
theorem ldR1a (L : Lay) (s : St) (d : DhcD) (A : Option Addr) (cap n g : Nat) (k : Nat) (a : Act) (w : World) (K : Exit → Act → World → Prop) (hs : Sz 131 a)
    (h0 : sl a 0 = .pointer (some ⟨L.p, 0, none⟩)) (h4 : sl a 4 = .pointer (some ⟨g, 0, none⟩)) (h5 : sl a 5 = .int .i64 (k : Int)) (h : BootAt w L s) (hD : DhAt w L d A cap n g) (qk : ((k : Int) != 0) = true) 
    (hK : ∀ a' w', Sz 131 a' → Kp [0, 4, 5, 6, 7, 8, 9, 10, 63] a a' → sl a' 42 = .bool true → BootAt w' L s → DhAt w' L d A cap n g → Fr noB w w' → K .normal a' w') :
    (regionOf Tryz.f223 1).wp Tryz.prog K a w := by
  unfold Kp at hK; rw [ldF_of hs]; clear hs; generalize sl a = u at *; clear a; have HK := Lib.hid hK; clear hK; conv => arg 2; whnf
  have hE : ∀ w, (binOp .neq 23 (.agg #[.int .u8 (d.mac.1.toNat : Int), .int .u8 (d.mac.2.1.toNat : Int), .int .u8 (d.mac.2.2.1.toNat : Int), .int .u8 (d.mac.2.2.2.1.toNat : Int), .int .u8 (d.mac.2.2.2.2.1.toNat : Int), .int .u8 (d.mac.2.2.2.2.2.toNat : Int)]) (.agg #[.int .u8 (s.c.card.1.toNat : Int), .int .u8 (s.c.card.2.1.toNat : Int), .int .u8 (s.c.card.2.2.1.toNat : Int), .int .u8 (s.c.card.2.2.2.1.toNat : Int), .int .u8 (s.c.card.2.2.2.2.1.toNat : Int), .int .u8 (s.c.card.2.2.2.2.2.toNat : Int)])).run Tryz.prog w = .ok (.bool (decide (d.mac ≠ s.c.card))) w := mac_neq d.mac s.c.card
  have hGd := mac_guard
  simp only [ldF, h0, h4, h5]
  refine wp_region_pls (by kernel_rfl) (fun w' => BootAt w' L s ∧ DhAt w' L d A cap n g ∧ Fr noB w w') [] (.p 0 (.p 1 (.p 2 (.p 3 (.q 4 (.p 5 (.p 6 (.p 7 (.p 8 (.p 10 (.p 11 (.p 12 (.p 13 (.q 9 (.q 14 (.p 15 (.p 16 (.p 17 (.p 18 (.p 20 (.p 21 (.p 22 (.p 23 (.q 19 (.q 24 (.p 25 (.p 26 .nil))))))))))))))))))))))))))) (by kernel_rfl) (⟨h.drew, hD.none ((Fr.refl _ _).drew), (Fr.refl _ _).drew⟩) ?_
  intro ops Q' hO hQ' wr1 hR1
  iterate 3 (refine pl_p0 hO rfl rfl ?_ (fun w' => ?_) ?_; rotate_left 1; (focus (go_simp; ((try with_reducible rfl); done))); simp only [Act.put, List.setIfInBounds_toArray, List.set_cons_zero, List.set_cons_succ])
  refine pl_pn hO rfl rfl rfl rfl ?_; simp only [Act.put, List.setIfInBounds_toArray, List.set_cons_zero, List.set_cons_succ]
  refine pl_qn hO rfl rfl rfl rfl ?_; simp only [Act.put, List.setIfInBounds_toArray, List.set_cons_zero, List.set_cons_succ]
  refine pl_pn hO rfl rfl rfl rfl ?_; simp only [Act.put, List.setIfInBounds_toArray, List.set_cons_zero, List.set_cons_succ]
  iterate 2 (refine pl_p0 hO rfl rfl ?_ (fun w' => ?_) ?_; rotate_left 1; (focus (go_simp; ((try with_reducible rfl); done))); simp only [Act.put, List.setIfInBounds_toArray, List.set_cons_zero, List.set_cons_succ])
  iterate 5 (refine pl_pn hO rfl rfl rfl rfl ?_; simp only [Act.put, List.setIfInBounds_toArray, List.set_cons_zero, List.set_cons_succ])
  iterate 2 (refine pl_qn hO rfl rfl rfl rfl ?_; simp only [Act.put, List.setIfInBounds_toArray, List.set_cons_zero, List.set_cons_succ])
  refine pl_pn hO rfl rfl rfl rfl ?_; simp only [Act.put, List.setIfInBounds_toArray, List.set_cons_zero, List.set_cons_succ]
  iterate 2 (refine pl_p0 hO rfl rfl ?_ (fun w' => ?_) ?_; rotate_left 1; (focus (go_simp; ((try with_reducible rfl); done))); simp only [Act.put, List.setIfInBounds_toArray, List.set_cons_zero, List.set_cons_succ])
  iterate 5 (refine pl_pn hO rfl rfl rfl rfl ?_; simp only [Act.put, List.setIfInBounds_toArray, List.set_cons_zero, List.set_cons_succ])
  iterate 2 (refine pl_qn hO rfl rfl rfl rfl ?_; simp only [Act.put, List.setIfInBounds_toArray, List.set_cons_zero, List.set_cons_succ])
  refine pl_pn hO rfl rfl rfl rfl ?_; simp only [Act.put, List.setIfInBounds_toArray, List.set_cons_zero, List.set_cons_succ]
  refine pl_p0 hO rfl rfl ?_ (fun w' => ?_) ?_; rotate_left 1; (focus (go_simp; ((try with_reducible rfl); done))); simp only [Act.put, List.setIfInBounds_toArray, List.set_cons_zero, List.set_cons_succ]
  refine pl_nil (hQ' _ _ ?_)
  exact HK.out _ _  ⟨rfl, rfl⟩ (Kc h0.symm (Kc h4.symm (Kc h5.symm (Kc rfl (Kc rfl (Kc rfl (Kc rfl (Kc rfl (Kc rfl (Kn _ _)))))))))) (rfl) hR1.1 hR1.2.1 hR1.2.2
attribute [-go_sem] run_eql_struct run_neq_struct run_equalIn_agg in
theorem ldR1b (L : Lay) (s : St) (d : DhcD) (A : Option Addr) (cap n g : Nat) (k : Nat) (a : Act) (w : World) (K : Exit → Act → World → Prop) (hs : Sz 131 a)
    (h0 : sl a 0 = .pointer (some ⟨L.p, 0, none⟩)) (h4 : sl a 4 = .pointer (some ⟨g, 0, none⟩)) (h5 : sl a 5 = .int .i64 (k : Int)) (h : BootAt w L s) (hD : DhAt w L d A cap n g) (qk : ((k : Int) != 0) = false) (qr : d.reply = false) 
    (hK : ∀ a' w', Sz 131 a' → Kp [0, 4, 5, 6, 7, 8, 9, 10, 63] a a' → sl a' 42 = .bool true → BootAt w' L s → DhAt w' L d A cap n g → Fr noB w w' → K .normal a' w') :
    (regionOf Tryz.f223 1).wp Tryz.prog K a w := by
  unfold Kp at hK; rw [ldF_of hs]; clear hs; generalize sl a = u at *; clear a; have HK := Lib.hid hK; clear hK; conv => arg 2; whnf
  have hE : ∀ w, (binOp .neq 23 (.agg #[.int .u8 (d.mac.1.toNat : Int), .int .u8 (d.mac.2.1.toNat : Int), .int .u8 (d.mac.2.2.1.toNat : Int), .int .u8 (d.mac.2.2.2.1.toNat : Int), .int .u8 (d.mac.2.2.2.2.1.toNat : Int), .int .u8 (d.mac.2.2.2.2.2.toNat : Int)]) (.agg #[.int .u8 (s.c.card.1.toNat : Int), .int .u8 (s.c.card.2.1.toNat : Int), .int .u8 (s.c.card.2.2.1.toNat : Int), .int .u8 (s.c.card.2.2.2.1.toNat : Int), .int .u8 (s.c.card.2.2.2.2.1.toNat : Int), .int .u8 (s.c.card.2.2.2.2.2.toNat : Int)])).run Tryz.prog w = .ok (.bool (decide (d.mac ≠ s.c.card))) w := mac_neq d.mac s.c.card
  have hGd := mac_guard
  simp only [ldF, h0, h4, h5]
  refine wp_region_pls (by kernel_rfl) (fun w' => BootAt w' L s ∧ DhAt w' L d A cap n g ∧ Fr noB w w') [] (.p 0 (.p 1 (.p 2 (.p 3 (.q 4 (.p 5 (.p 6 (.p 7 (.p 8 (.p 10 (.p 11 (.p 12 (.p 13 (.q 9 (.q 14 (.p 15 (.p 16 (.p 17 (.p 18 (.p 20 (.p 21 (.p 22 (.p 23 (.q 19 (.q 24 (.p 25 (.p 26 .nil))))))))))))))))))))))))))) (by kernel_rfl) (⟨h.drew, hD.none ((Fr.refl _ _).drew), (Fr.refl _ _).drew⟩) ?_
  intro ops Q' hO hQ' wr1 hR1
  iterate 3 (refine pl_p0 hO rfl rfl ?_ (fun w' => ?_) ?_; rotate_left 1; (focus (go_simp; ((try with_reducible rfl); done))); simp only [Act.put, List.setIfInBounds_toArray, List.set_cons_zero, List.set_cons_succ])
  refine pl_p1 hO rfl rfl rfl rfl ?_ (fun w' => ?_) ?_; rotate_left 1; (focus (go_simp; ((try with_reducible rfl); done))); simp only [Act.put, List.setIfInBounds_toArray, List.set_cons_zero, List.set_cons_succ]
  refine pl_q1 hO rfl rfl rfl rfl ?_ (fun w' hS => ?_) ?_; rotate_left 1; (focus (obtain ⟨hB, hD, hF⟩ := hS; have hGc := hD.bk.cells; have c21 := hB.g21; have c22 := hB.g22; have c23 := hB.g23; have c26 := hB.g26; have c0 := hB.g0; have c1 := hB.g1; have c2 := hB.g2; have c3 := hB.g3; have c4 := hB.g4; have c5 := hB.g5; go_simp; ((try with_reducible rfl); done))); simp only [Act.put, List.setIfInBounds_toArray, List.set_cons_zero, List.set_cons_succ]
  refine pl_p1 hO rfl rfl rfl rfl ?_ (fun w' => ?_) ?_; rotate_left 1; (focus (go_simp; ((try with_reducible rfl); done))); simp only [Act.put, List.setIfInBounds_toArray, List.set_cons_zero, List.set_cons_succ]
  iterate 2 (refine pl_p0 hO rfl rfl ?_ (fun w' => ?_) ?_; rotate_left 1; (focus (go_simp; ((try with_reducible rfl); done))); simp only [Act.put, List.setIfInBounds_toArray, List.set_cons_zero, List.set_cons_succ])
  iterate 5 (refine pl_pn hO rfl rfl rfl rfl ?_; simp only [Act.put, List.setIfInBounds_toArray, List.set_cons_zero, List.set_cons_succ])
  iterate 2 (refine pl_qn hO rfl rfl rfl rfl ?_; simp only [Act.put, List.setIfInBounds_toArray, List.set_cons_zero, List.set_cons_succ])
  refine pl_pn hO rfl rfl rfl rfl ?_; simp only [Act.put, List.setIfInBounds_toArray, List.set_cons_zero, List.set_cons_succ]
  iterate 2 (refine pl_p0 hO rfl rfl ?_ (fun w' => ?_) ?_; rotate_left 1; (focus (go_simp; ((try with_reducible rfl); done))); simp only [Act.put, List.setIfInBounds_toArray, List.set_cons_zero, List.set_cons_succ])
  iterate 5 (refine pl_pn hO rfl rfl rfl rfl ?_; simp only [Act.put, List.setIfInBounds_toArray, List.set_cons_zero, List.set_cons_succ])
  iterate 2 (refine pl_qn hO rfl rfl rfl rfl ?_; simp only [Act.put, List.setIfInBounds_toArray, List.set_cons_zero, List.set_cons_succ])
  refine pl_pn hO rfl rfl rfl rfl ?_; simp only [Act.put, List.setIfInBounds_toArray, List.set_cons_zero, List.set_cons_succ]
  refine pl_p0 hO rfl rfl ?_ (fun w' => ?_) ?_; rotate_left 1; (focus (go_simp; ((try with_reducible rfl); done))); simp only [Act.put, List.setIfInBounds_toArray, List.set_cons_zero, List.set_cons_succ]
  refine pl_nil (hQ' _ _ ?_)
  exact HK.out _ _  ⟨rfl, rfl⟩ (Kc h0.symm (Kc h4.symm (Kc h5.symm (Kc rfl (Kc rfl (Kc rfl (Kc rfl (Kc rfl (Kc rfl (Kn _ _)))))))))) (rfl) hR1.1 hR1.2.1 hR1.2.2
attribute [-go_sem] run_eql_struct run_neq_struct run_equalIn_agg in
theorem ldR1c (L : Lay) (s : St) (d : DhcD) (A : Option Addr) (cap n g : Nat) (k : Nat) (a : Act) (w : World) (K : Exit → Act → World → Prop) (hs : Sz 131 a)
    (h0 : sl a 0 = .pointer (some ⟨L.p, 0, none⟩)) (h4 : sl a 4 = .pointer (some ⟨g, 0, none⟩)) (h5 : sl a 5 = .int .i64 (k : Int)) (h : BootAt w L s) (hD : DhAt w L d A cap n g) (qk : ((k : Int) != 0) = false) (qr : d.reply = true) (qx : ((d.xid : Int) != (s.xid : Int)) = true) 
    (hK : ∀ a' w', Sz 131 a' → Kp [0, 4, 5, 6, 7, 8, 9, 10, 63] a a' → sl a' 42 = .bool true → BootAt w' L s → DhAt w' L d A cap n g → Fr noB w w' → K .normal a' w') :
    (regionOf Tryz.f223 1).wp Tryz.prog K a w := by
  unfold Kp at hK; rw [ldF_of hs]; clear hs; generalize sl a = u at *; clear a; have HK := Lib.hid hK; clear hK; conv => arg 2; whnf
  have hE : ∀ w, (binOp .neq 23 (.agg #[.int .u8 (d.mac.1.toNat : Int), .int .u8 (d.mac.2.1.toNat : Int), .int .u8 (d.mac.2.2.1.toNat : Int), .int .u8 (d.mac.2.2.2.1.toNat : Int), .int .u8 (d.mac.2.2.2.2.1.toNat : Int), .int .u8 (d.mac.2.2.2.2.2.toNat : Int)]) (.agg #[.int .u8 (s.c.card.1.toNat : Int), .int .u8 (s.c.card.2.1.toNat : Int), .int .u8 (s.c.card.2.2.1.toNat : Int), .int .u8 (s.c.card.2.2.2.1.toNat : Int), .int .u8 (s.c.card.2.2.2.2.1.toNat : Int), .int .u8 (s.c.card.2.2.2.2.2.toNat : Int)])).run Tryz.prog w = .ok (.bool (decide (d.mac ≠ s.c.card))) w := mac_neq d.mac s.c.card
  have hGd := mac_guard
  simp only [ldF, h0, h4, h5]
  refine wp_region_pls (by kernel_rfl) (fun w' => BootAt w' L s ∧ DhAt w' L d A cap n g ∧ Fr noB w w') [] (.p 0 (.p 1 (.p 2 (.p 3 (.q 4 (.p 5 (.p 6 (.p 7 (.p 8 (.p 10 (.p 11 (.p 12 (.p 13 (.q 9 (.q 14 (.p 15 (.p 16 (.p 17 (.p 18 (.p 20 (.p 21 (.p 22 (.p 23 (.q 19 (.q 24 (.p 25 (.p 26 .nil))))))))))))))))))))))))))) (by kernel_rfl) (⟨h.drew, hD.none ((Fr.refl _ _).drew), (Fr.refl _ _).drew⟩) ?_
  intro ops Q' hO hQ' wr1 hR1
  iterate 3 (refine pl_p0 hO rfl rfl ?_ (fun w' => ?_) ?_; rotate_left 1; (focus (go_simp; ((try with_reducible rfl); done))); simp only [Act.put, List.setIfInBounds_toArray, List.set_cons_zero, List.set_cons_succ])
  refine pl_p1 hO rfl rfl rfl rfl ?_ (fun w' => ?_) ?_; rotate_left 1; (focus (go_simp; ((try with_reducible rfl); done))); simp only [Act.put, List.setIfInBounds_toArray, List.set_cons_zero, List.set_cons_succ]
  refine pl_q1 hO rfl rfl rfl rfl ?_ (fun w' hS => ?_) ?_; rotate_left 1; (focus (obtain ⟨hB, hD, hF⟩ := hS; have hGc := hD.bk.cells; have c21 := hB.g21; have c22 := hB.g22; have c23 := hB.g23; have c26 := hB.g26; have c0 := hB.g0; have c1 := hB.g1; have c2 := hB.g2; have c3 := hB.g3; have c4 := hB.g4; have c5 := hB.g5; go_simp; ((try with_reducible rfl); done))); simp only [Act.put, List.setIfInBounds_toArray, List.set_cons_zero, List.set_cons_succ]
  refine pl_p1 hO rfl rfl rfl rfl ?_ (fun w' => ?_) ?_; rotate_left 1; (focus (go_simp; ((try with_reducible rfl); done))); simp only [Act.put, List.setIfInBounds_toArray, List.set_cons_zero, List.set_cons_succ]
  iterate 2 (refine pl_p0 hO rfl rfl ?_ (fun w' => ?_) ?_; rotate_left 1; (focus (go_simp; ((try with_reducible rfl); done))); simp only [Act.put, List.setIfInBounds_toArray, List.set_cons_zero, List.set_cons_succ])
  iterate 5 (refine pl_p1 hO rfl rfl rfl rfl ?_ (fun w' => ?_) ?_; rotate_left 1; (focus (go_simp; ((try with_reducible rfl); done))); simp only [Act.put, List.setIfInBounds_toArray, List.set_cons_zero, List.set_cons_succ])
  iterate 2 (refine pl_q1 hO rfl rfl rfl rfl ?_ (fun w' hS => ?_) ?_; rotate_left 1; (focus (obtain ⟨hB, hD, hF⟩ := hS; have hGc := hD.bk.cells; have c21 := hB.g21; have c22 := hB.g22; have c23 := hB.g23; have c26 := hB.g26; have c0 := hB.g0; have c1 := hB.g1; have c2 := hB.g2; have c3 := hB.g3; have c4 := hB.g4; have c5 := hB.g5; go_simp; ((try with_reducible rfl); done))); simp only [Act.put, List.setIfInBounds_toArray, List.set_cons_zero, List.set_cons_succ])
  refine pl_p1 hO rfl rfl rfl rfl ?_ (fun w' => ?_) ?_; rotate_left 1; (focus (go_simp; ((try with_reducible rfl); done))); simp only [Act.put, List.setIfInBounds_toArray, List.set_cons_zero, List.set_cons_succ]
  iterate 2 (refine pl_p0 hO rfl rfl ?_ (fun w' => ?_) ?_; rotate_left 1; (focus (go_simp; ((try with_reducible rfl); done))); simp only [Act.put, List.setIfInBounds_toArray, List.set_cons_zero, List.set_cons_succ])
  iterate 5 (refine pl_pn hO rfl rfl rfl rfl ?_; simp only [Act.put, List.setIfInBounds_toArray, List.set_cons_zero, List.set_cons_succ])
  iterate 2 (refine pl_qn hO rfl rfl rfl rfl ?_; simp only [Act.put, List.setIfInBounds_toArray, List.set_cons_zero, List.set_cons_succ])
  refine pl_pn hO rfl rfl rfl rfl ?_; simp only [Act.put, List.setIfInBounds_toArray, List.set_cons_zero, List.set_cons_succ]
  refine pl_p0 hO rfl rfl ?_ (fun w' => ?_) ?_; rotate_left 1; (focus (go_simp; ((try with_reducible rfl); done))); simp only [Act.put, List.setIfInBounds_toArray, List.set_cons_zero, List.set_cons_succ]
  refine pl_nil (hQ' _ _ ?_)
  exact HK.out _ _  ⟨rfl, rfl⟩ (Kc h0.symm (Kc h4.symm (Kc h5.symm (Kc rfl (Kc rfl (Kc rfl (Kc rfl (Kc rfl (Kc rfl (Kn _ _)))))))))) (rfl) hR1.1 hR1.2.1 hR1.2.2
attribute [-go_sem] run_eql_struct run_neq_struct run_equalIn_agg in
theorem ldR1d (L : Lay) (s : St) (d : DhcD) (A : Option Addr) (cap n g : Nat) (k : Nat) (a : Act) (w : World) (K : Exit → Act → World → Prop) (hs : Sz 131 a)
    (h0 : sl a 0 = .pointer (some ⟨L.p, 0, none⟩)) (h4 : sl a 4 = .pointer (some ⟨g, 0, none⟩)) (h5 : sl a 5 = .int .i64 (k : Int)) (h : BootAt w L s) (hD : DhAt w L d A cap n g) (qk : ((k : Int) != 0) = false) (qr : d.reply = true) (qx : ((d.xid : Int) != (s.xid : Int)) = false) 
    (hK : ∀ a' w', Sz 131 a' → Kp [0, 4, 5, 6, 7, 8, 9, 10, 63] a a' → sl a' 42 = .bool (!decide (d.mac = s.c.card)) → BootAt w' L s → DhAt w' L d A cap n g → Fr noB w w' → K .normal a' w') :
    (regionOf Tryz.f223 1).wp Tryz.prog K a w := by
  unfold Kp at hK; rw [ldF_of hs]; clear hs; generalize sl a = u at *; clear a; have HK := Lib.hid hK; clear hK; conv => arg 2; whnf
  have hE : ∀ w, (binOp .neq 23 (.agg #[.int .u8 (d.mac.1.toNat : Int), .int .u8 (d.mac.2.1.toNat : Int), .int .u8 (d.mac.2.2.1.toNat : Int), .int .u8 (d.mac.2.2.2.1.toNat : Int), .int .u8 (d.mac.2.2.2.2.1.toNat : Int), .int .u8 (d.mac.2.2.2.2.2.toNat : Int)]) (.agg #[.int .u8 (s.c.card.1.toNat : Int), .int .u8 (s.c.card.2.1.toNat : Int), .int .u8 (s.c.card.2.2.1.toNat : Int), .int .u8 (s.c.card.2.2.2.1.toNat : Int), .int .u8 (s.c.card.2.2.2.2.1.toNat : Int), .int .u8 (s.c.card.2.2.2.2.2.toNat : Int)])).run Tryz.prog w = .ok (.bool (decide (d.mac ≠ s.c.card))) w := mac_neq d.mac s.c.card
  have hGd := mac_guard
  simp only [ldF, h0, h4, h5]
  refine wp_region_pls (by kernel_rfl) (fun w' => BootAt w' L s ∧ DhAt w' L d A cap n g ∧ Fr noB w w') [] (.p 0 (.p 1 (.p 2 (.p 3 (.q 4 (.p 5 (.p 6 (.p 7 (.p 8 (.p 10 (.p 11 (.p 12 (.p 13 (.q 9 (.q 14 (.p 15 (.p 16 (.p 17 (.p 18 (.p 20 (.p 21 (.p 22 (.p 23 (.q 19 (.q 24 (.p 25 (.p 26 .nil))))))))))))))))))))))))))) (by kernel_rfl) (⟨h.drew, hD.none ((Fr.refl _ _).drew), (Fr.refl _ _).drew⟩) ?_
  intro ops Q' hO hQ' wr1 hR1
  iterate 3 (refine pl_p0 hO rfl rfl ?_ (fun w' => ?_) ?_; rotate_left 1; (focus (go_simp; ((try with_reducible rfl); done))); simp only [Act.put, List.setIfInBounds_toArray, List.set_cons_zero, List.set_cons_succ])
  refine pl_p1 hO rfl rfl rfl rfl ?_ (fun w' => ?_) ?_; rotate_left 1; (focus (go_simp; ((try with_reducible rfl); done))); simp only [Act.put, List.setIfInBounds_toArray, List.set_cons_zero, List.set_cons_succ]
  refine pl_q1 hO rfl rfl rfl rfl ?_ (fun w' hS => ?_) ?_; rotate_left 1; (focus (obtain ⟨hB, hD, hF⟩ := hS; have hGc := hD.bk.cells; have c21 := hB.g21; have c22 := hB.g22; have c23 := hB.g23; have c26 := hB.g26; have c0 := hB.g0; have c1 := hB.g1; have c2 := hB.g2; have c3 := hB.g3; have c4 := hB.g4; have c5 := hB.g5; go_simp; ((try with_reducible rfl); done))); simp only [Act.put, List.setIfInBounds_toArray, List.set_cons_zero, List.set_cons_succ]
  refine pl_p1 hO rfl rfl rfl rfl ?_ (fun w' => ?_) ?_; rotate_left 1; (focus (go_simp; ((try with_reducible rfl); done))); simp only [Act.put, List.setIfInBounds_toArray, List.set_cons_zero, List.set_cons_succ]
  iterate 2 (refine pl_p0 hO rfl rfl ?_ (fun w' => ?_) ?_; rotate_left 1; (focus (go_simp; ((try with_reducible rfl); done))); simp only [Act.put, List.setIfInBounds_toArray, List.set_cons_zero, List.set_cons_succ])
  iterate 5 (refine pl_p1 hO rfl rfl rfl rfl ?_ (fun w' => ?_) ?_; rotate_left 1; (focus (go_simp; ((try with_reducible rfl); done))); simp only [Act.put, List.setIfInBounds_toArray, List.set_cons_zero, List.set_cons_succ])
  iterate 2 (refine pl_q1 hO rfl rfl rfl rfl ?_ (fun w' hS => ?_) ?_; rotate_left 1; (focus (obtain ⟨hB, hD, hF⟩ := hS; have hGc := hD.bk.cells; have c21 := hB.g21; have c22 := hB.g22; have c23 := hB.g23; have c26 := hB.g26; have c0 := hB.g0; have c1 := hB.g1; have c2 := hB.g2; have c3 := hB.g3; have c4 := hB.g4; have c5 := hB.g5; go_simp; ((try with_reducible rfl); done))); simp only [Act.put, List.setIfInBounds_toArray, List.set_cons_zero, List.set_cons_succ])
  refine pl_p1 hO rfl rfl rfl rfl ?_ (fun w' => ?_) ?_; rotate_left 1; (focus (go_simp; ((try with_reducible rfl); done))); simp only [Act.put, List.setIfInBounds_toArray, List.set_cons_zero, List.set_cons_succ]
  iterate 2 (refine pl_p0 hO rfl rfl ?_ (fun w' => ?_) ?_; rotate_left 1; (focus (go_simp; ((try with_reducible rfl); done))); simp only [Act.put, List.setIfInBounds_toArray, List.set_cons_zero, List.set_cons_succ])
  iterate 5 (refine pl_p1 hO rfl rfl rfl rfl ?_ (fun w' => ?_) ?_; rotate_left 1; (focus (go_simp; ((try with_reducible rfl); done))); simp only [Act.put, List.setIfInBounds_toArray, List.set_cons_zero, List.set_cons_succ])
  iterate 2 (refine pl_q1 hO rfl rfl rfl rfl ?_ (fun w' hS => ?_) ?_; rotate_left 1; (focus (obtain ⟨hB, hD, hF⟩ := hS; have hGc := hD.bk.cells; have c21 := hB.g21; have c22 := hB.g22; have c23 := hB.g23; have c26 := hB.g26; have c0 := hB.g0; have c1 := hB.g1; have c2 := hB.g2; have c3 := hB.g3; have c4 := hB.g4; have c5 := hB.g5; go_simp; ((try with_reducible rfl); done))); simp only [Act.put, List.setIfInBounds_toArray, List.set_cons_zero, List.set_cons_succ])
  refine pl_p1 hO rfl rfl rfl rfl ?_ (fun w' => ?_) ?_; rotate_left 1; (focus (go_simp; ((try with_reducible rfl); done))); simp only [Act.put, List.setIfInBounds_toArray, List.set_cons_zero, List.set_cons_succ]
  refine pl_p0 hO rfl rfl ?_ (fun w' => ?_) ?_; rotate_left 1; (focus (go_simp; ((try with_reducible rfl); done))); simp only [Act.put, List.setIfInBounds_toArray, List.set_cons_zero, List.set_cons_succ]
  refine pl_nil (hQ' _ _ ?_)
  exact HK.out _ _  ⟨rfl, rfl⟩ (Kc h0.symm (Kc h4.symm (Kc h5.symm (Kc rfl (Kc rfl (Kc rfl (Kc rfl (Kc rfl (Kc rfl (Kn _ _)))))))))) (rfl) hR1.1 hR1.2.1 hR1.2.2
theorem ldR1 (L : Lay) (s : St) (d : DhcD) (A : Option Addr) (cap n g : Nat) (k : Nat) (a : Act) (w : World) (K : Exit → Act → World → Prop) (hs : Sz 131 a) (h0 : sl a 0 = .pointer (some ⟨L.p, 0, none⟩)) (h4 : sl a 4 = .pointer (some ⟨g, 0, none⟩)) (h5 : sl a 5 = .int .i64 (k : Int)) (h : BootAt w L s) (hD : DhAt w L d A cap n g)
    (hK : ∀ a' w', Sz 131 a' → Kp [0, 4] a a' → sl a' 42 = .bool (decide (¬ (k = 0 ∧ d.reply = true ∧ d.xid = s.xid ∧ d.mac = s.c.card))) → BootAt w' L s → DhAt w' L d A cap n g → Fr noB w w' → K .normal a' w') : (regionOf Tryz.f223 1).wp Tryz.prog K a w := by
  have kk : ∀ {l : List Nat} {a' : Act}, Kp l a a' → (∀ x ∈ [0, 4], x ∈ l) → Kp [0, 4] a a' := fun k hl i hi => k i (hl i hi)
  by_cases hk : k = 0
  · have qk : ((k : Int) != 0) = false := by rw [hk]; rfl
    by_cases hr : d.reply = true
    · by_cases hx : d.xid = s.xid
      · exact ldR1d L s d A cap n g k a w K hs h0 h4 h5 h hD qk hr (by rw [hx]; simp) fun a' w' hs' k' o => hK a' w' hs' (kk k' (by decide)) (o.trans (by simp [hk, hr, hx]))
      · exact ldR1c L s d A cap n g k a w K hs h0 h4 h5 h hD qk hr (by simp; omega) fun a' w' hs' k' o => hK a' w' hs' (kk k' (by decide)) (o.trans (by simp [hx]))
    · exact ldR1b L s d A cap n g k a w K hs h0 h4 h5 h hD qk (by simpa using hr) fun a' w' hs' k' o => hK a' w' hs' (kk k' (by decide)) (o.trans (by simp [hr]))
  · exact ldR1a L s d A cap n g k a w K hs h0 h4 h5 h hD (by simp; omega) fun a' w' hs' k' o => hK a' w' hs' (kk k' (by decide)) (o.trans (by simp [hk]))
theorem ldR2 (L : Lay) (s : St) (d : DhcD) (A : Option Addr) (cap n g : Nat) (a : Act) (w : World) (K : Exit → Act → World → Prop) (hs : Sz 131 a)
    (h4 : sl a 4 = .pointer (some ⟨g, 0, none⟩)) (hD : DhAt w L d A cap n g)
    (hK : ∀ a' w', Sz 131 a' → Kp [0, 4, 5, 8, 9, 10, 63] a a' → sl a' 6 = .string (bs ((optOf d.os 53).getD [])) → sl a' 7 = .bool (optOf d.os 53).isSome → Fr noB w w' → K .normal a' w') :
    (regionOf Tryz.f223 2).wp Tryz.prog K a w := by
  unfold Kp at hK; rw [ldF_of hs]; clear hs; generalize sl a = u at *; clear a; have HK := Lib.hid hK; clear hK; conv => arg 2; whnf
  simp only [ldF, h4]
  have hGc := hD.bk.cells
  have hcall := dhcOf (own' L) A n cap d.os 53 w hD.sl (by have := wtO_len d.os; have := hD.wt; have := hD.hn; omega)
  have Hcall := Lib.hid hcall
  clear hcall
  go_wp2_with fail
  refine Hcall.out.mono ?_
  rintro e w1 ⟨rfl, hf1⟩
  go_wp2_with fail
  exact HK.out _ _  ⟨rfl, rfl⟩ (Kc rfl (Kc h4.symm (Kc rfl (Kc rfl (Kc rfl (Kc rfl (Kc rfl (Kn _ _)))))))) (rfl) (rfl) hf1
theorem ldR3 (L : Lay) (s : St) (d : DhcD) (A : Option Addr) (cap n g : Nat) (a : Act) (w : World) (K : Exit → Act → World → Prop) (hs : Sz 131 a)
    (h4 : sl a 4 = .pointer (some ⟨g, 0, none⟩)) (hD : DhAt w L d A cap n g)
    (hK : ∀ a' w', Sz 131 a' → Kp [0, 4, 5, 6, 7, 10, 63] a a' → sl a' 8 = .int .u32 (((numO d.os 54 false).getD 0 : Nat) : Int) → sl a' 9 = .bool (numO d.os 54 false).isSome → Fr noB w w' → K .normal a' w') :
    (regionOf Tryz.f223 3).wp Tryz.prog K a w := by
  unfold Kp at hK; rw [ldF_of hs]; clear hs; generalize sl a = u at *; clear a; have HK := Lib.hid hK; clear hK; conv => arg 2; whnf
  simp only [ldF, h4]
  have hGc := hD.bk.cells
  have hcall := bootNumber d A cap n 54 false w hD.hn (hD.sl.sub fun b _ x => x.elim) hD.wt
  have Hcall := Lib.hid hcall
  clear hcall
  go_wp2_with fail
  refine Hcall.out.mono ?_
  rintro e w1 ⟨rfl, hf1⟩
  go_wp2_with fail
  exact HK.out _ _  ⟨rfl, rfl⟩ (Kc rfl (Kc h4.symm (Kc rfl (Kc rfl (Kc rfl (Kc rfl (Kc rfl (Kn _ _)))))))) (rfl) (rfl) hf1
theorem ldR4a (l : List UInt8) (ok : Bool) (a : Act) (w : World) (K : Exit → Act → World → Prop) (hs : Sz 131 a)
    (h6 : sl a 6 = .string (bs l)) (h9 : sl a 9 = .bool ok) (q : ((l.length : Int) != 1) = true)
    (hK : ∀ a' w', Sz 131 a' → Kp [0, 4, 5, 6, 7, 8, 9, 10, 63] a a' → sl a' 60 = .bool true → w' = w → K .normal a' w') :
    (regionOf Tryz.f223 4).wp Tryz.prog K a w := by
  unfold Kp at hK; rw [ldF_of hs]; clear hs; generalize sl a = u at *; clear a; have HK := Lib.hid hK; clear hK; conv => arg 2; whnf
  simp only [ldF, h6, h9]
  go_wp2_with fail
  exact HK.out _ _  ⟨rfl, rfl⟩ (Kc rfl (Kc rfl (Kc rfl (Kc h6.symm (Kc rfl (Kc rfl (Kc h9.symm (Kc rfl (Kc rfl (Kn _ _)))))))))) (rfl) rfl
theorem ldR4b (l : List UInt8) (ok : Bool) (a : Act) (w : World) (K : Exit → Act → World → Prop) (hs : Sz 131 a)
    (h6 : sl a 6 = .string (bs l)) (h9 : sl a 9 = .bool ok) (q : ((l.length : Int) != 1) = false)
    (hK : ∀ a' w', Sz 131 a' → Kp [0, 4, 5, 6, 7, 8, 9, 10, 63] a a' → sl a' 60 = .bool (!ok) → w' = w → K .normal a' w') :
    (regionOf Tryz.f223 4).wp Tryz.prog K a w := by
  unfold Kp at hK; rw [ldF_of hs]; clear hs; generalize sl a = u at *; clear a; have HK := Lib.hid hK; clear hK; conv => arg 2; whnf
  simp only [ldF, h6, h9]
  go_wp2_with fail
  exact HK.out _ _  ⟨rfl, rfl⟩ (Kc rfl (Kc rfl (Kc rfl (Kc h6.symm (Kc rfl (Kc rfl (Kc h9.symm (Kc rfl (Kc rfl (Kn _ _)))))))))) (rfl) rfl
theorem ldR4 (l : List UInt8) (ok : Bool) (a : Act) (w : World) (K : Exit → Act → World → Prop) (hs : Sz 131 a) (h6 : sl a 6 = .string (bs l)) (h9 : sl a 9 = .bool ok)
    (hK : ∀ a' w', Sz 131 a' → Kp [0, 4, 6, 8] a a' → sl a' 60 = .bool (decide (¬ (l.length = 1 ∧ ok = true))) → w' = w → K .normal a' w') : (regionOf Tryz.f223 4).wp Tryz.prog K a w := by
  have kk : ∀ {l : List Nat} {a' : Act}, Kp l a a' → (∀ x ∈ [0, 4, 6, 8], x ∈ l) → Kp [0, 4, 6, 8] a a' := fun k hl i hi => k i (hl i hi)
  by_cases hl : l.length = 1
  · exact ldR4b l ok a w K hs h6 h9 (by rw [hl]; rfl) fun a' w' hs' k' o => hK a' w' hs' (kk k' (by decide)) (o.trans (by cases ok <;> simp [hl]))
  · exact ldR4a l ok a w K hs h6 h9 (by simp; omega) fun a' w' hs' k' o => hK a' w' hs' (kk k' (by decide)) (o.trans (by simp [hl]))
theorem ldR5 (x : Nat) (a : Act) (w : World) (K : Exit → Act → World → Prop) (hs : Sz 131 a)
    (h8 : sl a 8 = .int .u32 (x : Int)) 
    (hK : ∀ a' w', Sz 131 a' → Kp [0, 4, 5, 6, 7, 8, 9, 63] a a' → sl a' 10 = .int .u32 (x : Int) → w' = w → K .normal a' w') :
    (regionOf Tryz.f223 5).wp Tryz.prog K a w := by
  unfold Kp at hK; rw [ldF_of hs]; clear hs; generalize sl a = u at *; clear a; have HK := Lib.hid hK; clear hK; conv => arg 2; whnf
  simp only [ldF, h8]
  go_wp2_with fail
  exact HK.out _ _  ⟨rfl, rfl⟩ (Kc rfl (Kc rfl (Kc rfl (Kc rfl (Kc rfl (Kc h8.symm (Kc rfl (Kc rfl (Kn _ _))))))))) (rfl) rfl
theorem ldR6 (k : UInt8) (a : Act) (w : World) (K : Exit → Act → World → Prop) (hs : Sz 131 a)
    (h6 : sl a 6 = .string (bs [k])) 
    (hK : ∀ a' w', Sz 131 a' → Kp [0, 4, 5, 6, 7, 8, 9, 10] a a' → sl a' 63 = .int .u8 (k.toNat : Int) → w' = w → K .normal a' w') :
    (regionOf Tryz.f223 6).wp Tryz.prog K a w := by
  unfold Kp at hK; rw [ldF_of hs]; clear hs; generalize sl a = u at *; clear a; have HK := Lib.hid hK; clear hK; conv => arg 2; whnf
  simp only [ldF, h6]
  go_wp2_with fail
  exact HK.out _ _  ⟨rfl, rfl⟩ (Kc rfl (Kc rfl (Kc rfl (Kc h6.symm (Kc rfl (Kc rfl (Kc rfl (Kc rfl (Kn _ _))))))))) (rfl) rfl
theorem ldR7 (k : UInt8) (b : Bool) (a : Act) (w : World) (K : Exit → Act → World → Prop) (hs : Sz 131 a)
    (h63 : sl a 63 = .int .u8 (k.toNat : Int)) (hb : ((k.toNat : Int) == 2) = b)
    (hK : ∀ a' w', Sz 131 a' → Kp [0, 4, 5, 6, 7, 8, 9, 10, 63] a a' → sl a' 64 = .bool b → w' = w → K .normal a' w') :
    (regionOf Tryz.f223 7).wp Tryz.prog K a w := by
  unfold Kp at hK; rw [ldF_of hs]; clear hs; generalize sl a = u at *; clear a; have HK := Lib.hid hK; clear hK; conv => arg 2; whnf
  simp only [ldF, h63]
  go_wp2_with fail
  exact HK.out _ _  ⟨rfl, rfl⟩ (Kc rfl (Kc rfl (Kc rfl (Kc rfl (Kc rfl (Kc rfl (Kc rfl (Kc rfl (Kc h63.symm (Kn _ _)))))))))) (rfl) rfl
theorem ldR11 (k : UInt8) (b : Bool) (a : Act) (w : World) (K : Exit → Act → World → Prop) (hs : Sz 131 a)
    (h63 : sl a 63 = .int .u8 (k.toNat : Int)) (hb : ((k.toNat : Int) == 6) = b)
    (hK : ∀ a' w', Sz 131 a' → Kp [0, 4, 5, 6, 7, 8, 9, 10, 63] a a' → sl a' 90 = .bool b → w' = w → K .normal a' w') :
    (regionOf Tryz.f223 11).wp Tryz.prog K a w := by
  unfold Kp at hK; rw [ldF_of hs]; clear hs; generalize sl a = u at *; clear a; have HK := Lib.hid hK; clear hK; conv => arg 2; whnf
  simp only [ldF, h63]
  go_wp2_with fail
  exact HK.out _ _  ⟨rfl, rfl⟩ (Kc rfl (Kc rfl (Kc rfl (Kc rfl (Kc rfl (Kc rfl (Kc rfl (Kc rfl (Kc h63.symm (Kn _ _)))))))))) (rfl) rfl
theorem ldR14 (k : UInt8) (b : Bool) (a : Act) (w : World) (K : Exit → Act → World → Prop) (hs : Sz 131 a)
    (h63 : sl a 63 = .int .u8 (k.toNat : Int)) (hb : ((k.toNat : Int) == 5) = b)
    (hK : ∀ a' w', Sz 131 a' → Kp [0, 4, 5, 6, 7, 8, 9, 10, 63] a a' → sl a' 125 = .bool b → w' = w → K .normal a' w') :
    (regionOf Tryz.f223 14).wp Tryz.prog K a w := by
  unfold Kp at hK; rw [ldF_of hs]; clear hs; generalize sl a = u at *; clear a; have HK := Lib.hid hK; clear hK; conv => arg 2; whnf
  simp only [ldF, h63]
  go_wp2_with fail
  exact HK.out _ _  ⟨rfl, rfl⟩ (Kc rfl (Kc rfl (Kc rfl (Kc rfl (Kc rfl (Kc rfl (Kc rfl (Kc rfl (Kc h63.symm (Kn _ _)))))))))) (rfl) rfl
theorem ldR8a (L : Lay) (s : St) (d : DhcD) (A : Option Addr) (cap n g : Nat) (a : Act) (w : World) (K : Exit → Act → World → Prop) (hs : Sz 131 a)
    (h0 : sl a 0 = .pointer (some ⟨L.p, 0, none⟩)) (h4 : sl a 4 = .pointer (some ⟨g, 0, none⟩)) (h : BootAt w L s) (hD : DhAt w L d A cap n g) (q1 : ((s.lease : Int) == 1) = false)
    (hK : ∀ a' w', Sz 131 a' → Kp [0, 4, 5, 6, 7, 8, 9, 10, 63] a a' → sl a' 76 = .bool false → w' = w → K .normal a' w') :
    (regionOf Tryz.f223 8).wp Tryz.prog K a w := by
  unfold Kp at hK; rw [ldF_of hs]; clear hs; generalize sl a = u at *; clear a; have HK := Lib.hid hK; clear hK; conv => arg 2; whnf
  simp only [ldF, h0, h4]
  have c21 := h.g21
  have c26 := h.g26
  have hGc := hD.bk.cells
  go_wp2_with fail
  exact HK.out _ _  ⟨rfl, rfl⟩ (Kc h0.symm (Kc h4.symm (Kc rfl (Kc rfl (Kc rfl (Kc rfl (Kc rfl (Kc rfl (Kc rfl (Kn _ _)))))))))) (rfl) rfl
theorem ldR12a (L : Lay) (s : St) (d : DhcD) (A : Option Addr) (cap n g : Nat) (fm : Nat) (a : Act) (w : World) (K : Exit → Act → World → Prop) (hs : Sz 131 a)
    (h0 : sl a 0 = .pointer (some ⟨L.p, 0, none⟩)) (h4 : sl a 4 = .pointer (some ⟨g, 0, none⟩)) (h10 : sl a 10 = .int .u32 (fm : Int)) (h : BootAt w L s) (hD : DhAt w L d A cap n g) (q2 : (s.lease : Int) < 2)
    (hK : ∀ a' w', Sz 131 a' → Kp [0, 4, 5, 6, 7, 8, 9, 10, 63] a a' → sl a' 122 = .bool false → w' = w → K .normal a' w') :
    (regionOf Tryz.f223 12).wp Tryz.prog K a w := by
  unfold Kp at hK; rw [ldF_of hs]; clear hs; generalize sl a = u at *; clear a; have HK := Lib.hid hK; clear hK; conv => arg 2; whnf
  simp only [ldF, h0, h4, h10]
  have c21 := h.g21
  have c26 := h.g26
  have hGc := hD.bk.cells
  go_wp2_with fail
  exact HK.out _ _  ⟨rfl, rfl⟩ (Kc h0.symm (Kc h4.symm (Kc rfl (Kc rfl (Kc rfl (Kc rfl (Kc rfl (Kc h10.symm (Kc rfl (Kn _ _)))))))))) (rfl) rfl
end Go.Proofs.YtcbkaiakdhiloabGreatDoor
namespace Go.Proofs.YtcbkaiakdhiloabGreatDoor
open Go.RowKit Go.Proofs
attribute [local go_sem] bs_size bs_append bs_sub bs_toList
theorem arpC_size (x : ArpD) : (arpC x).size = zcArp.size := rfl
theorem arpC_one (x : ArpD) : (arpC x).all (·.oneCell') = true := by kernel_rfl
theorem arp_info (x : ArpD) : (Tryz.prog.info? 67).map (·.size) = some (arpC x).size := by rw [arpC_size]; kernel_rfl
theorem packetReadARP (l : List UInt8) (w : World) (hl : l.length ≤ 9223372036854775807) :
    Calls Tryz.prog 80 #[.string (bs l)] w (arpPost l w) := by
  go_enter Tryz.func80, Tryz.ntmps80
  go_wp2_with fail
  have hx0 := Bk.new w 67 zcArp
  have hf0 : Fr noB w (w.alloc (.cells zcArp 67)) := (Fr.refl _ _).alloc _
  unfold zcArp at hx0 hf0
  generalize w.alloc (.cells #[.int .u16 0, .int .u8 0, .int .u8 0, .int .u8 0, .int .u8 0, .int .u8 0, .int .u8 0, .int .u32 0, .int .u8 0, .int .u8 0, .int .u8 0, .int .u8 0, .int .u8 0, .int .u8 0, .int .u32 0] 67) = w1 at *
  refine (arpRead l _ hl).mono ?_
  rintro e w2 ⟨rfl, hf1⟩
  have hx1 := hx0.keep hf1 (fun x => x)
  have hsz := Lib.hid (arpC_size (readARP l).1)
  have hin := Lib.hid (arp_info (readARP l).1)
  have hon := Lib.hid (arpC_one (readARP l).1)
  generalize hr : readARP l = r at *
  have Hr := Lib.hid hr
  clear hr
  generalize hc : arpC r.1 = c at *
  have Hc := Lib.hid hc
  clear hc
  go_wp2_with ((refine wpList_store_bk rfl 67 (.tmp 2) (.tmp 6) rfl w.heap.size _ _ c rfl rfl hx1 hsz.out hin.out hon.out ?_); intro w9 hx9 hf9)
  refine bodyPost_ret (results_row_tmp Tryz.results80 _ w9 w.heap.size _ c _ _ rfl rfl hx9 Tryz.underlying67 rfl hin.out) rfl ?_
  exact ⟨by rw [Hr.out, Hc.out]; rfl, (hf0.none hf1).trans' hf9 (fun b hb e => by unfold oneB at e; omega)⟩
end Go.Proofs.YtcbkaiakdhiloabGreatDoor
namespace Go.Proofs.YtcbkaiakdhiloabGreatDoor
open Go.RowKit Go.Proofs
attribute [local go_sem] bs_size bs_append bs_extract bs_toList
theorem num_subn (l : List UInt8) (i j n : Nat) (hn : j - i = n) : num (sub l i j) < 256 ^ n := by
  have h := num_lt (sub l i j)
  have h2 : (sub l i j).length ≤ n := by unfold sub; rw [List.length_drop, List.length_take]; omega
  exact Nat.lt_of_lt_of_le h (Nat.pow_le_pow_right (by decide) h2)
theorem readARP_in (l : List UInt8) : (readARP l).1.op < 65536 ∧ (readARP l).1.fi < 4294967296 ∧ (readARP l).1.ti < 4294967296 := by
  unfold readARP
  have h1 := num_subn l 6 8 2 rfl
  have h2 := num_subn l 14 18 4 rfl
  have h3 := num_subn l 24 28 4 rfl
  repeat' split
  all_goals (refine ⟨?_, ?_, ?_⟩ <;> simp [arp0] <;> omega)
theorem learnL_ok {s : St} {ip : Nat} {card : Mac} {m : Bool} (h : s.Ok) : ({ s with cache := learnL s.cache ip card m s.now } : St).Ok := by
  have hw := small2 h.now0 h.now1 60 (by omega)
  have n1 := h.now1
  have n0 := h.now0
  have key : (∀ e ∈ learnL s.cache ip card m s.now, e.waits.length ≤ 1500 ∧ 0 ≤ e.due ∧ e.due ≤ 4611686018427388000) ∧ (learnL s.cache ip card m s.now).length ≤ 4 := by
    unfold learnL
    split
    · split
      · refine ⟨fun e he => ?_, enter_len h.cache⟩
        rcases enter_mem he with rfl | he
        · exact ⟨by simp, by simp only [hw]; omega, by simp only [hw]; omega⟩
        · exact ⟨h.waits e he, h.dues e he⟩
      · exact ⟨fun e he => ⟨h.waits e he, h.dues e he⟩, h.cache⟩
    · refine ⟨fun e he => ?_, by rw [setEnt_len]; exact h.cache⟩
      rcases setEnt_mem he with he | ⟨y, hy, rfl⟩
      · exact ⟨h.waits e he, h.dues e he⟩
      · exact ⟨by simp, by simp only [hw]; omega, by simp only [hw]; omega⟩
  exact { h with waits := fun e he => (key.1 e he).1, dues := fun e he => (key.1 e he).2, cache := key.2 }
def nbF (u : Nat → Value) : Act := ⟨#[u 0, u 1, u 2, u 3, u 4, u 5, u 6, u 7, u 8, u 9, u 10, u 11, u 12, u 13, u 14, u 15, u 16, u 17, u 18, u 19, u 20, u 21, u 22, u 23, u 24, u 25, u 26, u 27, u 28, u 29, u 30, u 31, u 32, u 33, u 34, u 35, u 36, u 37, u 38, u 39, u 40, u 41, u 42, u 43, u 44, u 45, u 46, u 47, u 48, u 49, u 50, u 51, u 52, u 53, u 54, u 55, u 56, u 57, u 58, u 59, u 60, u 61, u 62, u 63, u 64, u 65, u 66, u 67, u 68, u 69, u 70, u 71, u 72, u 73, u 74, u 75, u 76, u 77, u 78, u 79, u 80, u 81, u 82, u 83, u 84, u 85, u 86, u 87, u 88, u 89, u 90, u 91, u 92, u 93, u 94, u 95, u 96, u 97, u 98, u 99, u 100, u 101, u 102, u 103], []⟩
set_option maxRecDepth 100000 in
theorem nbF_eq (u : Nat → Value) : nbF u = frN 104 u := rfl
theorem nbF_of {a : Act} (h : Sz 104 a) : a = nbF (sl a) := h.eq.trans (nbF_eq _).symm
theorem nbR0 (ld : List UInt8) (a : Act) (w : World) (K : Exit → Act → World → Prop) (hs : Sz 104 a)
    (h1 : sl a 1 = .string (bs ld)) (hld : ld.length ≤ 9223372036854775807)
    (hK : ∀ a' w' g, Sz 104 a' → Kp [0, 6, 7] a a' → sl a' 4 = .pointer (some ⟨g, 0, none⟩) → sl a' 5 = .int .i64 ((readARP ld).2 : Int) → Fr noB w w' → Bk w' g 67 (arpC (readARP ld).1) → w.heap.size ≤ g → K .normal a' w') :
    (regionOf Tryz.f178 0).wp Tryz.prog K a w := by
  unfold Kp at hK; rw [nbF_of hs]; clear hs; generalize sl a = u at *; clear a; have HK := Lib.hid hK; clear hK; conv => arg 2; whnf
  simp only [nbF, h1]
  go_wp2_with fail
  refine (packetReadARP ld _ hld).mono ?_
  rintro e w2 ⟨rfl, hf1⟩
  have hsz := Lib.hid (arpC_size (readARP ld).1)
  have hin := Lib.hid (arp_info (readARP ld).1)
  have hon := Lib.hid (arpC_one (readARP ld).1)
  generalize hr : readARP ld = r at *
  have Hr := Lib.hid hr
  clear hr
  generalize hc : arpC r.1 = c at *
  have Hc := Lib.hid hc
  clear hc
  have hx0 := Bk.new w2 67 zcArp
  go_wp2_with ((refine wpList_store_bk rfl 67 (.tmp 4) (.tmp 11) rfl w2.heap.size _ zcArp c rfl rfl hx0 hsz.out hin.out hon.out ?_); intro w9 hx9 hf9)
  exact HK.out _ _ _ ⟨rfl, rfl⟩ (Kc rfl (Kc rfl (Kc rfl (Kn _ _)))) (rfl) (rfl) ((hf1.alloc _).trans' hf9 (fun b hb e => by have e' : b = w2.heap.size := e; have := hf1.size; omega)) hx9 hf1.size
theorem nbR1 (k : Nat) (b : Bool) (a : Act) (w : World) (K : Exit → Act → World → Prop) (hs : Sz 104 a)
    (h5 : sl a 5 = .int .i64 (k : Int)) (hb : ((k : Int) != 0) = b)
    (hK : ∀ a' w', Sz 104 a' → Kp [0, 4, 6, 7] a a' → sl a' 14 = .bool b → w' = w → K .normal a' w') :
    (regionOf Tryz.f178 1).wp Tryz.prog K a w := by
  unfold Kp at hK; rw [nbF_of hs]; clear hs; generalize sl a = u at *; clear a; have HK := Lib.hid hK; clear hK; conv => arg 2; whnf
  simp only [nbF, h5]
  go_wp2_with fail
  exact HK.out _ _  ⟨rfl, rfl⟩ (Kc rfl (Kc rfl (Kc rfl (Kc rfl (Kn _ _))))) (rfl) rfl
attribute [-go_sem] run_eql_struct run_neq_struct run_equalIn_agg in
theorem nbR2a (L : Lay) (s : St) (x : ArpD) (g : Nat) (a : Act) (w : World) (K : Exit → Act → World → Prop) (hs : Sz 104 a)
    (h0 : sl a 0 = .pointer (some ⟨L.p, 0, none⟩)) (h4 : sl a 4 = .pointer (some ⟨g, 0, none⟩)) (h : BootAt w L s) (hG : Bk w g 67 (arpC x)) (q3 : ((s.lease : Int) == 3) = false)
    (hK : ∀ a' w', Sz 104 a' → Kp [0, 4, 6, 7] a a' → sl a' 40 = .bool false → BootAt w' L s → Bk w' g 67 (arpC x) → Fr noB w w' → K .normal a' w') :
    (regionOf Tryz.f178 2).wp Tryz.prog K a w := by
  unfold Kp at hK; rw [nbF_of hs]; clear hs; generalize sl a = u at *; clear a; have HK := Lib.hid hK; clear hK; conv => arg 2; whnf
  have hE : ∀ w, (binOp .neq 23 (.agg #[.int .u8 (x.fm.1.toNat : Int), .int .u8 (x.fm.2.1.toNat : Int), .int .u8 (x.fm.2.2.1.toNat : Int), .int .u8 (x.fm.2.2.2.1.toNat : Int), .int .u8 (x.fm.2.2.2.2.1.toNat : Int), .int .u8 (x.fm.2.2.2.2.2.toNat : Int)]) (.agg #[.int .u8 (s.c.card.1.toNat : Int), .int .u8 (s.c.card.2.1.toNat : Int), .int .u8 (s.c.card.2.2.1.toNat : Int), .int .u8 (s.c.card.2.2.2.1.toNat : Int), .int .u8 (s.c.card.2.2.2.2.1.toNat : Int), .int .u8 (s.c.card.2.2.2.2.2.toNat : Int)])).run Tryz.prog w = .ok (.bool (decide (x.fm ≠ s.c.card))) w := mac_neq x.fm s.c.card
  have hGd := mac_guard
  simp only [nbF, h0, h4]
  refine wp_region_pls (by kernel_rfl) (fun w' => BootAt w' L s ∧ Bk w' g 67 (arpC x) ∧ Fr noB w w') [] (.p 0 (.p 1 (.p 2 (.p 3 (.q 4 (.p 5 (.p 6 (.p 7 (.p 9 (.p 10 (.p 11 (.p 12 (.q 8 (.q 13 (.p 14 (.p 15 (.p 16 (.p 17 (.p 19 (.p 20 (.p 21 (.p 22 (.q 18 (.q 23 (.p 24 (.p 25 .nil)))))))))))))))))))))))))) (by kernel_rfl) (⟨h.drew, hG.drew, (Fr.refl _ _).drew⟩) ?_
  intro ops Q' hO hQ' wr1 hR1
  iterate 4 (refine pl_p0 hO rfl rfl ?_ (fun w' => ?_) ?_; rotate_left 1; (focus (go_simp; ((try with_reducible rfl); done))); simp only [Act.put, List.setIfInBounds_toArray, List.set_cons_zero, List.set_cons_succ])
  refine pl_q0 hO rfl rfl ?_ (fun w' hS => ?_) ?_; rotate_left 1; (focus (obtain ⟨hB, hG, hF⟩ := hS; have hGc := hG.cells; unfold arpC at hGc; have c21 := hB.g21; have c23 := hB.g23; have c16 := hB.g16; have c0 := hB.g0; have c1 := hB.g1; have c2 := hB.g2; have c3 := hB.g3; have c4 := hB.g4; have c5 := hB.g5; go_simp; ((try with_reducible rfl); done))); simp only [Act.put, List.setIfInBounds_toArray, List.set_cons_zero, List.set_cons_succ]
  iterate 2 (refine pl_p0 hO rfl rfl ?_ (fun w' => ?_) ?_; rotate_left 1; (focus (go_simp; ((try with_reducible rfl); done))); simp only [Act.put, List.setIfInBounds_toArray, List.set_cons_zero, List.set_cons_succ])
  iterate 5 (refine pl_pn hO rfl rfl rfl rfl ?_; simp only [Act.put, List.setIfInBounds_toArray, List.set_cons_zero, List.set_cons_succ])
  iterate 2 (refine pl_qn hO rfl rfl rfl rfl ?_; simp only [Act.put, List.setIfInBounds_toArray, List.set_cons_zero, List.set_cons_succ])
  refine pl_pn hO rfl rfl rfl rfl ?_; simp only [Act.put, List.setIfInBounds_toArray, List.set_cons_zero, List.set_cons_succ]
  iterate 2 (refine pl_p0 hO rfl rfl ?_ (fun w' => ?_) ?_; rotate_left 1; (focus (go_simp; ((try with_reducible rfl); done))); simp only [Act.put, List.setIfInBounds_toArray, List.set_cons_zero, List.set_cons_succ])
  iterate 5 (refine pl_pn hO rfl rfl rfl rfl ?_; simp only [Act.put, List.setIfInBounds_toArray, List.set_cons_zero, List.set_cons_succ])
  iterate 2 (refine pl_qn hO rfl rfl rfl rfl ?_; simp only [Act.put, List.setIfInBounds_toArray, List.set_cons_zero, List.set_cons_succ])
  refine pl_pn hO rfl rfl rfl rfl ?_; simp only [Act.put, List.setIfInBounds_toArray, List.set_cons_zero, List.set_cons_succ]
  refine pl_p0 hO rfl rfl ?_ (fun w' => ?_) ?_; rotate_left 1; (focus (go_simp; ((try with_reducible rfl); done))); simp only [Act.put, List.setIfInBounds_toArray, List.set_cons_zero, List.set_cons_succ]
  refine pl_nil (hQ' _ _ ?_)
  exact HK.out _ _  ⟨rfl, rfl⟩ (Kc h0.symm (Kc h4.symm (Kc rfl (Kc rfl (Kn _ _))))) (rfl) hR1.1 hR1.2.1 hR1.2.2
theorem nbR4a (L : Lay) (s : St) (x : ArpD) (g : Nat) (a : Act) (w : World) (K : Exit → Act → World → Prop) (hs : Sz 104 a)
    (h0 : sl a 0 = .pointer (some ⟨L.p, 0, none⟩)) (h4 : sl a 4 = .pointer (some ⟨g, 0, none⟩)) (h : BootAt w L s) (hG : Bk w g 67 (arpC x)) (q : ((s.address : Int) != 0) = false)
    (hK : ∀ a' w', Sz 104 a' → Kp [0, 4, 7] a a' → sl a' 6 = .bool false → BootAt w' L s → Bk w' g 67 (arpC x) → Fr noB w w' → K .normal a' w') :
    (regionOf Tryz.f178 4).wp Tryz.prog K a w := by
  unfold Kp at hK; rw [nbF_of hs]; clear hs; generalize sl a = u at *; clear a; have HK := Lib.hid hK; clear hK; conv => arg 2; whnf
  simp only [nbF, h0, h4]
  refine wp_region_pls (by kernel_rfl) (fun w' => BootAt w' L s ∧ Bk w' g 67 (arpC x) ∧ Fr noB w w') [] (.p 0 (.e 1 (.p 2 (.p 3 (.p 4 (.p 6 (.q 5 (.e 7 (.p 8 (.p 9 (.p 10 .nil))))))))))) (by kernel_rfl) (⟨h.drew, hG.drew, (Fr.refl _ _).drew⟩) ?_
  intro ops Q' hO hQ' wr1 hR1
  refine pl_p0 hO rfl rfl ?_ (fun w' => ?_) ?_; rotate_left 1; (focus (go_simp; ((try with_reducible rfl); done))); simp only [Act.put, List.setIfInBounds_toArray, List.set_cons_zero, List.set_cons_succ]
  refine pl_e0 hO rfl rfl rfl (fun K hK => ?_)
  go_simp
  refine (bootAddress L s _ hR1.1).mono ?_
  rintro e w2 ⟨rfl, rfl⟩
  refine hK _ _ (hR1) (fun hR_1 => ?_)
  clear hK K
  iterate 2 (refine pl_p0 hO rfl rfl ?_ (fun w' => ?_) ?_; rotate_left 1; (focus (go_simp; ((try with_reducible rfl); done))); simp only [Act.put, List.setIfInBounds_toArray, List.set_cons_zero, List.set_cons_succ])
  iterate 2 (refine pl_pn hO rfl rfl rfl rfl ?_; simp only [Act.put, List.setIfInBounds_toArray, List.set_cons_zero, List.set_cons_succ])
  refine pl_qn hO rfl rfl rfl rfl ?_; simp only [Act.put, List.setIfInBounds_toArray, List.set_cons_zero, List.set_cons_succ]
  refine pl_en hO rfl rfl rfl rfl rfl (fun _ => hR_1) ?_
  simp only [Act.put, List.setIfInBounds_toArray, List.set_cons_zero, List.set_cons_succ]
  refine pl_pn hO rfl rfl rfl rfl ?_; simp only [Act.put, List.setIfInBounds_toArray, List.set_cons_zero, List.set_cons_succ]
  iterate 2 (refine pl_p0 hO rfl rfl ?_ (fun w' => ?_) ?_; rotate_left 1; (focus (go_simp; ((try with_reducible rfl); done))); simp only [Act.put, List.setIfInBounds_toArray, List.set_cons_zero, List.set_cons_succ])
  refine pl_nil (hQ' _ _ ?_)
  exact HK.out _ _  ⟨rfl, rfl⟩ (Kc h0.symm (Kc h4.symm (Kc rfl (Kn _ _)))) (rfl) hR_1.1 hR_1.2.1 hR_1.2.2
theorem nbR5a (L : Lay) (s : St) (x : ArpD) (g : Nat) (a : Act) (w : World) (K : Exit → Act → World → Prop) (hs : Sz 104 a)
    (h0 : sl a 0 = .pointer (some ⟨L.p, 0, none⟩)) (h4 : sl a 4 = .pointer (some ⟨g, 0, none⟩)) (h : BootAt w L s) (hG : Bk w g 67 (arpC x)) (q : ((x.fi : Int) != 0) = false)
    (hK : ∀ a' w', Sz 104 a' → Kp [0, 4, 6, 7] a a' → sl a' 62 = .bool false → BootAt w' L s → Bk w' g 67 (arpC x) → Fr noB w w' → K .normal a' w') :
    (regionOf Tryz.f178 5).wp Tryz.prog K a w := by
  unfold Kp at hK; rw [nbF_of hs]; clear hs; generalize sl a = u at *; clear a; have HK := Lib.hid hK; clear hK; conv => arg 2; whnf
  simp only [nbF, h0, h4]
  refine wp_region_pls (by kernel_rfl) (fun w' => BootAt w' L s ∧ Bk w' g 67 (arpC x) ∧ Fr noB w w') [] (.p 0 (.q 1 (.p 2 (.p 3 (.p 4 (.p 6 (.q 5 (.e 7 (.p 8 (.p 9 .nil)))))))))) (by kernel_rfl) (⟨h.drew, hG.drew, (Fr.refl _ _).drew⟩) ?_
  intro ops Q' hO hQ' wr1 hR1
  refine pl_p0 hO rfl rfl ?_ (fun w' => ?_) ?_; rotate_left 1; (focus (go_simp; ((try with_reducible rfl); done))); simp only [Act.put, List.setIfInBounds_toArray, List.set_cons_zero, List.set_cons_succ]
  refine pl_q0 hO rfl rfl ?_ (fun w' hS => ?_) ?_; rotate_left 1; (focus (obtain ⟨hB, hG, hF⟩ := hS; have hGc := hG.cells; unfold arpC at hGc; have c21 := hB.g21; have c23 := hB.g23; have c16 := hB.g16; have c0 := hB.g0; have c1 := hB.g1; have c2 := hB.g2; have c3 := hB.g3; have c4 := hB.g4; have c5 := hB.g5; go_simp; ((try with_reducible rfl); done))); simp only [Act.put, List.setIfInBounds_toArray, List.set_cons_zero, List.set_cons_succ]
  iterate 2 (refine pl_p0 hO rfl rfl ?_ (fun w' => ?_) ?_; rotate_left 1; (focus (go_simp; ((try with_reducible rfl); done))); simp only [Act.put, List.setIfInBounds_toArray, List.set_cons_zero, List.set_cons_succ])
  iterate 2 (refine pl_pn hO rfl rfl rfl rfl ?_; simp only [Act.put, List.setIfInBounds_toArray, List.set_cons_zero, List.set_cons_succ])
  refine pl_qn hO rfl rfl rfl rfl ?_; simp only [Act.put, List.setIfInBounds_toArray, List.set_cons_zero, List.set_cons_succ]
  refine pl_en hO rfl rfl rfl rfl rfl (fun _ => hR1) ?_
  simp only [Act.put, List.setIfInBounds_toArray, List.set_cons_zero, List.set_cons_succ]
  refine pl_pn hO rfl rfl rfl rfl ?_; simp only [Act.put, List.setIfInBounds_toArray, List.set_cons_zero, List.set_cons_succ]
  refine pl_p0 hO rfl rfl ?_ (fun w' => ?_) ?_; rotate_left 1; (focus (go_simp; ((try with_reducible rfl); done))); simp only [Act.put, List.setIfInBounds_toArray, List.set_cons_zero, List.set_cons_succ]
  refine pl_nil (hQ' _ _ ?_)
  exact HK.out _ _  ⟨rfl, rfl⟩ (Kc h0.symm (Kc h4.symm (Kc rfl (Kc rfl (Kn _ _))))) (rfl) hR1.1 hR1.2.1 hR1.2.2
theorem nbR5b (L : Lay) (s : St) (x : ArpD) (g : Nat) (b : Bool) (a : Act) (w : World) (K : Exit → Act → World → Prop) (hs : Sz 104 a)
    (h0 : sl a 0 = .pointer (some ⟨L.p, 0, none⟩)) (h4 : sl a 4 = .pointer (some ⟨g, 0, none⟩)) (h : BootAt w L s) (hG : Bk w g 67 (arpC x)) (q : ((x.fi : Int) != 0) = true) (hb : ((x.fi : Int) != (s.address : Int)) = b)
    (hK : ∀ a' w', Sz 104 a' → Kp [0, 4, 6, 7] a a' → sl a' 62 = .bool b → BootAt w' L s → Bk w' g 67 (arpC x) → Fr noB w w' → K .normal a' w') :
    (regionOf Tryz.f178 5).wp Tryz.prog K a w := by
  unfold Kp at hK; rw [nbF_of hs]; clear hs; generalize sl a = u at *; clear a; have HK := Lib.hid hK; clear hK; conv => arg 2; whnf
  simp only [nbF, h0, h4]
  refine wp_region_pls (by kernel_rfl) (fun w' => BootAt w' L s ∧ Bk w' g 67 (arpC x) ∧ Fr noB w w') [] (.p 0 (.q 1 (.p 2 (.p 3 (.p 4 (.p 6 (.q 5 (.e 7 (.p 8 (.p 9 .nil)))))))))) (by kernel_rfl) (⟨h.drew, hG.drew, (Fr.refl _ _).drew⟩) ?_
  intro ops Q' hO hQ' wr1 hR1
  refine pl_p0 hO rfl rfl ?_ (fun w' => ?_) ?_; rotate_left 1; (focus (go_simp; ((try with_reducible rfl); done))); simp only [Act.put, List.setIfInBounds_toArray, List.set_cons_zero, List.set_cons_succ]
  refine pl_q0 hO rfl rfl ?_ (fun w' hS => ?_) ?_; rotate_left 1; (focus (obtain ⟨hB, hG, hF⟩ := hS; have hGc := hG.cells; unfold arpC at hGc; have c21 := hB.g21; have c23 := hB.g23; have c16 := hB.g16; have c0 := hB.g0; have c1 := hB.g1; have c2 := hB.g2; have c3 := hB.g3; have c4 := hB.g4; have c5 := hB.g5; go_simp; ((try with_reducible rfl); done))); simp only [Act.put, List.setIfInBounds_toArray, List.set_cons_zero, List.set_cons_succ]
  iterate 2 (refine pl_p0 hO rfl rfl ?_ (fun w' => ?_) ?_; rotate_left 1; (focus (go_simp; ((try with_reducible rfl); done))); simp only [Act.put, List.setIfInBounds_toArray, List.set_cons_zero, List.set_cons_succ])
  iterate 2 (refine pl_p1 hO rfl rfl rfl rfl ?_ (fun w' => ?_) ?_; rotate_left 1; (focus (go_simp; ((try with_reducible rfl); done))); simp only [Act.put, List.setIfInBounds_toArray, List.set_cons_zero, List.set_cons_succ])
  refine pl_q1 hO rfl rfl rfl rfl ?_ (fun w' hS => ?_) ?_; rotate_left 1; (focus (obtain ⟨hB, hG, hF⟩ := hS; have hGc := hG.cells; unfold arpC at hGc; have c21 := hB.g21; have c23 := hB.g23; have c16 := hB.g16; have c0 := hB.g0; have c1 := hB.g1; have c2 := hB.g2; have c3 := hB.g3; have c4 := hB.g4; have c5 := hB.g5; go_simp; ((try with_reducible rfl); done))); simp only [Act.put, List.setIfInBounds_toArray, List.set_cons_zero, List.set_cons_succ]
  refine pl_e1 hO rfl rfl rfl rfl rfl (fun K hK => ?_)
  go_simp
  refine (bootAddress L s _ hR1.1).mono ?_
  rintro e w2 ⟨rfl, rfl⟩
  refine hK _ _ (hR1) (fun hR_7 => ?_)
  clear hK K
  refine pl_p1 hO rfl rfl rfl rfl ?_ (fun w' => ?_) ?_; rotate_left 1; (focus (go_simp; ((try with_reducible rfl); done))); simp only [Act.put, List.setIfInBounds_toArray, List.set_cons_zero, List.set_cons_succ]
  refine pl_p0 hO rfl rfl ?_ (fun w' => ?_) ?_; rotate_left 1; (focus (go_simp; ((try with_reducible rfl); done))); simp only [Act.put, List.setIfInBounds_toArray, List.set_cons_zero, List.set_cons_succ]
  refine pl_nil (hQ' _ _ ?_)
  exact HK.out _ _  ⟨rfl, rfl⟩ (Kc h0.symm (Kc h4.symm (Kc rfl (Kc rfl (Kn _ _))))) (rfl) hR_7.1 hR_7.2.1 hR_7.2.2
theorem nbR6a (L : Lay) (s : St) (x : ArpD) (g : Nat) (a : Act) (w : World) (K : Exit → Act → World → Prop) (hs : Sz 104 a)
    (h0 : sl a 0 = .pointer (some ⟨L.p, 0, none⟩)) (h4 : sl a 4 = .pointer (some ⟨g, 0, none⟩)) (h6 : sl a 6 = .bool false) (h : BootAt w L s) (hG : Bk w g 67 (arpC x)) (hfi : x.fi < 4294967296) (hg : ¬ own' L g) 
    (hK : ∀ a' w', Sz 104 a' → Kp [0, 4, 6] a a' → sl a' 7 = .string (bs (learnRes s.cache x.fi)) → BootAt w' L { s with cache := learnL s.cache x.fi x.fm false s.now } → Bk w' g 67 (arpC x) → Fr (own' L) w w' → K .normal a' w') :
    (regionOf Tryz.f178 6).wp Tryz.prog K a w := by
  unfold Kp at hK; rw [nbF_of hs]; clear hs; generalize sl a = u at *; clear a; have HK := Lib.hid hK; clear hK; conv => arg 2; whnf
  simp only [nbF, h0, h4, h6]
  refine wp_region_pls (by kernel_rfl) (fun w' => BootAt w' L s ∧ Bk w' g 67 (arpC x) ∧ Fr noB w w') [17] (.p 0 (.p 1 (.p 2 (.p 3 (.p 5 (.p 7 (.p 8 (.p 9 (.p 13 (.p 14 (.p 15 (.q 4 (.q 6 (.q 10 (.p 11 (.p 12 (.q 16 (.e 17 (.p 18 .nil))))))))))))))))))) (by kernel_rfl) (⟨h.drew, hG.drew, (Fr.refl _ _).drew⟩) ?_
  intro ops Q' hO hQ' wr1 hR1
  iterate 7 (refine pl_p0 hO rfl rfl ?_ (fun w' => ?_) ?_; rotate_left 1; (focus (go_simp; ((try with_reducible rfl); done))); simp only [Act.put, List.setIfInBounds_toArray, List.set_cons_zero, List.set_cons_succ])
  refine pl_pn hO rfl rfl rfl rfl ?_; simp only [Act.put, List.setIfInBounds_toArray, List.set_cons_zero, List.set_cons_succ]
  iterate 3 (refine pl_p0 hO rfl rfl ?_ (fun w' => ?_) ?_; rotate_left 1; (focus (go_simp; ((try with_reducible rfl); done))); simp only [Act.put, List.setIfInBounds_toArray, List.set_cons_zero, List.set_cons_succ])
  iterate 2 (refine pl_q0 hO rfl rfl ?_ (fun w' hS => ?_) ?_; rotate_left 1; (focus (obtain ⟨hB, hG, hF⟩ := hS; have hGc := hG.cells; unfold arpC at hGc; have c21 := hB.g21; have c23 := hB.g23; have c16 := hB.g16; have c0 := hB.g0; have c1 := hB.g1; have c2 := hB.g2; have c3 := hB.g3; have c4 := hB.g4; have c5 := hB.g5; go_simp; ((try with_reducible rfl); done))); simp only [Act.put, List.setIfInBounds_toArray, List.set_cons_zero, List.set_cons_succ])
  refine pl_qn hO rfl rfl rfl rfl ?_; simp only [Act.put, List.setIfInBounds_toArray, List.set_cons_zero, List.set_cons_succ]
  refine pl_pn hO rfl rfl rfl rfl ?_; simp only [Act.put, List.setIfInBounds_toArray, List.set_cons_zero, List.set_cons_succ]
  refine pl_p0 hO rfl rfl ?_ (fun w' => ?_) ?_; rotate_left 1; (focus (go_simp; ((try with_reducible rfl); done))); simp only [Act.put, List.setIfInBounds_toArray, List.set_cons_zero, List.set_cons_succ]
  refine pl_q0 hO rfl rfl ?_ (fun w' hS => ?_) ?_; rotate_left 1; (focus (obtain ⟨hB, hG, hF⟩ := hS; have hGc := hG.cells; unfold arpC at hGc; have c21 := hB.g21; have c23 := hB.g23; have c16 := hB.g16; have c0 := hB.g0; have c1 := hB.g1; have c2 := hB.g2; have c3 := hB.g3; have c4 := hB.g4; have c5 := hB.g5; go_simp; ((try with_reducible rfl); done))); simp only [Act.put, List.setIfInBounds_toArray, List.set_cons_zero, List.set_cons_succ]
  refine pl_b0 hO rfl rfl rfl (fun K hK => ?_)
  go_simp
  have hne := hR1.1.ne
  simp only [Lay.blocks, List.nodup_cons, List.mem_cons, List.not_mem_nil, or_false, not_or] at hne
  refine (cacheLearn L.p 15 L.mp x.fi s.cache x.fm.1 x.fm.2.1 x.fm.2.2.1 x.fm.2.2.2.1 x.fm.2.2.2.2.1 x.fm.2.2.2.2.2 false s.now _ hR1.1.g15 (fun x => hne.1.2.2.2.2 x) hR1.1.mp hR1.1.ok.dues hR1.1.ok.cache hfi).mono ?_
  rintro e w4 ⟨rfl, hm4, hf4⟩
  refine hK _ _ ?_
  clear hK K
  refine pl_p0 hO rfl rfl ?_ (fun w' => ?_) ?_; rotate_left 1; (focus (go_simp; ((try with_reducible rfl); done))); simp only [Act.put, List.setIfInBounds_toArray, List.set_cons_zero, List.set_cons_succ]
  refine pl_nil (hQ' _ _ ?_)
  exact HK.out _ _  ⟨rfl, rfl⟩ (Kc h0.symm (Kc h4.symm (Kc h6.symm (Kn _ _)))) (rfl) (hR1.1.mpTurn hf4 hm4 (learnL_ok hR1.1.ok)) (hR1.2.1.keep hf4 (fun e => hg (by obtain rfl : g = L.mp := e; exact own_mp L))) ((hR1.2.2.of_no _).trans (hf4.mono fun b _ hb => by obtain rfl : b = L.mp := hb; exact own_mp L))
theorem nbR7b  (a : Act) (w : World) (K : Exit → Act → World → Prop) (hs : Sz 104 a)
    (h7 : sl a 7 = .string ⟨#[]⟩) 
    (hK : ∀ a' w', Sz 104 a' → Kp [0, 4, 6, 7] a a' → sl a' 82 = .bool false → w' = w → K .normal a' w') :
    (regionOf Tryz.f178 7).wp Tryz.prog K a w := by
  unfold Kp at hK; rw [nbF_of hs]; clear hs; generalize sl a = u at *; clear a; have HK := Lib.hid hK; clear hK; conv => arg 2; whnf
  simp only [nbF, h7]
  go_wp2_with fail
  exact HK.out _ _  ⟨rfl, rfl⟩ (Kc rfl (Kc rfl (Kc rfl (Kc h7.symm (Kn _ _))))) (rfl) rfl
theorem nbR9a (L : Lay) (s : St) (x : ArpD) (g : Nat) (a : Act) (w : World) (K : Exit → Act → World → Prop) (hs : Sz 104 a)
    (h4 : sl a 4 = .pointer (some ⟨g, 0, none⟩)) (h6 : sl a 6 = .bool false) (h : BootAt w L s) (hG : Bk w g 67 (arpC x))
    (hK : ∀ a' w', Sz 104 a' → Kp [0, 4, 6, 7] a a' → sl a' 93 = .bool false → w' = w → K .normal a' w') :
    (regionOf Tryz.f178 9).wp Tryz.prog K a w := by
  unfold Kp at hK; rw [nbF_of hs]; clear hs; generalize sl a = u at *; clear a; have HK := Lib.hid hK; clear hK; conv => arg 2; whnf
  simp only [nbF, h4, h6]
  have hGc := hG.cells
  unfold arpC at hGc
  go_wp2_with fail
  exact HK.out _ _  ⟨rfl, rfl⟩ (Kc rfl (Kc h4.symm (Kc h6.symm (Kc rfl (Kn _ _))))) (rfl) rfl
end Go.Proofs.YtcbkaiakdhiloabGreatDoor
namespace Go.Proofs.YtcbkaiakdhiloabGreatDoor
open Go.RowKit Go.Proofs
attribute [local go_sem] bs_size bs_append bs_sub bs_toList
theorem ipC_size (x : IpD) : (ipC x).size = zcIp4.size := rfl
theorem ipC_one (x : IpD) : (ipC x).all (·.oneCell') = true := by kernel_rfl
theorem ip_info (x : IpD) : (Tryz.prog.info? 36).map (·.size) = some (ipC x).size := by rw [ipC_size]; kernel_rfl
theorem packetReadIP (l : List UInt8) (w : World) (hl : l.length ≤ 9223372036854775807) :
    Calls Tryz.prog 27 #[.string (bs l)] w (ipPost l w) := by
  go_enter Tryz.func27, Tryz.ntmps27
  have hmf : ∀ (fn : Fn) (first cap : Array Value) (w : World), (Instr.makeFunc fn first cap).run Tryz.prog w = .ok (.func fn first cap) w := fun _ _ _ _ => rfl
  go_wp2_with fail
  have hs0 := (Bk.new w 9 #[.string (bs l)]).alloc (.cells zcIp4 36)
  have hx0 := Bk.new (w.alloc (.cells #[.string (bs l)] 9)) 36 zcIp4
  rw [show (w.alloc (.cells #[.string (bs l)] 9)).heap.size = w.heap.size + 1 by simp] at hx0
  have hf0 : Fr noB w ((w.alloc (.cells #[.string (bs l)] 9)).alloc (.cells zcIp4 36)) := ((Fr.refl _ _).alloc _).alloc _
  unfold zcIp4 at hs0 hx0 hf0
  generalize (w.alloc (.cells #[.string (bs l)] 9)).alloc (.cells #[.int .u16 0, .int .u8 0, .int .u8 0, .int .u32 0, .int .u32 0, .string ⟨#[]⟩] 36) = w1 at *
  refine (ipRead l w.heap.size _ hs0 hl).mono ?_
  rintro e w2 ⟨rfl, hf1⟩
  have hx1 := hx0.keep hf1 (fun x => x)
  have hsz := Lib.hid (ipC_size (readIP l).1)
  have hin := Lib.hid (ip_info (readIP l).1)
  have hon := Lib.hid (ipC_one (readIP l).1)
  generalize hr : readIP l = r at *
  have Hr := Lib.hid hr
  clear hr
  generalize hc : ipC r.1 = c at *
  have Hc := Lib.hid hc
  clear hc
  go_wp2_with ((refine wpList_store_bk rfl 36 (.tmp 2) (.tmp 7) rfl (w.heap.size + 1) _ _ c rfl rfl hx1 hsz.out hin.out hon.out ?_); intro w9 hx9 hf9)
  refine bodyPost_ret (results_row_tmp Tryz.results27 _ w9 (w.heap.size + 1) _ c _ _ rfl rfl hx9 Tryz.underlying36 rfl hin.out) rfl ?_
  exact ⟨by rw [Hr.out, Hc.out]; rfl, (hf0.none hf1).trans' hf9 (fun b hb e => by unfold oneB at e; omega)⟩
end Go.Proofs.YtcbkaiakdhiloabGreatDoor
