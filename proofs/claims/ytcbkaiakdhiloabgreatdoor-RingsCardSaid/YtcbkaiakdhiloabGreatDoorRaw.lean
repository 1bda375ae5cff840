/- Parts of the walk; written by programs, merged. -/
import Derived.Test.YtcbkaiakdhiloabGreatDoorRat
import Derived.Test.YtcbkaiakdhiloabGreatDoorRav
set_option linter.unusedSimpArgs false
set_option linter.unusedVariables false
set_option maxRecDepth 20000
set_option maxHeartbeats 8000000
set_option maxRecDepth 20000
namespace Go.Proofs.YtcbkaiakdhiloabGreatDoor
open Go.RowKit Go.Proofs
attribute [local go_sem] bs_size bs_append bs_extract bs_toList
def nfrF (u : Nat → Value) : Act := ⟨#[u 0, u 1, u 2, u 3, u 4, u 5, u 6, u 7, u 8, u 9, u 10, u 11, u 12, u 13, u 14, u 15, u 16, u 17, u 18, u 19, u 20, u 21, u 22, u 23, u 24, u 25, u 26, u 27, u 28, u 29, u 30, u 31, u 32, u 33, u 34, u 35, u 36, u 37, u 38, u 39, u 40, u 41, u 42, u 43, u 44, u 45, u 46, u 47, u 48, u 49, u 50, u 51, u 52, u 53, u 54, u 55, u 56, u 57, u 58, u 59, u 60, u 61, u 62, u 63, u 64, u 65, u 66, u 67, u 68, u 69, u 70, u 71, u 72, u 73, u 74, u 75, u 76, u 77, u 78, u 79, u 80, u 81, u 82, u 83, u 84, u 85, u 86, u 87, u 88, u 89, u 90, u 91, u 92, u 93, u 94, u 95, u 96, u 97, u 98, u 99, u 100, u 101, u 102, u 103, u 104, u 105, u 106, u 107, u 108, u 109, u 110, u 111, u 112, u 113, u 114, u 115, u 116, u 117, u 118, u 119, u 120, u 121, u 122, u 123, u 124, u 125, u 126, u 127, u 128, u 129, u 130, u 131, u 132, u 133, u 134, u 135, u 136, u 137, u 138, u 139, u 140, u 141, u 142, u 143, u 144, u 145, u 146, u 147, u 148, u 149, u 150, u 151, u 152, u 153, u 154, u 155, u 156, u 157, u 158, u 159, u 160, u 161, u 162, u 163, u 164, u 165, u 166, u 167, u 168, u 169, u 170, u 171, u 172, u 173, u 174], []⟩
set_option maxRecDepth 100000 in
theorem nfrF_eq (u : Nat → Value) : nfrF u = frN 175 u := rfl
theorem nfrF_of {a : Act} (h : Sz 175 a) : a = nfrF (sl a) := h.eq.trans (nfrF_eq _).symm
theorem nfrR0 (ld : List UInt8) (a : Act) (w : World) (K : KT) (hs : Sz 175 a)
    (h1 : sl a 1 = .string (bs ld)) (hld : ld.length ≤ 9223372036854775807)
    (hK : ∀ a' w' g, Sz 175 a' → Kp [0, 6, 7, 8, 9, 10, 11, 12] a a' → sl a' 4 = .pointer (some ⟨g, 0, none⟩) → sl a' 5 = .int .i64 ((readEther ld).2 : Int) → Fr noB w w' → Bk w' g 27 (ethC (readEther ld).1) → w.heap.size ≤ g → K .normal a' w') :
    (regionOf Tryz.f153 0).wp Tryz.prog K a w := by
  refine rgE hK (nfrF_of hs) fun HK => ?_; clear hK hs
  simp only [nfrF, h1]
  go_wp2_with fail
  refine (refReadEther ld _ hld).mono ?_
  rintro e w2 ⟨rfl, hf1⟩
  have hsz := Lib.hid (ethC_size (readEther ld).1)
  have hin := Lib.hid (eth_info (readEther ld).1)
  have hon := Lib.hid (ethC_one (readEther ld).1)
  generalize hr : (readEther ld) = r at *
  clear hr
  generalize hc : ethC r.1 = c at *
  clear hc
  have hx0 := Bk.new w2 27 zcEth
  go_wp2_with ((refine wpList_store_bk rfl 27 (.tmp 4) (.tmp 18) rfl w2.heap.size _ zcEth c rfl rfl hx0 hsz.out hin.out hon.out ?_); intro w9 hx9 hf9)
  exact HK.out _ _ _ ⟨rfl, rfl⟩ kk (rfl) (rfl) ((hf1.alloc _).trans' hf9 (fun b hb e => by have e' : b = w2.heap.size := e; have := hf1.size; omega)) hx9 hf1.size
attribute [-go_sem] run_eql_struct run_neq_struct run_equalIn_agg in
theorem nfrR1a (p T : Nat) (M : MLay) (s : St) (x : EthD) (g : Nat) (k : Nat) (a : Act) (w : World) (K : KT) (hs : Sz 175 a)
    (h0 : sl a 0 = .pointer (some ⟨p, 0, none⟩)) (h4 : sl a 4 = .pointer (some ⟨g, 0, none⟩)) (h5 : sl a 5 = .int .i64 (k : Int)) (h : ModelAt w p T M s) (hG : Bk w g 27 (ethC x)) (qk : ((k : Int) != 0) = true) 
    (hK : ∀ a' w', Sz 175 a' → Kp [0, 4, 5, 6, 7, 8, 9, 10, 11, 12] a a' → sl a' 37 = .bool true → ModelAt w' p T M s → Bk w' g 27 (ethC x) → Fr noB w w' → K .normal a' w') :
    (regionOf Tryz.f153 1).wp Tryz.prog K a w := by
  refine rgE hK (nfrF_of hs) fun HK => ?_; clear hK hs
  have hE2 : ∀ w, (binOp .neq 23 (.agg #[.int .u8 (x.to.1.toNat : Int), .int .u8 (x.to.2.1.toNat : Int), .int .u8 (x.to.2.2.1.toNat : Int), .int .u8 (x.to.2.2.2.1.toNat : Int), .int .u8 (x.to.2.2.2.2.1.toNat : Int), .int .u8 (x.to.2.2.2.2.2.toNat : Int)]) (.agg #[.int .u8 255, .int .u8 255, .int .u8 255, .int .u8 255, .int .u8 255, .int .u8 255])).run Tryz.prog w = .ok (.bool (decide (x.«to» ≠ aMac))) w := fun w => mac_neq x.«to» aMac w
  have hGd := mac_guard
  simp only [nfrF, h0, h4, h5]
  refine wp_region_pls (by kernel_rfl) (fun w' => ModelAt w' p T M s ∧ Bk w' g 27 (ethC x) ∧ Fr noB w w') [] (.p 0 (.p 1 (.p 2 (.p 3 (.p 5 (.p 6 (.p 7 (.p 8 (.q 4 (.q 9 (.p 10 (.p 11 (.p 12 (.q 13 (.q 14 (.p 15 (.p 16 (.p 17 .nil)))))))))))))))))) (by kernel_rfl) (⟨h.drew, hG.drew, (Fr.refl _ _).drew⟩) ?_
  intro ops Q' hO hQ' wr1 hR1
  iterate 3 refine pP hO ?_
  iterate 5 refine pN hO ?_
  iterate 2 refine qN hO ?_
  iterate 2 refine pN hO ?_
  refine pU hO ?_
  iterate 2 refine qU hO ?_
  refine pU hO ?_
  refine pN hO ?_
  refine pP hO ?_
  refine pl_nil (hQ' _ _ ?_)
  exact HK.out _ _ ⟨rfl, rfl⟩ kk (rfl) hR1.1 hR1.2.1 hR1.2.2
attribute [-go_sem] run_eql_struct run_neq_struct run_equalIn_agg in
theorem nfrR1b (p T : Nat) (M : MLay) (s : St) (x : EthD) (g : Nat) (k : Nat) (a : Act) (w : World) (K : KT) (hs : Sz 175 a)
    (h0 : sl a 0 = .pointer (some ⟨p, 0, none⟩)) (h4 : sl a 4 = .pointer (some ⟨g, 0, none⟩)) (h5 : sl a 5 = .int .i64 (k : Int)) (h : ModelAt w p T M s) (hG : Bk w g 27 (ethC x)) (qk : ((k : Int) != 0) = false) (q1 : decide (x.«to» ≠ s.c.card) = false) 
    (hK : ∀ a' w', Sz 175 a' → Kp [0, 4, 5, 6, 7, 8, 9, 10, 11, 12] a a' → sl a' 37 = .bool false → ModelAt w' p T M s → Bk w' g 27 (ethC x) → Fr noB w w' → K .normal a' w') :
    (regionOf Tryz.f153 1).wp Tryz.prog K a w := by
  refine rgE hK (nfrF_of hs) fun HK => ?_; clear hK hs
  have hE1 : ∀ w, (binOp .neq 23 (.agg #[.int .u8 (x.to.1.toNat : Int), .int .u8 (x.to.2.1.toNat : Int), .int .u8 (x.to.2.2.1.toNat : Int), .int .u8 (x.to.2.2.2.1.toNat : Int), .int .u8 (x.to.2.2.2.2.1.toNat : Int), .int .u8 (x.to.2.2.2.2.2.toNat : Int)]) (.agg #[.int .u8 (s.c.card.1.toNat : Int), .int .u8 (s.c.card.2.1.toNat : Int), .int .u8 (s.c.card.2.2.1.toNat : Int), .int .u8 (s.c.card.2.2.2.1.toNat : Int), .int .u8 (s.c.card.2.2.2.2.1.toNat : Int), .int .u8 (s.c.card.2.2.2.2.2.toNat : Int)])).run Tryz.prog w = .ok (.bool false) w := fun w => (mac_neq x.«to» s.c.card w).trans (by rw [q1])
  have hE2 : ∀ w, (binOp .neq 23 (.agg #[.int .u8 (x.to.1.toNat : Int), .int .u8 (x.to.2.1.toNat : Int), .int .u8 (x.to.2.2.1.toNat : Int), .int .u8 (x.to.2.2.2.1.toNat : Int), .int .u8 (x.to.2.2.2.2.1.toNat : Int), .int .u8 (x.to.2.2.2.2.2.toNat : Int)]) (.agg #[.int .u8 255, .int .u8 255, .int .u8 255, .int .u8 255, .int .u8 255, .int .u8 255])).run Tryz.prog w = .ok (.bool (decide (x.«to» ≠ aMac))) w := fun w => mac_neq x.«to» aMac w
  have hGd := mac_guard
  simp only [nfrF, h0, h4, h5]
  refine wp_region_pls (by kernel_rfl) (fun w' => ModelAt w' p T M s ∧ Bk w' g 27 (ethC x) ∧ Fr noB w w') [] (.p 0 (.p 1 (.p 2 (.p 3 (.p 5 (.p 6 (.p 7 (.p 8 (.q 4 (.q 9 (.p 10 (.p 11 (.p 12 (.q 13 (.q 14 (.p 15 (.p 16 (.p 17 .nil)))))))))))))))))) (by kernel_rfl) (⟨h.drew, hG.drew, (Fr.refl _ _).drew⟩) ?_
  intro ops Q' hO hQ' wr1 hR1
  iterate 3 refine pP hO ?_
  iterate 5 refine pR hO ?_
  iterate 2 (refine pS hO rfl rfl rfl rfl (fun w' hS => by obtain ⟨hB, hG, hF⟩ := hS; have hGc := hG.cells; unfold ethC at hGc; have c1 := hB.g1; have c2 := hB.g2; have c3 := hB.g3; have c4 := hB.g4; have c5 := hB.g5; have c6 := hB.g6; have o0 := hB.all.2 0 _ rfl; have o1 := hB.all.2 1 _ rfl; have o2 := hB.all.2 2 _ rfl; have o3 := hB.all.2 3 _ rfl; have o4 := hB.all.2 4 _ rfl; have o5 := hB.all.2 5 _ rfl; exact qd) ?_)
  iterate 2 refine pR hO ?_
  refine pN hO ?_
  iterate 2 refine qN hO ?_
  refine pN hO ?_
  refine pR hO ?_
  refine pP hO ?_
  refine pl_nil (hQ' _ _ ?_)
  exact HK.out _ _ ⟨rfl, rfl⟩ kk (rfl) hR1.1 hR1.2.1 hR1.2.2
attribute [-go_sem] run_eql_struct run_neq_struct run_equalIn_agg in
theorem nfrR1c (p T : Nat) (M : MLay) (s : St) (x : EthD) (g : Nat) (k : Nat) (a : Act) (w : World) (K : KT) (hs : Sz 175 a)
    (h0 : sl a 0 = .pointer (some ⟨p, 0, none⟩)) (h4 : sl a 4 = .pointer (some ⟨g, 0, none⟩)) (h5 : sl a 5 = .int .i64 (k : Int)) (h : ModelAt w p T M s) (hG : Bk w g 27 (ethC x)) (qk : ((k : Int) != 0) = false) (q1 : decide (x.«to» ≠ s.c.card) = true) 
    (hK : ∀ a' w', Sz 175 a' → Kp [0, 4, 5, 6, 7, 8, 9, 10, 11, 12] a a' → sl a' 37 = .bool (!decide (x.«to» = aMac)) → ModelAt w' p T M s → Bk w' g 27 (ethC x) → Fr noB w w' → K .normal a' w') :
    (regionOf Tryz.f153 1).wp Tryz.prog K a w := by
  refine rgE hK (nfrF_of hs) fun HK => ?_; clear hK hs
  have hE1 : ∀ w, (binOp .neq 23 (.agg #[.int .u8 (x.to.1.toNat : Int), .int .u8 (x.to.2.1.toNat : Int), .int .u8 (x.to.2.2.1.toNat : Int), .int .u8 (x.to.2.2.2.1.toNat : Int), .int .u8 (x.to.2.2.2.2.1.toNat : Int), .int .u8 (x.to.2.2.2.2.2.toNat : Int)]) (.agg #[.int .u8 (s.c.card.1.toNat : Int), .int .u8 (s.c.card.2.1.toNat : Int), .int .u8 (s.c.card.2.2.1.toNat : Int), .int .u8 (s.c.card.2.2.2.1.toNat : Int), .int .u8 (s.c.card.2.2.2.2.1.toNat : Int), .int .u8 (s.c.card.2.2.2.2.2.toNat : Int)])).run Tryz.prog w = .ok (.bool true) w := fun w => (mac_neq x.«to» s.c.card w).trans (by rw [q1])
  have hE2 : ∀ w, (binOp .neq 23 (.agg #[.int .u8 (x.to.1.toNat : Int), .int .u8 (x.to.2.1.toNat : Int), .int .u8 (x.to.2.2.1.toNat : Int), .int .u8 (x.to.2.2.2.1.toNat : Int), .int .u8 (x.to.2.2.2.2.1.toNat : Int), .int .u8 (x.to.2.2.2.2.2.toNat : Int)]) (.agg #[.int .u8 255, .int .u8 255, .int .u8 255, .int .u8 255, .int .u8 255, .int .u8 255])).run Tryz.prog w = .ok (.bool (decide (x.«to» ≠ aMac))) w := fun w => mac_neq x.«to» aMac w
  have hGd := mac_guard
  simp only [nfrF, h0, h4, h5]
  refine wp_region_pls (by kernel_rfl) (fun w' => ModelAt w' p T M s ∧ Bk w' g 27 (ethC x) ∧ Fr noB w w') [] (.p 0 (.p 1 (.p 2 (.p 3 (.p 5 (.p 6 (.p 7 (.p 8 (.q 4 (.q 9 (.p 10 (.p 11 (.p 12 (.q 13 (.q 14 (.p 15 (.p 16 (.p 17 .nil)))))))))))))))))) (by kernel_rfl) (⟨h.drew, hG.drew, (Fr.refl _ _).drew⟩) ?_
  intro ops Q' hO hQ' wr1 hR1
  iterate 3 refine pP hO ?_
  iterate 5 refine pR hO ?_
  iterate 2 (refine pS hO rfl rfl rfl rfl (fun w' hS => by obtain ⟨hB, hG, hF⟩ := hS; have hGc := hG.cells; unfold ethC at hGc; have c1 := hB.g1; have c2 := hB.g2; have c3 := hB.g3; have c4 := hB.g4; have c5 := hB.g5; have c6 := hB.g6; have o0 := hB.all.2 0 _ rfl; have o1 := hB.all.2 1 _ rfl; have o2 := hB.all.2 2 _ rfl; have o3 := hB.all.2 3 _ rfl; have o4 := hB.all.2 4 _ rfl; have o5 := hB.all.2 5 _ rfl; exact qd) ?_)
  iterate 3 refine pR hO ?_
  iterate 2 (refine pS hO rfl rfl rfl rfl (fun w' hS => by obtain ⟨hB, hG, hF⟩ := hS; have hGc := hG.cells; unfold ethC at hGc; have c1 := hB.g1; have c2 := hB.g2; have c3 := hB.g3; have c4 := hB.g4; have c5 := hB.g5; have c6 := hB.g6; have o0 := hB.all.2 0 _ rfl; have o1 := hB.all.2 1 _ rfl; have o2 := hB.all.2 2 _ rfl; have o3 := hB.all.2 3 _ rfl; have o4 := hB.all.2 4 _ rfl; have o5 := hB.all.2 5 _ rfl; exact qd) ?_)
  iterate 2 refine pR hO ?_
  refine pP hO ?_
  refine pl_nil (hQ' _ _ ?_)
  exact HK.out _ _ ⟨rfl, rfl⟩ kk (rfl) hR1.1 hR1.2.1 hR1.2.2
theorem nfrR1 (p T : Nat) (M : MLay) (s : St) (x : EthD) (g : Nat) (k : Nat) (a : Act) (w : World) (K : KT) (hs : Sz 175 a) (h0 : sl a 0 = .pointer (some ⟨p, 0, none⟩)) (h4 : sl a 4 = .pointer (some ⟨g, 0, none⟩)) (h5 : sl a 5 = .int .i64 (k : Int)) (h : ModelAt w p T M s) (hG : Bk w g 27 (ethC x))
    (hK : ∀ a' w', Sz 175 a' → Kp [0, 4] a a' → sl a' 37 = .bool (decide (k ≠ 0 ∨ (x.«to» ≠ s.c.card ∧ x.«to» ≠ aMac))) → ModelAt w' p T M s → Bk w' g 27 (ethC x) → Fr noB w w' → K .normal a' w') : (regionOf Tryz.f153 1).wp Tryz.prog K a w := by
  have kq : ∀ {l : List Nat} {a' : Act}, Kp l a a' → (∀ x ∈ [0, 4], x ∈ l) → Kp [0, 4] a a' := fun k hl i hi => k i (hl i hi)
  by_cases hk : k = 0
  · have qk : ((k : Int) != 0) = false := by rw [hk]; rfl
    by_cases hc : x.«to» = s.c.card
    · exact nfrR1b p T M s x g k a w K hs h0 h4 h5 h hG qk (by simp [hc]) fun a' w' hs' k' o => hK a' w' hs' (kq k' (by decide)) (o.trans (by simp [hk, hc]))
    · exact nfrR1c p T M s x g k a w K hs h0 h4 h5 h hG qk (by simp [hc]) fun a' w' hs' k' o => hK a' w' hs' (kq k' (by decide)) (o.trans (by simp [hk, hc]))
  · exact nfrR1a p T M s x g k a w K hs h0 h4 h5 h hG (by simp; omega) fun a' w' hs' k' o => hK a' w' hs' (kq k' (by decide)) (o.trans (by simp [hk]))
theorem nfrR2 (x : EthD) (g : Nat) (a : Act) (w : World) (K : KT) (hs : Sz 175 a)
    (h4 : sl a 4 = .pointer (some ⟨g, 0, none⟩))  (hG : Bk w g 27 (ethC x))
    (hK : ∀ a' w', Sz 175 a' → Kp [0, 4, 5, 6, 7, 8, 9, 10, 11, 12] a a' → sl a' 40 = .bool (decide (x.ty = 2054)) → w' = w → K .normal a' w') :
    (regionOf Tryz.f153 2).wp Tryz.prog K a w := by
  refine rgE hK (nfrF_of hs) fun HK => ?_; clear hK hs
  simp only [nfrF, h4]
  have hGc := hG.cells
  unfold ethC at hGc
  have e_ : ((x.ty : Int) == 2054) = decide (x.ty = 2054) := by rw [Bool.eq_iff_iff]; simp; try omega
  go_wp2_with fail
  exact HK.out _ _ ⟨rfl, rfl⟩ kk (rfl) rfl
theorem nfrR3 (x : EthD) (q : Nat) (a : Act) (w : World) (K : KT) (hs : Sz 175 a)
    (h4 : sl a 4 = .pointer (some ⟨q, 0, none⟩)) (hE : Bk w q 27 (ethC x)) (hl : x.by'.length ≤ 9223372036854775807)
    (hK : ∀ a' w' g, Sz 175 a' → Kp [0, 4, 5, 8, 9, 10, 11, 12] a a' → sl a' 6 = .pointer (some ⟨g, 0, none⟩) → sl a' 7 = .int .i64 ((readARP x.by').2 : Int) → Fr noB w w' → Bk w' g 67 (arpC (readARP x.by').1) → w.heap.size ≤ g → K .normal a' w') :
    (regionOf Tryz.f153 3).wp Tryz.prog K a w := by
  refine rgE hK (nfrF_of hs) fun HK => ?_; clear hK hs
  simp only [nfrF, h4]
  have hEc := hE.cells
  unfold ethC at hEc
  go_wp2_with fail
  refine (refReadARP x.by' _ hl).mono ?_
  rintro e w2 ⟨rfl, hf1⟩
  have hsz := Lib.hid (arpC_size (readARP x.by').1)
  have hin := Lib.hid (arp_info (readARP x.by').1)
  have hon := Lib.hid (arpC_one (readARP x.by').1)
  generalize hr : (readARP x.by') = r at *
  clear hr
  generalize hc : arpC r.1 = c at *
  clear hc
  have hx0 := Bk.new w2 67 zcArp
  go_wp2_with ((refine wpList_store_bk rfl 67 (.tmp 6) (.tmp 45) rfl w2.heap.size _ zcArp c rfl rfl hx0 hsz.out hin.out hon.out ?_); intro w9 hx9 hf9)
  exact HK.out _ _ _ ⟨rfl, rfl⟩ kk (rfl) (rfl) ((hf1.alloc _).trans' hf9 (fun b hb e => by have e' : b = w2.heap.size := e; have := hf1.size; omega)) hx9 hf1.size
theorem nfrR4 (k : Nat) (a : Act) (w : World) (K : KT) (hs : Sz 175 a)
    (h7 : sl a 7 = .int .i64 (k : Int)) 
    (hK : ∀ a' w', Sz 175 a' → Kp [0, 4, 5, 6, 7, 8, 9, 10, 11, 12] a a' → sl a' 48 = .bool (decide (k = 0)) → w' = w → K .normal a' w') :
    (regionOf Tryz.f153 4).wp Tryz.prog K a w := by
  refine rgE hK (nfrF_of hs) fun HK => ?_; clear hK hs
  simp only [nfrF, h7]
  have e_ : ((k : Int) == 0) = decide (k = 0) := by rw [Bool.eq_iff_iff]; simp; try omega
  go_wp2_with fail
  exact HK.out _ _ ⟨rfl, rfl⟩ kk (rfl) rfl
theorem nfrR5 (p T : Nat) (M : MLay) (s : St) (x : ArpD) (g : Nat) (a : Act) (w : World) (K : KT) (hs : Sz 175 a)
    (h0 : sl a 0 = .pointer (some ⟨p, 0, none⟩)) (h6 : sl a 6 = .pointer (some ⟨g, 0, none⟩)) (h : ModelAt w p T M s) (hG : Bk w g 67 (arpC x)) (hx : x.op < 65536 ∧ x.fi < 4294967296 ∧ x.ti < 4294967296) (cA : ∀ (x : ArpD) (w : World), ModelAt w p T M s → x.op < 65536 → x.fi < 4294967296 → x.ti < 4294967296 → Calls Tryz.prog 182 #[.pointer (some ⟨p, 0, none⟩), .agg (arpC x)] w fun e w' => e = .returned (.tuple #[]) ∧ MNow p T M w (s.arped x) w')
    (hK : ∀ a' w', Sz 175 a' → Kp [0, 4, 5, 6, 7, 8, 9, 10, 11, 12] a a' → MNow p T M w (s.arped x) w' → K .normal a' w') :
    (regionOf Tryz.f153 5).wp Tryz.prog K a w := by
  refine rgE hK (nfrF_of hs) fun HK => ?_; clear hK hs
  simp only [nfrF, h0, h6]
  have hGc := hG.cells
  have hcall := cA x w h hx.1 hx.2.1 hx.2.2
  have Hcall := Lib.hid hcall
  clear hcall cA
  unfold arpC at *
  go_wp2_with fail
  refine Hcall.out.mono ?_
  rintro e w1 ⟨rfl, hN⟩
  go_wp2_with fail
  exact HK.out _ _ ⟨rfl, rfl⟩ kk  hN
theorem nfrR6 (x : EthD) (g : Nat) (a : Act) (w : World) (K : KT) (hs : Sz 175 a)
    (h4 : sl a 4 = .pointer (some ⟨g, 0, none⟩))  (hG : Bk w g 27 (ethC x))
    (hK : ∀ a' w', Sz 175 a' → Kp [0, 4, 5, 6, 7, 8, 9, 10, 11, 12] a a' → sl a' 54 = .bool (!decide (x.ty = 2048)) → w' = w → K .normal a' w') :
    (regionOf Tryz.f153 6).wp Tryz.prog K a w := by
  refine rgE hK (nfrF_of hs) fun HK => ?_; clear hK hs
  simp only [nfrF, h4]
  have hGc := hG.cells
  unfold ethC at hGc
  have e_ : ((x.ty : Int) != 2048) = !decide (x.ty = 2048) := by rw [Bool.eq_iff_iff]; simp; try omega
  go_wp2_with fail
  exact HK.out _ _ ⟨rfl, rfl⟩ kk (rfl) rfl
theorem nfrR7 (x : EthD) (q : Nat) (a : Act) (w : World) (K : KT) (hs : Sz 175 a)
    (h4 : sl a 4 = .pointer (some ⟨q, 0, none⟩)) (hE : Bk w q 27 (ethC x)) (hl : x.by'.length ≤ 1000000)
    (hK : ∀ a' w' g, Sz 175 a' → Kp [0, 4, 6, 7, 9, 10, 11, 12] a a' → sl a' 8 = .pointer (some ⟨g, 0, none⟩) → sl a' 5 = .int .i64 ((readIP x.by').2 : Int) → Fr noB w w' → Bk w' g 36 (ipC (readIP x.by').1) → w.heap.size ≤ g → K .normal a' w') :
    (regionOf Tryz.f153 7).wp Tryz.prog K a w := by
  refine rgE hK (nfrF_of hs) fun HK => ?_; clear hK hs
  simp only [nfrF, h4]
  have hEc := hE.cells
  unfold ethC at hEc
  go_wp2_with fail
  refine (refReadIP x.by' _ hl).mono ?_
  rintro e w2 ⟨rfl, hf1⟩
  have hsz := Lib.hid (ipC_size (readIP x.by').1)
  have hin := Lib.hid (ip_info (readIP x.by').1)
  have hon := Lib.hid (ipC_one (readIP x.by').1)
  generalize hr : (readIP x.by') = r at *
  clear hr
  generalize hc : ipC r.1 = c at *
  clear hc
  have hx0 := Bk.new w2 36 zcIp4
  go_wp2_with ((refine wpList_store_bk rfl 36 (.tmp 8) (.tmp 59) rfl w2.heap.size _ zcIp4 c rfl rfl hx0 hsz.out hin.out hon.out ?_); intro w9 hx9 hf9)
  exact HK.out _ _ _ ⟨rfl, rfl⟩ kk (rfl) (rfl) ((hf1.alloc _).trans' hf9 (fun b hb e => by have e' : b = w2.heap.size := e; have := hf1.size; omega)) hx9 hf1.size
theorem nfrR8a (k : Nat) (x : IpD) (g : Nat) (a : Act) (w : World) (K : KT) (hs : Sz 175 a)
    (h5 : sl a 5 = .int .i64 (k : Int)) (h8 : sl a 8 = .pointer (some ⟨g, 0, none⟩))  (hG : Bk w g 36 (ipC x)) (q : ((k : Int) != 0) = true)
    (hK : ∀ a' w', Sz 175 a' → Kp [0, 4, 5, 6, 7, 8, 9, 10, 11, 12] a a' → sl a' 67 = .bool true → w' = w → K .normal a' w') :
    (regionOf Tryz.f153 8).wp Tryz.prog K a w := by
  refine rgE hK (nfrF_of hs) fun HK => ?_; clear hK hs
  simp only [nfrF, h5, h8]
  have hGc := hG.cells
  unfold ipC at hGc
  go_wp2_with fail
  exact HK.out _ _ ⟨rfl, rfl⟩ kk (rfl) rfl
theorem nfrR8b (k : Nat) (x : IpD) (g : Nat) (b : Bool) (a : Act) (w : World) (K : KT) (hs : Sz 175 a)
    (h5 : sl a 5 = .int .i64 (k : Int)) (h8 : sl a 8 = .pointer (some ⟨g, 0, none⟩))  (hG : Bk w g 36 (ipC x)) (q : ((k : Int) != 0) = false) (hb : ((x.pr : Int) != 17) = b)
    (hK : ∀ a' w', Sz 175 a' → Kp [0, 4, 5, 6, 7, 8, 9, 10, 11, 12] a a' → sl a' 67 = .bool b → w' = w → K .normal a' w') :
    (regionOf Tryz.f153 8).wp Tryz.prog K a w := by
  refine rgE hK (nfrF_of hs) fun HK => ?_; clear hK hs
  simp only [nfrF, h5, h8]
  have hGc := hG.cells
  unfold ipC at hGc
  go_wp2_with fail
  exact HK.out _ _ ⟨rfl, rfl⟩ kk (rfl) rfl
theorem nfrR8 (k : Nat) (x : IpD) (g : Nat) (a : Act) (w : World) (K : KT) (hs : Sz 175 a) (h5 : sl a 5 = .int .i64 (k : Int)) (h8 : sl a 8 = .pointer (some ⟨g, 0, none⟩)) (hG : Bk w g 36 (ipC x))
    (hK : ∀ a' w', Sz 175 a' → Kp [0, 8] a a' → sl a' 67 = .bool (decide (k ≠ 0 ∨ x.pr ≠ 17)) → w' = w → K .normal a' w') : (regionOf Tryz.f153 8).wp Tryz.prog K a w := by
  by_cases hk : k = 0
  · exact nfrR8b k x g (decide (x.pr ≠ 17)) a w K hs h5 h8 hG (by rw [hk]; rfl) (by rw [Bool.eq_iff_iff]; simp; omega) fun a' w' hs' k' o => hK a' w' hs' (fun i hi => k' i (by revert hi; revert i; decide)) (o.trans (by simp [hk]))
  · exact nfrR8a k x g a w K hs h5 h8 hG (by simp; omega) fun a' w' hs' k' o => hK a' w' hs' (fun i hi => k' i (by revert hi; revert i; decide)) (o.trans (by simp [hk]))
theorem nfrR9 (x : IpD) (q : Nat) (a : Act) (w : World) (K : KT) (hs : Sz 175 a)
    (h8 : sl a 8 = .pointer (some ⟨q, 0, none⟩)) (hE : Bk w q 36 (ipC x)) (hfi : x.fm < 4294967296) (hti : x.«to» < 4294967296) (hl : x.by'.length ≤ 900000)
    (hK : ∀ a' w' g, Sz 175 a' → Kp [0, 4, 6, 7, 8, 10, 11, 12] a a' → sl a' 9 = .pointer (some ⟨g, 0, none⟩) → sl a' 5 = .int .i64 ((readUDP x.by' x.fm x.«to»).2 : Int) → Fr noB w w' → Bk w' g 42 (udpC (readUDP x.by' x.fm x.«to»).1) → w.heap.size ≤ g → K .normal a' w') :
    (regionOf Tryz.f153 9).wp Tryz.prog K a w := by
  refine rgE hK (nfrF_of hs) fun HK => ?_; clear hK hs
  simp only [nfrF, h8]
  have hEc := hE.cells
  unfold ipC at hEc
  go_wp2_with fail
  refine (refReadUDP x.by' x.fm x.«to» _ hfi hti hl).mono ?_
  rintro e w2 ⟨rfl, hf1⟩
  have hsz := Lib.hid (udpC_size (readUDP x.by' x.fm x.«to»).1)
  have hin := Lib.hid (udp_info (readUDP x.by' x.fm x.«to»).1)
  have hon := Lib.hid (udpC_one (readUDP x.by' x.fm x.«to»).1)
  generalize hr : (readUDP x.by' x.fm x.«to») = r at *
  clear hr
  generalize hc : udpC r.1 = c at *
  clear hc
  have hx0 := Bk.new w2 42 zcUdp
  go_wp2_with ((refine wpList_store_bk rfl 42 (.tmp 9) (.tmp 76) rfl w2.heap.size _ zcUdp c rfl rfl hx0 hsz.out hin.out hon.out ?_); intro w9 hx9 hf9)
  exact HK.out _ _ _ ⟨rfl, rfl⟩ kk (rfl) (rfl) ((hf1.alloc _).trans' hf9 (fun b hb e => by have e' : b = w2.heap.size := e; have := hf1.size; omega)) hx9 hf1.size
theorem nfrR10 (k : Nat) (a : Act) (w : World) (K : KT) (hs : Sz 175 a)
    (h5 : sl a 5 = .int .i64 (k : Int)) 
    (hK : ∀ a' w', Sz 175 a' → Kp [0, 4, 5, 6, 7, 8, 9, 10, 11, 12] a a' → sl a' 79 = .bool (!decide (k = 0)) → w' = w → K .normal a' w') :
    (regionOf Tryz.f153 10).wp Tryz.prog K a w := by
  refine rgE hK (nfrF_of hs) fun HK => ?_; clear hK hs
  simp only [nfrF, h5]
  have e_ : ((k : Int) != 0) = !decide (k = 0) := by rw [Bool.eq_iff_iff]; simp; try omega
  go_wp2_with fail
  exact HK.out _ _ ⟨rfl, rfl⟩ kk (rfl) rfl
theorem nfrR11 (x : UdpD) (g : Nat) (a : Act) (w : World) (K : KT) (hs : Sz 175 a)
    (h9 : sl a 9 = .pointer (some ⟨g, 0, none⟩))  (hG : Bk w g 42 (udpC x))
    (hK : ∀ a' w', Sz 175 a' → Kp [0, 4, 5, 6, 7, 8, 9, 10, 11, 12] a a' → sl a' 82 = .bool (decide (x.tp = 68)) → w' = w → K .normal a' w') :
    (regionOf Tryz.f153 11).wp Tryz.prog K a w := by
  refine rgE hK (nfrF_of hs) fun HK => ?_; clear hK hs
  simp only [nfrF, h9]
  have hGc := hG.cells
  unfold udpC at hGc
  have e_ : ((x.tp : Int) == 68) = decide (x.tp = 68) := by rw [Bool.eq_iff_iff]; simp; try omega
  go_wp2_with fail
  exact HK.out _ _ ⟨rfl, rfl⟩ kk (rfl) rfl
theorem nfrR12 (p : Nat) (M : MLay) (x : UdpD) (q : Nat) (a : Act) (w : World) (K : KT) (hs : Sz 175 a)
    (h9 : sl a 9 = .pointer (some ⟨q, 0, none⟩)) (hE : Bk w q 42 (udpC x)) (hl : x.ld.length ≤ 1048576) (hlt : ∀ b, mown p M b → b < w.heap.size)
    (hK : ∀ a' w' A cap g, Sz 175 a' → Kp [0, 4, 5, 6, 7, 8, 9, 12] a a' → sl a' 10 = .pointer (some ⟨g, 0, none⟩) → sl a' 11 = .int .i64 ((readDHCP x.ld).2 : Int) → Fr noB w w' → DmAt w' p M (readDHCP x.ld).1 A cap (readDHCP x.ld).1.os.length g → K .normal a' w') :
    (regionOf Tryz.f153 12).wp Tryz.prog K a w := by
  refine rgE hK (nfrF_of hs) fun HK => ?_; clear hK hs
  simp only [nfrF, h9]
  have hEc := hE.cells
  unfold udpC at hEc
  go_wp2_with fail
  refine (refReadDHCP x.ld _ (by omega)).mono ?_
  rintro e w2 ⟨⟨A, cap, rfl, hSl⟩, hf1⟩
  have hin3 := readDHCP_in x.ld
  have hsz := Lib.hid (dhcC_size (readDHCP x.ld).1 A cap)
  have hin := Lib.hid (dhc_info (readDHCP x.ld).1 A cap)
  have hon := Lib.hid (dhcC_one (readDHCP x.ld).1 A cap)
  generalize hr : readDHCP x.ld = r at *
  have Hr := Lib.hid hr
  clear hr
  generalize hc : dhcC r.1 A cap = c at *
  have Hc := Lib.hid hc
  clear hc
  have hx0 := Bk.new w2 75 zcDhc
  go_wp2_with ((refine wpList_store_bk rfl 75 (.tmp 10) (.tmp 87) rfl w2.heap.size _ zcDhc c rfl rfl hx0 hsz.out hin.out hon.out ?_); intro w9 hx9 hf9)
  have hf10 : Fr noB w w9 := ((hf1.alloc _).trans' hf9 (fun b hb e => by have e' : b = w2.heap.size := e; have := hf1.size; omega))
  exact HK.out _ _ A cap w2.heap.size ⟨rfl, rfl⟩ kk (rfl) (rfl) hf10 ⟨by rw [← Hc.out] at hx9; exact hx9, (hSl.sub (T := mown p M) (fun b _ hb => hlt b hb)).keep ((show Fr noB w2 w9 from ((Fr.refl noB w2).alloc _).trans' hf9 (fun b hb e => by have e' : b = w2.heap.size := e; omega)).of_no _), fun hx => by have := hlt _ hx; have := hf1.size; omega, rfl, by omega, hin3.1, hin3.2.1⟩
attribute [-go_sem] run_eql_struct run_neq_struct run_equalIn_agg in
theorem nfrR13a (p T : Nat) (M : MLay) (s : St) (d : DhcD) (A : Option Addr) (cap n g : Nat) (k : Nat) (a : Act) (w : World) (K : KT) (hs : Sz 175 a)
    (h0 : sl a 0 = .pointer (some ⟨p, 0, none⟩)) (h10 : sl a 10 = .pointer (some ⟨g, 0, none⟩)) (h11 : sl a 11 = .int .i64 (k : Int)) (h : ModelAt w p T M s) (hD : DmAt w p M d A cap n g) (qk : ((k : Int) == 0) = false) 
    (hK : ∀ a' w', Sz 175 a' → Kp [0, 4, 5, 6, 7, 8, 9, 10, 11, 12] a a' → sl a' 113 = .bool false → ModelAt w' p T M s → DmAt w' p M d A cap n g → Fr noB w w' → K .normal a' w') :
    (regionOf Tryz.f153 13).wp Tryz.prog K a w := by
  refine rgE hK (nfrF_of hs) fun HK => ?_; clear hK hs
  simp only [nfrF, h0, h10, h11]
  refine wp_region_pls (by kernel_rfl) (fun w' => ModelAt w' p T M s ∧ DmAt w' p M d A cap n g ∧ Fr noB w w') [] (.p 0 (.p 1 (.p 2 (.p 3 (.q 4 (.p 5 (.p 6 (.p 7 (.p 9 (.p 10 (.p 11 (.q 8 (.q 12 (.p 13 (.p 14 (.p 15 (.p 16 (.p 18 (.p 19 (.p 20 (.p 21 (.q 17 (.q 22 (.p 23 (.p 24 .nil))))))))))))))))))))))))) (by kernel_rfl) (⟨h.drew, hD.none ((Fr.refl _ _).drew), (Fr.refl _ _).drew⟩) ?_
  intro ops Q' hO hQ' wr1 hR1
  iterate 3 refine pP hO ?_
  refine pN hO ?_
  refine qN hO ?_
  iterate 2 refine pP hO ?_
  iterate 4 refine pN hO ?_
  iterate 2 refine qN hO ?_
  refine pN hO ?_
  iterate 2 refine pP hO ?_
  iterate 5 refine pN hO ?_
  iterate 2 refine qN hO ?_
  refine pN hO ?_
  refine pP hO ?_
  refine pl_nil (hQ' _ _ ?_)
  exact HK.out _ _ ⟨rfl, rfl⟩ kk (rfl) hR1.1 hR1.2.1 hR1.2.2
attribute [-go_sem] run_eql_struct run_neq_struct run_equalIn_agg in
theorem nfrR13b (p T : Nat) (M : MLay) (s : St) (d : DhcD) (A : Option Addr) (cap n g : Nat) (k : Nat) (a : Act) (w : World) (K : KT) (hs : Sz 175 a)
    (h0 : sl a 0 = .pointer (some ⟨p, 0, none⟩)) (h10 : sl a 10 = .pointer (some ⟨g, 0, none⟩)) (h11 : sl a 11 = .int .i64 (k : Int)) (h : ModelAt w p T M s) (hD : DmAt w p M d A cap n g) (qk : ((k : Int) == 0) = true) (qr : d.reply = false) 
    (hK : ∀ a' w', Sz 175 a' → Kp [0, 4, 5, 6, 7, 8, 9, 10, 11, 12] a a' → sl a' 113 = .bool false → ModelAt w' p T M s → DmAt w' p M d A cap n g → Fr noB w w' → K .normal a' w') :
    (regionOf Tryz.f153 13).wp Tryz.prog K a w := by
  refine rgE hK (nfrF_of hs) fun HK => ?_; clear hK hs
  simp only [nfrF, h0, h10, h11]
  refine wp_region_pls (by kernel_rfl) (fun w' => ModelAt w' p T M s ∧ DmAt w' p M d A cap n g ∧ Fr noB w w') [] (.p 0 (.p 1 (.p 2 (.p 3 (.q 4 (.p 5 (.p 6 (.p 7 (.p 9 (.p 10 (.p 11 (.q 8 (.q 12 (.p 13 (.p 14 (.p 15 (.p 16 (.p 18 (.p 19 (.p 20 (.p 21 (.q 17 (.q 22 (.p 23 (.p 24 .nil))))))))))))))))))))))))) (by kernel_rfl) (⟨h.drew, hD.none ((Fr.refl _ _).drew), (Fr.refl _ _).drew⟩) ?_
  intro ops Q' hO hQ' wr1 hR1
  iterate 3 refine pP hO ?_
  refine pR hO ?_
  refine pS hO rfl rfl rfl rfl (fun w' hS => by obtain ⟨hB, hD, hF⟩ := hS; have hGc := hD.bk.cells; have c23 := hB.g23; have c1 := hB.g1; have c2 := hB.g2; have c3 := hB.g3; have c4 := hB.g4; have c5 := hB.g5; have c6 := hB.g6; exact qd) ?_
  iterate 2 refine pP hO ?_
  iterate 4 refine pN hO ?_
  iterate 2 refine qN hO ?_
  refine pN hO ?_
  iterate 2 refine pP hO ?_
  iterate 5 refine pN hO ?_
  iterate 2 refine qN hO ?_
  refine pN hO ?_
  refine pP hO ?_
  refine pl_nil (hQ' _ _ ?_)
  exact HK.out _ _ ⟨rfl, rfl⟩ kk (rfl) hR1.1 hR1.2.1 hR1.2.2
attribute [-go_sem] run_eql_struct run_neq_struct run_equalIn_agg in
theorem nfrR13c (p T : Nat) (M : MLay) (s : St) (d : DhcD) (A : Option Addr) (cap n g : Nat) (k : Nat) (a : Act) (w : World) (K : KT) (hs : Sz 175 a)
    (h0 : sl a 0 = .pointer (some ⟨p, 0, none⟩)) (h10 : sl a 10 = .pointer (some ⟨g, 0, none⟩)) (h11 : sl a 11 = .int .i64 (k : Int)) (h : ModelAt w p T M s) (hD : DmAt w p M d A cap n g) (qk : ((k : Int) == 0) = true) (qr : d.reply = true) (qx : ((d.xid : Int) == (s.xid : Int)) = false) 
    (hK : ∀ a' w', Sz 175 a' → Kp [0, 4, 5, 6, 7, 8, 9, 10, 11, 12] a a' → sl a' 113 = .bool false → ModelAt w' p T M s → DmAt w' p M d A cap n g → Fr noB w w' → K .normal a' w') :
    (regionOf Tryz.f153 13).wp Tryz.prog K a w := by
  refine rgE hK (nfrF_of hs) fun HK => ?_; clear hK hs
  simp only [nfrF, h0, h10, h11]
  refine wp_region_pls (by kernel_rfl) (fun w' => ModelAt w' p T M s ∧ DmAt w' p M d A cap n g ∧ Fr noB w w') [] (.p 0 (.p 1 (.p 2 (.p 3 (.q 4 (.p 5 (.p 6 (.p 7 (.p 9 (.p 10 (.p 11 (.q 8 (.q 12 (.p 13 (.p 14 (.p 15 (.p 16 (.p 18 (.p 19 (.p 20 (.p 21 (.q 17 (.q 22 (.p 23 (.p 24 .nil))))))))))))))))))))))))) (by kernel_rfl) (⟨h.drew, hD.none ((Fr.refl _ _).drew), (Fr.refl _ _).drew⟩) ?_
  intro ops Q' hO hQ' wr1 hR1
  iterate 3 refine pP hO ?_
  refine pR hO ?_
  refine pS hO rfl rfl rfl rfl (fun w' hS => by obtain ⟨hB, hD, hF⟩ := hS; have hGc := hD.bk.cells; have c23 := hB.g23; have c1 := hB.g1; have c2 := hB.g2; have c3 := hB.g3; have c4 := hB.g4; have c5 := hB.g5; have c6 := hB.g6; exact qd) ?_
  iterate 2 refine pP hO ?_
  iterate 4 refine pR hO ?_
  iterate 2 (refine pS hO rfl rfl rfl rfl (fun w' hS => by obtain ⟨hB, hD, hF⟩ := hS; have hGc := hD.bk.cells; have c23 := hB.g23; have c1 := hB.g1; have c2 := hB.g2; have c3 := hB.g3; have c4 := hB.g4; have c5 := hB.g5; have c6 := hB.g6; exact qd) ?_)
  refine pR hO ?_
  iterate 2 refine pP hO ?_
  iterate 5 refine pN hO ?_
  iterate 2 refine qN hO ?_
  refine pN hO ?_
  refine pP hO ?_
  refine pl_nil (hQ' _ _ ?_)
  exact HK.out _ _ ⟨rfl, rfl⟩ kk (rfl) hR1.1 hR1.2.1 hR1.2.2
attribute [-go_sem] run_eql_struct run_neq_struct run_equalIn_agg in
theorem nfrR13d (p T : Nat) (M : MLay) (s : St) (d : DhcD) (A : Option Addr) (cap n g : Nat) (k : Nat) (a : Act) (w : World) (K : KT) (hs : Sz 175 a)
    (h0 : sl a 0 = .pointer (some ⟨p, 0, none⟩)) (h10 : sl a 10 = .pointer (some ⟨g, 0, none⟩)) (h11 : sl a 11 = .int .i64 (k : Int)) (h : ModelAt w p T M s) (hD : DmAt w p M d A cap n g) (qk : ((k : Int) == 0) = true) (qr : d.reply = true) (qx : ((d.xid : Int) == (s.xid : Int)) = true) 
    (hK : ∀ a' w', Sz 175 a' → Kp [0, 4, 5, 6, 7, 8, 9, 10, 11, 12] a a' → sl a' 113 = .bool (decide (d.mac = s.c.card)) → ModelAt w' p T M s → DmAt w' p M d A cap n g → Fr noB w w' → K .normal a' w') :
    (regionOf Tryz.f153 13).wp Tryz.prog K a w := by
  refine rgE hK (nfrF_of hs) fun HK => ?_; clear hK hs
  have hE : ∀ w, (binOp .eql 23 (.agg #[.int .u8 (d.mac.1.toNat : Int), .int .u8 (d.mac.2.1.toNat : Int), .int .u8 (d.mac.2.2.1.toNat : Int), .int .u8 (d.mac.2.2.2.1.toNat : Int), .int .u8 (d.mac.2.2.2.2.1.toNat : Int), .int .u8 (d.mac.2.2.2.2.2.toNat : Int)]) (.agg #[.int .u8 (s.c.card.1.toNat : Int), .int .u8 (s.c.card.2.1.toNat : Int), .int .u8 (s.c.card.2.2.1.toNat : Int), .int .u8 (s.c.card.2.2.2.1.toNat : Int), .int .u8 (s.c.card.2.2.2.2.1.toNat : Int), .int .u8 (s.c.card.2.2.2.2.2.toNat : Int)])).run Tryz.prog w = .ok (.bool (decide (d.mac = s.c.card))) w := mac_eql d.mac s.c.card
  have hGd := mac_guard
  simp only [nfrF, h0, h10, h11]
  refine wp_region_pls (by kernel_rfl) (fun w' => ModelAt w' p T M s ∧ DmAt w' p M d A cap n g ∧ Fr noB w w') [] (.p 0 (.p 1 (.p 2 (.p 3 (.q 4 (.p 5 (.p 6 (.p 7 (.p 9 (.p 10 (.p 11 (.q 8 (.q 12 (.p 13 (.p 14 (.p 15 (.p 16 (.p 18 (.p 19 (.p 20 (.p 21 (.q 17 (.q 22 (.p 23 (.p 24 .nil))))))))))))))))))))))))) (by kernel_rfl) (⟨h.drew, hD.none ((Fr.refl _ _).drew), (Fr.refl _ _).drew⟩) ?_
  intro ops Q' hO hQ' wr1 hR1
  iterate 3 refine pP hO ?_
  refine pR hO ?_
  refine pS hO rfl rfl rfl rfl (fun w' hS => by obtain ⟨hB, hD, hF⟩ := hS; have hGc := hD.bk.cells; have c23 := hB.g23; have c1 := hB.g1; have c2 := hB.g2; have c3 := hB.g3; have c4 := hB.g4; have c5 := hB.g5; have c6 := hB.g6; exact qd) ?_
  iterate 2 refine pP hO ?_
  iterate 4 refine pR hO ?_
  iterate 2 (refine pS hO rfl rfl rfl rfl (fun w' hS => by obtain ⟨hB, hD, hF⟩ := hS; have hGc := hD.bk.cells; have c23 := hB.g23; have c1 := hB.g1; have c2 := hB.g2; have c3 := hB.g3; have c4 := hB.g4; have c5 := hB.g5; have c6 := hB.g6; exact qd) ?_)
  refine pR hO ?_
  iterate 2 refine pP hO ?_
  iterate 5 refine pR hO ?_
  iterate 2 (refine pS hO rfl rfl rfl rfl (fun w' hS => by obtain ⟨hB, hD, hF⟩ := hS; have hGc := hD.bk.cells; have c23 := hB.g23; have c1 := hB.g1; have c2 := hB.g2; have c3 := hB.g3; have c4 := hB.g4; have c5 := hB.g5; have c6 := hB.g6; exact qd) ?_)
  refine pR hO ?_
  refine pP hO ?_
  refine pl_nil (hQ' _ _ ?_)
  exact HK.out _ _ ⟨rfl, rfl⟩ kk (rfl) hR1.1 hR1.2.1 hR1.2.2
theorem nfrR13 (p T : Nat) (M : MLay) (s : St) (d : DhcD) (A : Option Addr) (cap n g : Nat) (k : Nat) (a : Act) (w : World) (K : KT) (hs : Sz 175 a) (h0 : sl a 0 = .pointer (some ⟨p, 0, none⟩)) (h10 : sl a 10 = .pointer (some ⟨g, 0, none⟩)) (h11 : sl a 11 = .int .i64 (k : Int)) (h : ModelAt w p T M s) (hD : DmAt w p M d A cap n g)
    (hK : ∀ a' w', Sz 175 a' → Kp [0, 10] a a' → sl a' 113 = .bool (decide (k = 0 ∧ d.reply = true ∧ d.xid = s.xid ∧ d.mac = s.c.card)) → ModelAt w' p T M s → DmAt w' p M d A cap n g → Fr noB w w' → K .normal a' w') : (regionOf Tryz.f153 13).wp Tryz.prog K a w := by
  have kq : ∀ {l : List Nat} {a' : Act}, Kp l a a' → (∀ x ∈ [0, 10], x ∈ l) → Kp [0, 10] a a' := fun k hl i hi => k i (hl i hi)
  by_cases c1 : k = 0
  · have e1 : ((k : Int) == 0) = true := by rw [c1]; rfl
    cases c2 : d.reply with
    | false => exact nfrR13b p T M s d A cap n g k a w K hs h0 h10 h11 h hD e1 c2 fun a' w' hs' k' o => hK a' w' hs' (kq k' (by decide)) (o.trans (by simp [c2]))
    | true =>
      by_cases c3 : d.xid = s.xid
      · exact nfrR13d p T M s d A cap n g k a w K hs h0 h10 h11 h hD e1 c2 (by rw [beq_iff_eq]; omega) fun a' w' hs' k' o => hK a' w' hs' (kq k' (by decide)) (o.trans (by simp [c1, c2, c3]))
      · exact nfrR13c p T M s d A cap n g k a w K hs h0 h10 h11 h hD e1 c2 (by rw [beq_eq_false_iff_ne]; omega) fun a' w' hs' k' o => hK a' w' hs' (kq k' (by decide)) (o.trans (by simp [c3]))
  · exact nfrR13a p T M s d A cap n g k a w K hs h0 h10 h11 h hD (by rw [beq_eq_false_iff_ne]; omega) fun a' w' hs' k' o => hK a' w' hs' (kq k' (by decide)) (o.trans (by simp [c1]))
theorem nfrR14 (p T : Nat) (M : MLay) (s : St) (d : DhcD) (A : Option Addr) (cap n g : Nat) (a : Act) (w : World) (K : KT) (hs : Sz 175 a)
    (h0 : sl a 0 = .pointer (some ⟨p, 0, none⟩)) (h10 : sl a 10 = .pointer (some ⟨g, 0, none⟩)) (h : ModelAt w p T M s) (hD : DmAt w p M d A cap n g) (cD : ∀ (d : DhcD) (A : Option Addr) (cap n : Nat) (w : World), ModelAt w p T M s → d.os.length = n → SlR w (mown p M) 2 A n (optC d.os) → wtO d.os ≤ 1099511627776 → d.yours < 4294967296 → d.next < 4294967296 → Calls Tryz.prog 186 #[.pointer (some ⟨p, 0, none⟩), .agg #[.bool d.reply, .int .u32 (d.xid : Int), .int .u32 (d.client : Int), .int .u32 (d.yours : Int), .int .u32 (d.next : Int), .int .u8 (d.mac.1.toNat : Int), .int .u8 (d.mac.2.1.toNat : Int), .int .u8 (d.mac.2.2.1.toNat : Int), .int .u8 (d.mac.2.2.2.1.toNat : Int), .int .u8 (d.mac.2.2.2.2.1.toNat : Int), .int .u8 (d.mac.2.2.2.2.2.toNat : Int), .slice A n cap]] w fun e w' => e = .returned (.tuple #[]) ∧ MNow p T M w (s.leased d) w')
    (hK : ∀ a' w', Sz 175 a' → Kp [0, 4, 5, 6, 7, 8, 9, 10, 11, 12] a a' → MNow p T M w (s.leased d) w' → K .normal a' w') :
    (regionOf Tryz.f153 14).wp Tryz.prog K a w := by
  refine rgE hK (nfrF_of hs) fun HK => ?_; clear hK hs
  simp only [nfrF, h0, h10]
  have hGc := hD.bk.cells
  have hcall := cD d A cap n w h hD.hn hD.sl hD.wt hD.yours hD.next
  have Hcall := Lib.hid hcall
  clear hcall cD
  go_wp2_with fail
  refine Hcall.out.mono ?_
  rintro e w1 ⟨rfl, hN⟩
  go_wp2_with fail
  exact HK.out _ _ ⟨rfl, rfl⟩ kk  hN
theorem nfrR15a (p T : Nat) (M : MLay) (s : St) (a : Act) (w : World) (K : KT) (hs : Sz 175 a)
    (h0 : sl a 0 = .pointer (some ⟨p, 0, none⟩)) (h : ModelAt w p T M s) (q1 : ((s.phase : Int) == 1) = true)
    (hK : ∀ a' w', Sz 175 a' → Kp [0, 4, 5, 6, 7, 8, 9, 10, 11] a a' → sl a' 12 = .bool true → w' = w → K .normal a' w') :
    (regionOf Tryz.f153 15).wp Tryz.prog K a w := by
  refine rgE hK (nfrF_of hs) fun HK => ?_; clear hK hs
  simp only [nfrF, h0]
  have c34 := h.g34
  go_wp2_with fail
  exact HK.out _ _ ⟨rfl, rfl⟩ kk (rfl) rfl
theorem nfrR15b (p T : Nat) (M : MLay) (s : St) (a : Act) (w : World) (K : KT) (hs : Sz 175 a)
    (h0 : sl a 0 = .pointer (some ⟨p, 0, none⟩)) (h : ModelAt w p T M s) (q1 : ((s.phase : Int) == 1) = false)
    (hK : ∀ a' w', Sz 175 a' → Kp [0, 4, 5, 6, 7, 8, 9, 10, 11] a a' → sl a' 12 = .bool (decide (s.phase = 2)) → w' = w → K .normal a' w') :
    (regionOf Tryz.f153 15).wp Tryz.prog K a w := by
  refine rgE hK (nfrF_of hs) fun HK => ?_; clear hK hs
  simp only [nfrF, h0]
  have c34 := h.g34
  have e_ : ((s.phase : Int) == 2) = decide (s.phase = 2) := by rw [Bool.eq_iff_iff]; simp; try omega
  go_wp2_with fail
  exact HK.out _ _ ⟨rfl, rfl⟩ kk (rfl) rfl
theorem nfrR15 (p T : Nat) (M : MLay) (s : St) (a : Act) (w : World) (K : KT) (hs : Sz 175 a) (h0 : sl a 0 = .pointer (some ⟨p, 0, none⟩)) (h : ModelAt w p T M s)
    (hK : ∀ a' w', Sz 175 a' → Kp [0, 8, 9] a a' → sl a' 12 = .bool s.busy → w' = w → K .normal a' w') : (regionOf Tryz.f153 15).wp Tryz.prog K a w := by
  by_cases c1 : s.phase = 1
  · exact nfrR15a p T M s a w K hs h0 h (by rw [beq_iff_eq]; omega) fun a' w' hs' k' o => hK a' w' hs' (fun i hi => k' i (by revert hi; revert i; decide)) (o.trans (by unfold St.busy; rw [c1]; rfl))
  · exact nfrR15b p T M s a w K hs h0 h (by rw [beq_eq_false_iff_ne]; omega) fun a' w' hs' k' o => hK a' w' hs' (fun i hi => k' i (by revert hi; revert i; decide)) (o.trans (by unfold St.busy; rw [show (s.phase == 1) = false by rw [beq_eq_false_iff_ne]; exact c1]; congr 1))
theorem nfrR16a (p T : Nat) (M : MLay) (s : St) (a : Act) (w : World) (K : KT) (hs : Sz 175 a)
    (h0 : sl a 0 = .pointer (some ⟨p, 0, none⟩)) (h12 : sl a 12 = .bool false) (h : ModelAt w p T M s)
    (hK : ∀ a' w', Sz 175 a' → Kp [0, 4, 5, 6, 7, 8, 9, 10, 11, 12] a a' → sl a' 160 = .bool false → ModelAt w' p T M s → Fr noB w w' → K .normal a' w') :
    (regionOf Tryz.f153 16).wp Tryz.prog K a w := by
  refine rgE hK (nfrF_of hs) fun HK => ?_; clear hK hs
  simp only [nfrF, h0, h12]
  refine wp_region_pls (by kernel_rfl) (fun w' => ModelAt w' p T M s ∧ Fr noB w w') [] (.p 0 (.p 1 (.p 2 (.e 3 (.p 4 (.p 5 (.p 6 (.p 7 (.p 9 (.q 8 (.e 10 (.p 11 (.p 12 (.p 13 (.p 14 (.p 16 (.p 17 (.p 18 (.q 15 (.q 19 (.p 20 (.p 21 (.p 22 (.p 23 (.p 26 (.p 27 (.p 28 (.q 24 (.p 25 (.q 29 (.p 30 (.p 31 .nil)))))))))))))))))))))))))))))))) (by kernel_rfl) (⟨h.drew, (Fr.refl _ _).drew⟩) ?_
  intro ops Q' hO hQ' wr1 hR1
  iterate 2 refine pP hO ?_
  refine pN hO ?_
  refine pl_en hO rfl rfl rfl rfl rfl (fun _ => hR1) ?_
  simp only [Act.put, List.setIfInBounds_toArray, List.set_cons_zero, List.set_cons_succ]
  refine pN hO ?_
  iterate 2 refine pP hO ?_
  iterate 2 refine pN hO ?_
  refine qN hO ?_
  refine pl_en hO rfl rfl rfl rfl rfl (fun _ => hR1) ?_
  simp only [Act.put, List.setIfInBounds_toArray, List.set_cons_zero, List.set_cons_succ]
  refine pN hO ?_
  iterate 2 refine pP hO ?_
  iterate 4 refine pN hO ?_
  iterate 2 refine qN hO ?_
  refine pN hO ?_
  iterate 2 refine pP hO ?_
  iterate 4 refine pN hO ?_
  refine qN hO ?_
  refine pN hO ?_
  refine qN hO ?_
  refine pN hO ?_
  refine pP hO ?_
  refine pl_nil (hQ' _ _ ?_)
  exact HK.out _ _ ⟨rfl, rfl⟩ kk (rfl) hR1.1 hR1.2
def St.wanted (s : St) (x : IpD) (y : UdpD) : St := if s.busy = true ∧ s.address ≠ 0 ∧ x.«to» = s.address ∧ x.fm = s.source ∧ y.tp = s.port then (if (readTFTP y.ld).2 = 0 then s.loads y.fm (readTFTP y.ld).1 else s) else s
theorem St.frame_eq (s : St) (f : List UInt8) : s.frame f =
    if (readEther f).2 ≠ 0 ∨ ((readEther f).1.«to» ≠ s.c.card ∧ (readEther f).1.«to» ≠ aMac) then s
    else if (readEther f).1.ty = 2054 then (if (readARP (readEther f).1.by').2 = 0 then s.arped (readARP (readEther f).1.by').1 else s)
    else if (readEther f).1.ty = 2048 then
      (if (readIP (readEther f).1.by').2 ≠ 0 ∨ (readIP (readEther f).1.by').1.pr ≠ 17 then s
      else if (readUDP (readIP (readEther f).1.by').1.by' (readIP (readEther f).1.by').1.fm (readIP (readEther f).1.by').1.«to»).2 ≠ 0 then s
      else if (readUDP (readIP (readEther f).1.by').1.by' (readIP (readEther f).1.by').1.fm (readIP (readEther f).1.by').1.«to»).1.tp = 68 then
        s.leasedP (readUDP (readIP (readEther f).1.by').1.by' (readIP (readEther f).1.by').1.fm (readIP (readEther f).1.by').1.«to»).1.ld
      else s.wanted (readIP (readEther f).1.by').1 (readUDP (readIP (readEther f).1.by').1.by' (readIP (readEther f).1.by').1.fm (readIP (readEther f).1.by').1.«to»).1)
    else s := rfl
theorem modFrameG (p T : Nat) (M : MLay) (s : St) (ld : List UInt8) (w : World) (h : ModelAt w p T M s) (hld : ld.length ≤ 900000) (cA : ∀ (x : ArpD) (w : World), ModelAt w p T M s → x.op < 65536 → x.fi < 4294967296 → x.ti < 4294967296 → Calls Tryz.prog 182 #[.pointer (some ⟨p, 0, none⟩), .agg (arpC x)] w fun e w' => e = .returned (.tuple #[]) ∧ MNow p T M w (s.arped x) w') (cD : ∀ (d : DhcD) (A : Option Addr) (cap n : Nat) (w : World), ModelAt w p T M s → d.os.length = n → SlR w (mown p M) 2 A n (optC d.os) → wtO d.os ≤ 1099511627776 → d.yours < 4294967296 → d.next < 4294967296 → Calls Tryz.prog 186 #[.pointer (some ⟨p, 0, none⟩), .agg #[.bool d.reply, .int .u32 (d.xid : Int), .int .u32 (d.client : Int), .int .u32 (d.yours : Int), .int .u32 (d.next : Int), .int .u8 (d.mac.1.toNat : Int), .int .u8 (d.mac.2.1.toNat : Int), .int .u8 (d.mac.2.2.1.toNat : Int), .int .u8 (d.mac.2.2.2.1.toNat : Int), .int .u8 (d.mac.2.2.2.2.1.toNat : Int), .int .u8 (d.mac.2.2.2.2.2.toNat : Int), .slice A n cap]] w fun e w' => e = .returned (.tuple #[]) ∧ MNow p T M w (s.leased d) w')
    (hT : s.busy = true → ∀ (x : IpD) (y : UdpD) (g8 g9 : Nat) (a : Act) (w1 : World), Sz 175 a → sl a 0 = .pointer (some ⟨p, 0, none⟩) → sl a 8 = .pointer (some ⟨g8, 0, none⟩) → sl a 9 = .pointer (some ⟨g9, 0, none⟩) → sl a 12 = .bool true → ModelAt w1 p T M s → Bk w1 g8 36 (ipC x) → Bk w1 g9 42 (udpC y) → x.fm < 4294967296 → x.«to» < 4294967296 → y.fm < 65536 → y.tp < 65536 → y.ld.length ≤ 900000 → Fr noB w w1 →
      (Code.seq (regionOf Tryz.f153 16) (Code.cond (.tmp 160) (Code.seq (regionOf Tryz.f153 17) (Code.seq (regionOf Tryz.f153 18) (Code.cond (.tmp 168) (regionOf Tryz.f153 19) .skip))) .skip)).wp Tryz.prog (bodyPost Tryz.prog Tryz.f153 fun e w' => e = .returned (.tuple #[]) ∧ MNow p T M w (s.wanted x y) w') a w1) :
    Calls Tryz.prog 153 #[.pointer (some ⟨p, 0, none⟩), .string (bs ld)] w fun e w' => e = .returned (.tuple #[]) ∧ MNow p T M w (s.frame ld) w' := by
  have hin := readEther_in ld
  rw [St.frame_eq]
  go_enter Tryz.func153, Tryz.ntmps153
  have hret : ∀ (s' : St) (a' : Act) (w' : World), Sz 175 a' → MNow p T M w s' w' → bodyPost Tryz.prog Tryz.f153 (fun e w' => e = .returned (.tuple #[]) ∧ MNow p T M w s' w') .ret a' w' := fun s' a' w' hs hN => bodyPost_ret (results_none rfl _ _ _) hs.defers ⟨rfl, hN⟩
  have hend : ∀ (s' : St) (a' : Act) (w' : World), Sz 175 a' → MNow p T M w s' w' → bodyPost Tryz.prog Tryz.f153 (fun e w' => e = .returned (.tuple #[]) ∧ MNow p T M w s' w') .normal a' w' := fun s' a' w' hs hN => bodyPost_end (results_none rfl _ _ _) hs.defers ⟨rfl, hN⟩
  refine wp_seq ?_
  refine nfrR0 ld _ w _ ⟨rfl, rfl⟩ rfl (by omega) ?_
  intro a0 w0 g hs0 k0 o4 o5 f0 hE hgs
  have e0 : sl a0 0 = .pointer (some ⟨p, 0, none⟩) := (k0 0 (by decide)).trans rfl
  clear k0
  have hgm : ¬ mown p M g := fun hm => by have := h.lt g hm; omega
  have h := h.none f0
  generalize readEther ld = r at *
  obtain ⟨x, k⟩ := r
  dsimp only at hin o5 hE ⊢
  obtain ⟨hi1, hi2⟩ := hin
  refine wp_seq (wp_seq ?_)
  refine nfrR1 p T M s x g k a0 w0 _ hs0 e0 o4 o5 h hE ?_
  intro a1 w1 hs1 k1 o37 h hE f1
  have f01 := f0.none f1
  have e0 := (k1 0 (by decide)).trans e0
  have o4 := (k1 4 (by decide)).trans o4
  refine wp_if o37 (fun hb => ?_) (fun hb => ?_)
  · rw [if_pos (of_decide_eq_true hb)]
    exact wp_ret (hret s a1 w1 hs1 (MNow.of h (f01.of_no _)))
  rw [if_neg (of_decide_eq_false hb)]
  refine wp_skip ?_
  refine wp_seq (wp_seq ?_)
  refine nfrR2 x g a1 w1 _ hs1 o4 hE ?_
  intro a2 w2 hs2 k2 o40 hw; subst w2
  have e0 := (k2 0 (by decide)).trans e0
  have o4 := (k2 4 (by decide)).trans o4
  by_cases hty : x.ty = 2054
  · refine wp_if o40 (fun _ => ?_) (fun hb => absurd hty (of_decide_eq_false hb))
    rw [if_pos hty]
    have out : ∀ (s' : St) (a' : Act) (w' : World), Sz 175 a' → sl a' 4 = .pointer (some ⟨g, 0, none⟩) → Bk w' g 27 (ethC x) → MNow p T M w s' w' → (Code.seq (regionOf Tryz.f153 6) (Code.cond (.tmp 54) .ret .skip)).wp Tryz.prog (fun ex a3 w3 => ex = .ret ∧ bodyPost Tryz.prog Tryz.f153 (fun e w' => e = .returned (.tuple #[]) ∧ MNow p T M w s' w') .ret a3 w3) a' w' := by
      intro s' a' w' hs' o4 hE hN
      refine wp_seq ?_
      refine nfrR6 x g a' w' _ hs' o4 hE ?_
      intro a3 w3 hs3 k3 o54 hw; subst w3
      refine wp_if o54 (fun _ => ?_) (fun hb => absurd hb (by rw [hty]; decide))
      exact wp_ret ⟨rfl, hret s' a3 w' hs3 hN⟩
    have out2 : ∀ (s' : St) (c : Code) (a' : Act) (w' : World), Sz 175 a' → sl a' 4 = .pointer (some ⟨g, 0, none⟩) → Bk w' g 27 (ethC x) → MNow p T M w s' w' → (Code.seq (Code.seq (regionOf Tryz.f153 6) (Code.cond (.tmp 54) .ret .skip)) c).wp Tryz.prog (bodyPost Tryz.prog Tryz.f153 (fun e w' => e = .returned (.tuple #[]) ∧ MNow p T M w s' w')) a' w' := by
      intro s' c a' w' hs' o4 hE hN
      refine wp_seq ?_
      refine wp_mono (out s' a' w' hs' o4 hE hN) ?_
      rintro _ a3 w3 ⟨rfl, hp⟩
      exact hp
    refine wp_seq ?_
    refine nfrR3 x g a2 w1 _ hs2 o4 hE (by omega) ?_
    intro a3 w3 q hs3 k3 o6 o7 f3 hA _
    have hax := readARP_in x.by'
    generalize readARP x.by' = r at *
    obtain ⟨y, j⟩ := r
    dsimp only at hax o7 hA ⊢
    have f03 := f01.none f3
    have h := h.none f3
    have hE := hE.keep f3 (fun y => y)
    have e0 := (k3 0 (by decide)).trans e0
    have o4 := (k3 4 (by decide)).trans o4
    refine wp_seq ?_
    refine nfrR4 j a3 w3 _ hs3 o7 ?_
    intro a4 w4 hs4 k4 o48 hw; subst w4
    have e0 := (k4 0 (by decide)).trans e0
    have o4 := (k4 4 (by decide)).trans o4
    refine wp_if o48 (fun hb => ?_) (fun hb => wp_skip ?_)
    · rw [if_pos (of_decide_eq_true hb)]
      refine nfrR5 p T M s y q a4 w3 _ hs4 e0 ((k4 6 (by decide)).trans o6) h hA hax cA ?_
      intro a5 w5 hs5 k5 hN
      have hgl := hE.lt
      refine out2 _ _ a5 w5 hs5 ((k5 4 (by decide)).trans o4) ?_ (MNow.pre f03 hN)
      obtain ⟨M', _, _, F'⟩ := hN
      exact hE.keep F' (fun hm => hgm hm)
    · rw [if_neg (of_decide_eq_false hb)]
      exact out2 _ _ a4 w3 hs4 o4 hE (MNow.of h (f03.of_no _))
  rw [if_neg hty]
  refine wp_if o40 (fun hb => absurd (of_decide_eq_true hb) hty) (fun _ => wp_skip ?_)
  refine wp_seq (wp_seq ?_)
  refine nfrR6 x g a2 w1 _ hs2 o4 hE ?_
  intro a3 w3 hs3 k3 o54 hw; subst w3
  have e0 := (k3 0 (by decide)).trans e0
  have o4 := (k3 4 (by decide)).trans o4
  by_cases hip : x.ty = 2048
  rotate_left
  · rw [if_neg hip]
    refine wp_if o54 (fun _ => ?_) (fun hb => absurd hb (by simp [hip]))
    exact wp_ret (hret s a3 w1 hs3 (MNow.of h (f01.of_no _)))
  rw [if_pos hip]
  refine wp_if o54 (fun hb => absurd hb (by simp [hip])) (fun _ => wp_skip ?_)
  refine wp_seq ?_
  refine nfrR7 x g a3 w1 _ hs3 o4 hE (by omega) ?_
  intro a4 w4 q hs4 k4 o8 o5 f4 hI _
  have hix := readIP_in x.by'
  generalize readIP x.by' = r at *
  obtain ⟨y, j⟩ := r
  dsimp only at hix o5 hI ⊢
  obtain ⟨i1, i2, _, i4⟩ := hix
  have f04 := f01.none f4
  have h := h.none f4
  have e0 := (k4 0 (by decide)).trans e0
  clear hE
  refine wp_seq (wp_seq ?_)
  refine nfrR8 j y q a4 w4 _ hs4 o5 o8 hI ?_
  intro a5 w5 hs5 k5 o67 hw; subst w5
  have e0 := (k5 0 (by decide)).trans e0
  have o8 := (k5 8 (by decide)).trans o8
  refine wp_if o67 (fun hb => ?_) (fun hb => ?_)
  · rw [if_pos (of_decide_eq_true hb)]
    exact wp_ret (hret s a5 w4 hs5 (MNow.of h (f04.of_no _)))
  rw [if_neg (of_decide_eq_false hb)]
  refine wp_skip ?_
  refine wp_seq ?_
  refine nfrR9 y q a5 w4 _ hs5 o8 hI i1 i2 (by omega) ?_
  intro a6 w6 u hs6 k6 o9 o5 f6 hU _
  have hux := readUDP_in y.by' y.fm y.«to»
  generalize readUDP y.by' y.fm y.«to» = r at *
  obtain ⟨v, j2⟩ := r
  dsimp only at hux o5 hU ⊢
  obtain ⟨u1, u2, u3⟩ := hux
  have f06 := f04.none f6
  have h := h.none f6
  have hI := hI.keep f6 (fun y => y)
  have e0 := (k6 0 (by decide)).trans e0
  have o8 := (k6 8 (by decide)).trans o8
  refine wp_seq (wp_seq ?_)
  refine nfrR10 j2 a6 w6 _ hs6 o5 ?_
  intro a7 w7 hs7 k7 o79 hw; subst w7
  have e0 := (k7 0 (by decide)).trans e0
  have o8 := (k7 8 (by decide)).trans o8
  have o9 := (k7 9 (by decide)).trans o9
  by_cases hj : j2 = 0
  rotate_left
  · rw [if_pos hj]
    refine wp_if o79 (fun _ => ?_) (fun hb => absurd hb (by simp [hj]))
    exact wp_ret (hret s a7 w6 hs7 (MNow.of h (f06.of_no _)))
  rw [if_neg (fun x => x hj)]
  refine wp_if o79 (fun hb => absurd hb (by simp [hj])) (fun _ => wp_skip ?_)
  refine wp_seq (wp_seq ?_)
  refine nfrR11 v u a7 w6 _ hs7 o9 hU ?_
  intro a8 w8 hs8 k8 o82 hw; subst w8
  have e0 := (k8 0 (by decide)).trans e0
  have o8 := (k8 8 (by decide)).trans o8
  have o9 := (k8 9 (by decide)).trans o9
  refine wp_if o82 (fun hb => ?_) (fun hb => ?_)
  · rw [if_pos (of_decide_eq_true hb)]
    refine wp_seq ?_
    refine nfrR12 p M v u a8 w6 _ hs8 o9 hU (by omega) (fun b hb => h.lt b hb) ?_
    intro a9 w9 A cap gd hs9 k9 o10 o11 f9 hD
    unfold St.leasedP
    generalize readDHCP v.ld = r at *
    obtain ⟨d, j3⟩ := r
    dsimp only at o11 hD ⊢
    have f09 := f06.none f9
    have h := h.none f9
    have e0 := (k9 0 (by decide)).trans e0
    refine wp_seq (wp_seq ?_)
    refine nfrR13 p T M s d A cap _ gd j3 a9 w9 _ hs9 e0 o10 o11 h hD ?_
    intro b0 v0 hs10 k10 o113 h hD f10
    have f010 := f09.none f10
    refine wp_if o113 (fun hb => ?_) (fun hb => wp_skip ?_)
    · rw [if_pos (of_decide_eq_true hb)]
      refine nfrR14 p T M s d A cap _ gd b0 v0 _ hs10 ((k10 0 (by decide)).trans e0) ((k10 10 (by decide)).trans o10) h hD cD ?_
      intro b1 v1 hs11 k11 hN
      exact wp_ret (hret _ b1 v1 hs11 (MNow.pre f010 hN))
    · rw [if_neg (of_decide_eq_false hb)]
      exact wp_ret (hret _ b0 v0 hs10 (MNow.of h (f010.of_no _)))
  rw [if_neg (of_decide_eq_false hb)]
  refine wp_skip ?_
  refine wp_seq ?_
  refine nfrR15 p T M s a8 w6 _ hs8 e0 h ?_
  intro a9 w9 hs9 k9 o12 hw; subst w9
  have e0 := (k9 0 (by decide)).trans e0
  have o8 := (k9 8 (by decide)).trans o8
  have o9 := (k9 9 (by decide)).trans o9
  cases hbz : s.busy with
  | true => exact hT hbz y v q u a9 w6 hs9 e0 o8 o9 (o12.trans (by rw [hbz])) h hI hU i1 i2 u1 u2 (by omega) f06
  | false =>
    have hwd : s.wanted y v = s := by unfold St.wanted; rw [hbz]; exact if_neg (fun x => by cases x.1)
    rw [hwd]
    refine wp_seq ?_
    refine nfrR16a p T M s a9 w6 _ hs9 e0 (o12.trans (by rw [hbz])) h ?_
    intro b0 v0 hs10 k10 o160 h f10
    refine wp_if o160 (fun hb => by cases hb) (fun _ => wp_skip ?_)
    exact hend s b0 v0 hs10 (MNow.of h ((f06.none f10).of_no _))
end Go.Proofs.YtcbkaiakdhiloabGreatDoor
namespace Go.Proofs.YtcbkaiakdhiloabGreatDoor
open Go.RowKit Go.Proofs
def pollG (fr : St → List UInt8 → St) : Nat → St → Nat → St × Nat
  | 0, s, k => (s, k)
  | m + 1, s, k => match s.rx with
    | [] => (s, k)
    | f :: r => pollG fr m (if s.over then { s with rx := r } else fr { s with rx := r } f) (k + 1)
structure PollI (Inv : St → Prop) (fr : St → List UInt8 → St) : Prop where
  go : ∀ (t : St) (f : List UInt8) (r : List (List UInt8)), Inv t → t.rx = f :: r → t.over = false → Inv (fr { t with rx := r } f)
  over : ∀ (t : St) (f : List UInt8) (r : List (List UInt8)), Inv t → t.rx = f :: r → t.over = true → Inv { t with rx := r }
end Go.Proofs.YtcbkaiakdhiloabGreatDoor
