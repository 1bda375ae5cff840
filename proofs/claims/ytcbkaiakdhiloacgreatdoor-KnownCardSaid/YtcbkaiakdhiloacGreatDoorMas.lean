/- Parts of the walk; written by programs, merged. -/
import Derived.Test.YtcbkaiakdhiloacGreatDoorMaq
import Derived.Test.YtcbkaiakdhiloacGreatDoorMar
set_option linter.unusedSimpArgs false
set_option linter.unusedVariables false
set_option maxRecDepth 20000
set_option maxHeartbeats 8000000
namespace Go.Proofs.YtcbkaiakdhiloacGreatDoor
open Go.RowKit Go.Proofs Go.Maps
attribute [local go_sem] bs_size bs_append bs_extract bs_toList
def entA (e : EntD) : Array Value := #[.int .u8 (e.card.1.toNat : Int), .int .u8 (e.card.2.1.toNat : Int), .int .u8 (e.card.2.2.1.toNat : Int), .int .u8 (e.card.2.2.2.1.toNat : Int), .int .u8 (e.card.2.2.2.2.1.toNat : Int), .int .u8 (e.card.2.2.2.2.2.toNat : Int), .bool e.known, .int .i64 e.due, .int .i64 e.asked, .string (bs e.waits)]
def ctF (u : Nat → Value) : Act := ⟨#[u 0, u 1, u 2, u 3, u 4, u 5, u 6, u 7, u 8, u 9, u 10, u 11, u 12, u 13, u 14, u 15, u 16, u 17, u 18, u 19, u 20, u 21, u 22, u 23, u 24, u 25, u 26, u 27, u 28, u 29, u 30, u 31, u 32, u 33, u 34, u 35, u 36, u 37, u 38, u 39, u 40, u 41, u 42, u 43, u 44, u 45, u 46, u 47, u 48, u 49, u 50, u 51, u 52, u 53, u 54, u 55, u 56, u 57, u 58, u 59, u 60, u 61, u 62, u 63], []⟩
set_option maxRecDepth 100000 in
theorem ctF_eq (u : Nat → Value) : ctF u = frN 64 u := rfl
theorem ctF_of {a : Act} (h : Sz 64 a) : a = ctF (sl a) := h.eq.trans (ctF_eq _).symm
theorem ctR0  (a : Act) (w : World) (K : Exit → Act → World → Prop) (hs : Sz 64 a)
     
    (hK : ∀ a' w', Sz 64 a' → Kp [0, 1, 5, 7, 8, 14, 15, 16] a a' → w' = w → K .normal a' w') :
    (regionOf Tryz.f42 0).wp Tryz.prog K a w := by
  unfold Kp at hK; rw [ctF_of hs]; clear hs; generalize sl a = u at *; clear a; have HK := Lib.hid hK; clear hK; conv => arg 2; whnf
  simp only [ctF]
  go_wp2_with fail
  exact HK.out _ _  ⟨rfl, rfl⟩ (Kc rfl (Kc rfl (Kc rfl (Kc rfl (Kc rfl (Kc rfl (Kc rfl (Kc rfl (Kn _ _)))))))))  rfl
theorem ctR1  (a : Act) (w : World) (K : Exit → Act → World → Prop) (hs : Sz 64 a)
     
    (hK : ∀ a' w', Sz 64 a' → Kp [0, 1, 7, 8, 14, 15, 16] a a' → sl a' 5 = .slice none 0 0 → w' = w → K .normal a' w') :
    (regionOf Tryz.f42 1).wp Tryz.prog K a w := by
  unfold Kp at hK; rw [ctF_of hs]; clear hs; generalize sl a = u at *; clear a; have HK := Lib.hid hK; clear hK; conv => arg 2; whnf
  simp only [ctF]
  go_wp2_with fail
  exact HK.out _ _  ⟨rfl, rfl⟩ (Kc rfl (Kc rfl (Kc rfl (Kc rfl (Kc rfl (Kc rfl (Kc rfl (Kn _ _)))))))) (rfl) rfl
theorem ctR2 (cb co b : Nat) (m : List EntD) (a : Act) (w : World) (K : Exit → Act → World → Prop) (hs : Sz 64 a)
    (h0 : sl a 0 = .pointer (some ⟨cb, co, none⟩)) (hc : w.cell? ⟨cb, co, none⟩ = some (.map (some b))) (hm : MapAt w b m) (hl : m.length ≤ 4)
    (hK : ∀ a' w' A cap, Sz 64 a' → Kp [0, 1, 5, 7, 8] a a' → sl a' 14 = .slice A m.length cap → sl a' 15 = .int .i64 (m.length : Int) → sl a' 16 = .int .i64 0 → SlR w' (oneB b) 1 A m.length ((sortN (m.map (·.ip))).map encU) → Fr noB w w' → K .normal a' w') :
    (regionOf Tryz.f42 2).wp Tryz.prog K a w := by
  unfold Kp at hK; rw [ctF_of hs]; clear hs; generalize sl a = u at *; clear a; have HK := Lib.hid hK; clear hK; conv => arg 2; whnf
  simp only [ctF, h0]
  have hcell : (w.alloc (.cells #[.map (some b)] 97)).cell? ⟨w.heap.size, 0, none⟩ = some (.map (some b)) := by simp
  have hcall := keysSorted w.heap.size b m (w.alloc (.cells #[.map (some b)] 97)) hcell (by simp) (hm.keep ((Fr.refl noB w).alloc _) (fun x => x)) hl
  have Hcall := Lib.hid hcall
  clear hcall hcell
  go_wp2_with fail
  refine (callsIn_wide.1 (kskeys_in Fence.wide 5 trivial rfl (some b) _)).mono ?_
  rintro e w1 ⟨rfl, rfl⟩
  go_wp2_with fail
  refine Hcall.out.mono ?_
  rintro e w2 ⟨A, cap, rfl, hS, hf⟩
  go_wp2_with fail
  exact HK.out _ _ _ _ ⟨rfl, rfl⟩ (Kc h0.symm (Kc rfl (Kc rfl (Kc rfl (Kc rfl (Kn _ _)))))) (rfl) (rfl) (rfl) (hS.sub (T := oneB b) (fun k _ e => by obtain rfl : k = b := e; simp; have := hm.lt; omega)) (((Fr.refl noB w).alloc _).none hf)
theorem ctR3 (i n : Nat) (a : Act) (w : World) (K : Exit → Act → World → Prop) (hs : Sz 64 a)
    (h15 : sl a 15 = .int .i64 (n : Int)) (h16 : sl a 16 = .int .i64 (i : Int)) 
    (hK : ∀ a' w', Sz 64 a' → Kp [0, 1, 5, 7, 8, 14, 15, 16] a a' → sl a' 17 = .bool (decide (i < n)) → w' = w → K .normal a' w') :
    (regionOf Tryz.f42 3).wp Tryz.prog K a w := by
  unfold Kp at hK; rw [ctF_of hs]; clear hs; generalize sl a = u at *; clear a; have HK := Lib.hid hK; clear hK; conv => arg 2; whnf
  simp only [ctF, h15, h16]
  go_wp2_with fail
  exact HK.out _ _  ⟨rfl, rfl⟩ (Kc rfl (Kc rfl (Kc rfl (Kc rfl (Kc rfl (Kc rfl (Kc h15.symm (Kc h16.symm (Kn _ _))))))))) (congrArg Value.bool (decide_eq_decide.2 (by omega))) rfl
theorem ctR4 (i n cap ip : Nat) (ad : Addr) (a : Act) (w : World) (K : Exit → Act → World → Prop) (hs : Sz 64 a)
    (h14 : sl a 14 = .slice (some ad) n cap) (h16 : sl a 16 = .int .i64 (i : Int)) (hcl : w.cell? (ad.add i) = some (.int .u32 (ip : Int))) (hi : i < n)
    (hK : ∀ a' w', Sz 64 a' → Kp [0, 1, 5, 8, 14, 15, 16] a a' → sl a' 7 = .int .u32 (ip : Int) → w' = w → K .normal a' w') :
    (regionOf Tryz.f42 4).wp Tryz.prog K a w := by
  unfold Kp at hK; rw [ctF_of hs]; clear hs; generalize sl a = u at *; clear a; have HK := Lib.hid hK; clear hK; conv => arg 2; whnf
  simp only [ctF, h14, h16]
  go_wp2_with fail
  exact HK.out _ _  ⟨rfl, rfl⟩ (Kc rfl (Kc rfl (Kc rfl (Kc rfl (Kc h14.symm (Kc rfl (Kc h16.symm (Kn _ _)))))))) (rfl) rfl
theorem ctR5 (cb co b ip : Nat) (m : List EntD) (e : EntD) (a : Act) (w : World) (K : Exit → Act → World → Prop) (hs : Sz 64 a)
    (h0 : sl a 0 = .pointer (some ⟨cb, co, none⟩)) (h7 : sl a 7 = .int .u32 (ip : Int)) (hc : w.cell? ⟨cb, co, none⟩ = some (.map (some b))) (hm : MapAt w b m) (hip : ip < 4294967296) (hfd : find m ip = some e)
    (hK : ∀ a' w' g, Sz 64 a' → Kp [0, 1, 5, 7, 14, 15, 16] a a' → sl a' 8 = .pointer (some ⟨g, 0, none⟩) → Bk w' g 160 (entA e) → w.heap.size ≤ g → Fr noB w w' → K .normal a' w') :
    (regionOf Tryz.f42 5).wp Tryz.prog K a w := by
  unfold Kp at hK; rw [ctF_of hs]; clear hs; generalize sl a = u at *; clear a; have HK := Lib.hid hK; clear hK; conv => arg 2; whnf
  simp only [ctF, h0, h7]
  obtain ⟨D, hown, hrep⟩ := hm
  obtain ⟨hhas, hat⟩ := at_some hrep hfd
  obtain ⟨v, ps, hrun, hv⟩ := hown.lookup cacheK Tryz.underlying97 (zeroEnt w) (entR_mk ent0) (ipKey hip)
  rw [hat] at hv
  obtain rfl := entR_inv hv
  clear hv hat hhas hown hrep
  unfold entC at hrun
  go_wp2_with ((refine wpList_store_bk rfl 160 (.tmp 8) (.tmp 25) rfl w.heap.size _ #[.int .u8 0, .int .u8 0, .int .u8 0, .int .u8 0, .int .u8 0, .int .u8 0, .bool false, .int .i64 0, .int .i64 0, .string ⟨#[]⟩] (entA e) rfl rfl (Bk.new w _ _) rfl (by kernel_rfl) (by simp [entA, Value.oneCell']) ?_); intro w9 hx9 hf9)
  exact HK.out _ _ _ ⟨rfl, rfl⟩ (Kc h0.symm (Kc rfl (Kc rfl (Kc h7.symm (Kc rfl (Kc rfl (Kc rfl (Kn _ _)))))))) (rfl) hx9 (Nat.le_refl _) (((Fr.refl noB w).alloc _).trans' hf9 (fun k hk e => by have e' : k = w.heap.size := e; omega))
theorem ctR10 (e : EntD) (g : Nat) (now : Int) (b : Bool) (a : Act) (w : World) (K : Exit → Act → World → Prop) (hs : Sz 64 a)
    (h1 : sl a 1 = .int .i64 now) (h8 : sl a 8 = .pointer (some ⟨g, 0, none⟩)) (hE : Bk w g 160 (entA e)) (hb : decide (now < e.due) = b)
    (hK : ∀ a' w', Sz 64 a' → Kp [0, 1, 5, 7, 8, 14, 15, 16] a a' → sl a' 44 = .bool b → w' = w → K .normal a' w') :
    (regionOf Tryz.f42 10).wp Tryz.prog K a w := by
  unfold Kp at hK; rw [ctF_of hs]; clear hs; generalize sl a = u at *; clear a; have HK := Lib.hid hK; clear hK; conv => arg 2; whnf
  simp only [ctF, h1, h8]
  have hEc := hE.cells
  unfold entA at hEc
  go_wp2_with fail
  exact HK.out _ _  ⟨rfl, rfl⟩ (Kc rfl (Kc h1.symm (Kc rfl (Kc rfl (Kc h8.symm (Kc rfl (Kc rfl (Kc rfl (Kn _ _))))))))) (rfl) rfl
theorem ctR11a (e : EntD) (g : Nat) (a : Act) (w : World) (K : Exit → Act → World → Prop) (hs : Sz 64 a)
    (h8 : sl a 8 = .pointer (some ⟨g, 0, none⟩)) (hE : Bk w g 160 (entA e)) (hk : e.known = true)
    (hK : ∀ a' w', Sz 64 a' → Kp [0, 1, 5, 7, 8, 14, 15, 16] a a' → sl a' 49 = .bool true → w' = w → K .normal a' w') :
    (regionOf Tryz.f42 11).wp Tryz.prog K a w := by
  unfold Kp at hK; rw [ctF_of hs]; clear hs; generalize sl a = u at *; clear a; have HK := Lib.hid hK; clear hK; conv => arg 2; whnf
  simp only [ctF, h8]
  have hEc := hE.cells
  unfold entA at hEc
  rw [hk] at hEc
  go_wp2_with fail
  exact HK.out _ _  ⟨rfl, rfl⟩ (Kc rfl (Kc rfl (Kc rfl (Kc rfl (Kc h8.symm (Kc rfl (Kc rfl (Kc rfl (Kn _ _))))))))) (rfl) rfl
theorem ctR11b (e : EntD) (g : Nat) (b : Bool) (a : Act) (w : World) (K : Exit → Act → World → Prop) (hs : Sz 64 a)
    (h8 : sl a 8 = .pointer (some ⟨g, 0, none⟩)) (hE : Bk w g 160 (entA e)) (hk : e.known = false) (hb : (e.asked == 3) = b)
    (hK : ∀ a' w', Sz 64 a' → Kp [0, 1, 5, 7, 8, 14, 15, 16] a a' → sl a' 49 = .bool b → w' = w → K .normal a' w') :
    (regionOf Tryz.f42 11).wp Tryz.prog K a w := by
  unfold Kp at hK; rw [ctF_of hs]; clear hs; generalize sl a = u at *; clear a; have HK := Lib.hid hK; clear hK; conv => arg 2; whnf
  simp only [ctF, h8]
  have hEc := hE.cells
  unfold entA at hEc
  rw [hk] at hEc
  go_wp2_with fail
  exact HK.out _ _  ⟨rfl, rfl⟩ (Kc rfl (Kc rfl (Kc rfl (Kc rfl (Kc h8.symm (Kc rfl (Kc rfl (Kc rfl (Kn _ _))))))))) (rfl) rfl
theorem ctR12 (cb co b ip : Nat) (m : List EntD) (a : Act) (w : World) (K : Exit → Act → World → Prop) (hs : Sz 64 a)
    (h0 : sl a 0 = .pointer (some ⟨cb, co, none⟩)) (h7 : sl a 7 = .int .u32 (ip : Int)) (hc : w.cell? ⟨cb, co, none⟩ = some (.map (some b))) (hm : MapAt w b m) (hip : ip < 4294967296)
    (hK : ∀ a' w', Sz 64 a' → Kp [0, 1, 5, 7, 8, 14, 15, 16] a a' → MapAt w' b (m.filter fun e => e.ip != ip) → Fr (oneB b) w w' → K .normal a' w') :
    (regionOf Tryz.f42 12).wp Tryz.prog K a w := by
  unfold Kp at hK; rw [ctF_of hs]; clear hs; generalize sl a = u at *; clear a; have HK := Lib.hid hK; clear hK; conv => arg 2; whnf
  simp only [ctF, h0, h7]
  obtain ⟨D, hown, hrep⟩ := hm
  have hkey := ipKey hip
  go_wp2_with (at_delete; go_must (refine wpList_delete_own _ rfl (.tmp 60) (.tmp 61) 97 38 rfl 160 cacheK Tryz.underlying97 entR b m.length D rfl hown _ (ipL ip) rfl hkey ?_); intro w3 hown3 htn3)
  exact HK.out _ _  ⟨rfl, rfl⟩ (Kc h0.symm (Kc rfl (Kc rfl (Kc h7.symm (Kc rfl (Kc rfl (Kc rfl (Kc rfl (Kn _ _)))))))))  (.of hown3 (hrep.del ip)) ((Fr.refl (oneB b) w).grown htn3.grown (fun g h _ => by injection h with h; exact h.symm))
theorem ctR6 (e : EntD) (g : Nat) (a : Act) (w : World) (K : Exit → Act → World → Prop) (hs : Sz 64 a)
    (h8 : sl a 8 = .pointer (some ⟨g, 0, none⟩)) (hE : Bk w g 160 (entA e))
    (hK : ∀ a' w', Sz 64 a' → Kp [0, 1, 5, 7, 8, 14, 15, 16] a a' → Bk w' g 160 (entA { e with asked := wrap64 (e.asked + 1) }) → Fr (oneB g) w w' → K .normal a' w') :
    (regionOf Tryz.f42 6).wp Tryz.prog K a w := by
  unfold Kp at hK; rw [ctF_of hs]; clear hs; generalize sl a = u at *; clear a; have HK := Lib.hid hK; clear hK; conv => arg 2; whnf
  simp only [ctF, h8]
  have qw := i64w (e.asked + 1)
  have hEc := hE.cells
  have hEf := hE.frees
  unfold entA at hEc
  go_wp2_with fail
  exact HK.out _ _  ⟨rfl, rfl⟩ (Kc rfl (Kc rfl (Kc rfl (Kc rfl (Kc h8.symm (Kc rfl (Kc rfl (Kc rfl (Kn _ _)))))))))  (hE.set 8 (.int .i64 (wrap64 (e.asked + 1)))) ((Fr.refl (oneB g) w).setCell (p := ⟨g, 8, none⟩) (fun _ => rfl) _)
theorem ctR7 (e : EntD) (g : Nat) (a : Act) (w : World) (K : Exit → Act → World → Prop) (hs : Sz 64 a)
    (h8 : sl a 8 = .pointer (some ⟨g, 0, none⟩)) (hE : Bk w g 160 (entA e))
    (hK : ∀ a' w', Sz 64 a' → Kp [0, 1, 5, 7, 8, 14, 15, 16] a a' → Bk w' g 160 (entA { e with due := wrap64 (e.due + 2) }) → Fr (oneB g) w w' → K .normal a' w') :
    (regionOf Tryz.f42 7).wp Tryz.prog K a w := by
  unfold Kp at hK; rw [ctF_of hs]; clear hs; generalize sl a = u at *; clear a; have HK := Lib.hid hK; clear hK; conv => arg 2; whnf
  simp only [ctF, h8]
  have qw := i64w (e.due + 2)
  have hEc := hE.cells
  have hEf := hE.frees
  unfold entA at hEc
  go_wp2_with fail
  exact HK.out _ _  ⟨rfl, rfl⟩ (Kc rfl (Kc rfl (Kc rfl (Kc rfl (Kc h8.symm (Kc rfl (Kc rfl (Kc rfl (Kn _ _)))))))))  (hE.set 7 (.int .i64 (wrap64 (e.due + 2)))) ((Fr.refl (oneB g) w).setCell (p := ⟨g, 7, none⟩) (fun _ => rfl) _)
theorem ctR8 (cb co b ip : Nat) (m : List EntD) (e : EntD) (g : Nat) (e0 : EntD) (a : Act) (w : World) (K : Exit → Act → World → Prop) (hs : Sz 64 a)
    (h0 : sl a 0 = .pointer (some ⟨cb, co, none⟩)) (h7 : sl a 7 = .int .u32 (ip : Int)) (h8 : sl a 8 = .pointer (some ⟨g, 0, none⟩)) (hc : w.cell? ⟨cb, co, none⟩ = some (.map (some b))) (hm : MapAt w b m) (hml : m.length ≤ 4) (hE : Bk w g 160 (entA e)) (hip : ip < 4294967296) (hei : e.ip = ip) (hfd : find m ip = some e0)
    (hK : ∀ a' w', Sz 64 a' → Kp [0, 1, 5, 7, 8, 14, 15, 16] a a' → MapAt w' b (setEnt m ip fun _ => e) → Fr (oneB b) w w' → K .normal a' w') :
    (regionOf Tryz.f42 8).wp Tryz.prog K a w := by
  unfold Kp at hK; rw [ctF_of hs]; clear hs; generalize sl a = u at *; clear a; have HK := Lib.hid hK; clear hK; conv => arg 2; whnf
  obtain ⟨D, hown, hrep⟩ := hm
  have hkey := ipKey hip
  simp only [ctF, h0, h7, h8]
  refine wp_region_pls (by kernel_rfl) (fun w' => Bk w' g 160 (entA e) ∧ w'.cell? ⟨cb, co, none⟩ = some (.map (some b)) ∧ w'.ownsMap Tryz.prog 38 entR b m.length D ∧ Fr noB w w') [6] (.p 0 (.p 1 (.p 2 (.p 4 (.q 3 (.q 5 (.e 6 (.nil)))))))) (by kernel_rfl) (⟨hE.drew, ((Fr.refl noB w).drew.cell (a := ⟨cb, co, none⟩) (cell_lt' hc) (fun x => x)).trans hc, hown.drew, (Fr.refl _ _).drew⟩) ?_
  intro ops Q' hO hQ' wr1 hR1
  iterate 4 (refine pl_p0 hO rfl rfl ?_ (fun w' => ?_) ?_; rotate_left 1; (focus (go_simp; ((try with_reducible rfl); done))); simp only [Act.put, List.setIfInBounds_toArray, List.set_cons_zero, List.set_cons_succ])
  iterate 2 (refine pl_q0 hO rfl rfl ?_ (fun w' hS => ?_) ?_; rotate_left 1; (focus (obtain ⟨hS1, hS2, hS3, hS4⟩ := hS; have hSc := hS1.cells; unfold entA at hSc; go_simp; ((try with_reducible rfl); done))); simp only [Act.put, List.setIfInBounds_toArray, List.set_cons_zero, List.set_cons_succ])
  refine pl_b0 hO rfl rfl rfl (fun K hK => ?_)
  obtain ⟨w4, hrun, hown4, htn4⟩ := hR1.2.2.1.store cacheK Tryz.underlying97 (by unfold maxLen; omega) hkey (entR_mk e)
  simp only [entC] at hrun
  go_simp
  refine hK _ _ ?_
  clear hK K
  refine pl_nil (hQ' _ _ ?_)
  exact HK.out _ _  ⟨rfl, rfl⟩ (Kc h0.symm (Kc rfl (Kc rfl (Kc h7.symm (Kc h8.symm (Kc rfl (Kc rfl (Kc rfl (Kn _ _)))))))))  (by have hmem : e.ip ∈ m.map (·.ip) := by { rw [hei]; have := find_some hfd; exact this.2 ▸ List.mem_map_of_mem this.1 }; have := hrep.old hmem; rw [hei] at this; exact .of hown4 this) ((hR1.2.2.2.of_no (oneB b)).trans ((Fr.refl (oneB b) wr1).grown htn4.grown (fun g h _ => by injection h with h; exact h.symm)))
theorem ctR9 (base ip k : Nat) (v : Value) (xs : List Value) (a : Act) (w : World) (K : Exit → Act → World → Prop) (hs : Sz 64 a)
    (h5 : sl a 5 = v) (h7 : sl a 7 = .int .u32 (ip : Int)) (hv : w.ownsRow base 38 1 v k xs) (hk : k ≤ 1000) (hb : base ≤ w.heap.size)
    (hK : ∀ a' w' v', Sz 64 a' → Kp [0, 1, 7, 8, 14, 15, 16] a a' → sl a' 5 = v' → w'.ownsRow base 38 1 v' (k + 1) (xs ++ [encU ip]) → (∀ j, j < base → w'.heap[j]? = w.heap[j]?) → Fr (fun j => base ≤ j) w w' → K .normal a' w') :
    (regionOf Tryz.f42 9).wp Tryz.prog K a w := by
  unfold Kp at hK; rw [ctF_of hs]; clear hs; generalize sl a = u at *; clear a; have HK := Lib.hid hK; clear hK; conv => arg 2; whnf
  simp only [ctF, h5, h7]
  clear h5
  obtain ⟨i0, hi, hz0, hz1, hz2⟩ := info_parts ksinfo26
  go_wp2_with (at_builtin; refine wpList_append_own_at _ rfl _ _ 110 rfl base 38 i0 (.int .u32 0) 1 4 Tryz.underlying110 hi hz0 hz1 hz2 rfl (by decide) _ _ _ rfl (hv.alloc _) ⟨w.heap.size, 0, none⟩ 1 1 [encU ip] rfl rfl (cell_one_new _ _ _) (by simp [Value.oneCell']) (by unfold maxLen; omega) (by omega) (by simp; omega) ?_; intro v' w3 hown' hg3 hnil3 hbk3)
  have hfg : Fr (fun j => base ≤ j) (w.alloc (.cells #[encU ip] 38)) w3 := (Fr.refl _ _).grown hg3 (fun g h _ => ((hv.alloc (.cells #[encU ip] 38)).lt g h).1)
  exact HK.out _ _ v' ⟨rfl, rfl⟩ (Kc rfl (Kc rfl (Kc h7.symm (Kc rfl (Kc rfl (Kc rfl (Kc rfl (Kn _ _)))))))) (rfl) hown' (fun j hj => ((Fr.refl (fun j => base ≤ j) w).alloc _ |>.trans hfg).block j (by omega) (by omega)) ((Fr.refl (fun j => base ≤ j) w).alloc _ |>.trans hfg)
theorem ctR13 (i j : Nat) (a : Act) (w : World) (K : Exit → Act → World → Prop) (hs : Sz 64 a)
    (h16 : sl a 16 = .int .i64 (i : Int)) (q : IntKind.i64.wrap ((i : Int) + 1) = (j : Int))
    (hK : ∀ a' w', Sz 64 a' → Kp [0, 1, 5, 7, 8, 14, 15] a a' → sl a' 16 = .int .i64 (j : Int) → w' = w → K .normal a' w') :
    (regionOf Tryz.f42 13).wp Tryz.prog K a w := by
  unfold Kp at hK; rw [ctF_of hs]; clear hs; generalize sl a = u at *; clear a; have HK := Lib.hid hK; clear hK; conv => arg 2; whnf
  simp only [ctF, h16]
  clear h16
  go_wp2_with fail
  exact HK.out _ _  ⟨rfl, rfl⟩ (Kc rfl (Kc rfl (Kc rfl (Kc rfl (Kc rfl (Kc rfl (Kc rfl (Kn _ _)))))))) (rfl) rfl
theorem ctR14 (v : Value) (a : Act) (w : World) (K : Exit → Act → World → Prop) (hs : Sz 64 a)
    (h5 : sl a 5 = v) 
    (hK : ∀ a' w', Sz 64 a' → Kp [0, 1, 5, 7, 8, 14, 15, 16] a a' → sl a' 4 = v → w' = w → K .normal a' w') :
    (regionOf Tryz.f42 14).wp Tryz.prog K a w := by
  unfold Kp at hK; rw [ctF_of hs]; clear hs; generalize sl a = u at *; clear a; have HK := Lib.hid hK; clear hK; conv => arg 2; whnf
  simp only [ctF, h5]
  go_wp2_with fail
  exact HK.out _ _  ⟨rfl, rfl⟩ (Kc rfl (Kc rfl (Kc h5.symm (Kc rfl (Kc rfl (Kc rfl (Kc rfl (Kc rfl (Kn _ _))))))))) (rfl) rfl
/-! plain -/
theorem fm_congr {f g : EntD → Option EntD} : ∀ {l : List EntD}, (∀ x ∈ l, f x = g x) → l.filterMap f = l.filterMap g
  | [], _ => rfl
  | a :: r, h => by rw [List.filterMap_cons, List.filterMap_cons, h a (by simp), fm_congr fun x hx => h x (by simp [hx])]
theorem find_of_mem : ∀ {l : List EntD} {e : EntD}, (l.map (·.ip)).Nodup → e ∈ l → find l e.ip = some e
  | a :: r, e, hn, h => by
    rw [List.map_cons, List.nodup_cons] at hn
    unfold find
    rw [List.find?_cons]
    rcases List.mem_cons.1 h with rfl | h
    · simp
    · have : ¬ a.ip = e.ip := fun hx => hn.1 (hx ▸ List.mem_map_of_mem h)
      rw [show (a.ip == e.ip) = false by simpa using this]
      exact find_of_mem hn.2 h
theorem mem_unique {l : List EntD} {x e : EntD} (hn : (l.map (·.ip)).Nodup) (hx : x ∈ l) (he : e ∈ l) (h : x.ip = e.ip) : x = e := by
  have h1 := find_of_mem hn hx
  have h2 := find_of_mem hn he
  rw [h, h2] at h1
  exact (Option.some.inj h1).symm
theorem keepE_ip {now : Int} {x y : EntD} (h : St.keepE now x = some y) : y.ip = x.ip := by
  unfold St.keepE at h
  split at h
  · cases h; rfl
  · split at h
    · cases h
    · cases h; rfl
def mSt (l : List EntD) (now : Int) (S : List Nat) : List EntD := l.filterMap fun e => if e.ip ∈ S then St.keepE now e else some e
theorem mSt_nil (l : List EntD) (now : Int) : mSt l now [] = l := by
  unfold mSt
  simp
theorem mSt_all {l : List EntD} {now : Int} {S : List Nat} (h : ∀ e ∈ l, e.ip ∈ S) : mSt l now S = l.filterMap (St.keepE now) := by
  unfold mSt
  apply fm_congr
  intro e he
  rw [if_pos (h e he)]
theorem mSt_mem {l : List EntD} {now : Int} {S : List Nat} {e : EntD} (he : e ∈ l) (h : e.ip ∉ S) : e ∈ mSt l now S := by
  unfold mSt
  rw [List.mem_filterMap]
  exact ⟨e, he, by rw [if_neg h]⟩
theorem mSt_keep {l : List EntD} {now : Int} {S : List Nat} {e : EntD} (hn : (l.map (·.ip)).Nodup) (he : e ∈ l) (hk : St.keepE now e = some e) : mSt l now (S ++ [e.ip]) = mSt l now S := by
  unfold mSt
  apply fm_congr
  intro x hx
  by_cases hi : x.ip = e.ip
  · obtain rfl := mem_unique hn hx he hi
    rw [if_pos (by simp), hk]
    split <;> rfl
  · by_cases hs : x.ip ∈ S
    · rw [if_pos (by simp [hs]), if_pos hs]
    · rw [if_neg (by simp [hs, hi]), if_neg hs]
theorem mSt_del {l : List EntD} {now : Int} {S : List Nat} {e : EntD} (hn : (l.map (·.ip)).Nodup) (he : e ∈ l) (hS : e.ip ∉ S) (hk : St.keepE now e = none) : mSt l now (S ++ [e.ip]) = (mSt l now S).filter fun x => x.ip != e.ip := by
  unfold mSt
  rw [List.filter_filterMap]
  apply fm_congr
  intro x hx
  by_cases hi : x.ip = e.ip
  · obtain rfl := mem_unique hn hx he hi
    rw [if_pos (by simp), hk, if_neg hS, Option.filter_some, if_neg (by simp)]
  · by_cases hs : x.ip ∈ S
    · rw [if_pos (by simp [hs]), if_pos hs]
      cases hq : St.keepE now x with
      | none => rfl
      | some y => rw [Option.filter_some, if_pos]; rw [keepE_ip hq]; simpa using hi
    · rw [if_neg (by simp [hs, hi]), if_neg hs, Option.filter_some, if_pos]
      simpa using hi
theorem mSt_ask {l : List EntD} {now : Int} {S : List Nat} {e e' : EntD} (hn : (l.map (·.ip)).Nodup) (he : e ∈ l) (hS : e.ip ∉ S) (hk : St.keepE now e = some e') : mSt l now (S ++ [e.ip]) = setEnt (mSt l now S) e.ip fun _ => e' := by
  unfold mSt setEnt
  rw [List.map_filterMap]
  apply fm_congr
  intro x hx
  by_cases hi : x.ip = e.ip
  · obtain rfl := mem_unique hn hx he hi
    rw [if_pos (by simp), hk, if_neg hS]
    simp
  · by_cases hs : x.ip ∈ S
    · rw [if_pos (by simp [hs]), if_pos hs]
      cases hq : St.keepE now x with
      | none => rfl
      | some y => rw [Option.map_some, if_neg]; rw [keepE_ip hq]; exact hi
    · rw [if_neg (by simp [hs, hi]), if_neg hs, Option.map_some, if_neg hi]
def askAt (l : List EntD) (now : Int) (ip : Nat) : Bool := match find l ip with
  | some e => St.asksE now e
  | none => false
def asksOf (l : List EntD) (now : Int) : List Nat := sortN ((l.filter (St.asksE now)).map (·.ip))
theorem asks_eq {l : List EntD} {now : Int} (hn : (l.map (·.ip)).Nodup) : (sortN (l.map (·.ip))).filter (askAt l now) = asksOf l now := by
  refine pw_unique _ _ ((sortN_pw _).filter _) (sortN_pw _) (((sortN_perm _).filter _).trans (List.Perm.trans ?_ (sortN_perm _).symm))
  rw [List.filter_map]
  have : l.filter (askAt l now ∘ fun e => e.ip) = l.filter (St.asksE now) := by
    apply List.filter_congr
    intro x hx
    show askAt l now x.ip = _
    unfold askAt
    rw [find_of_mem hn hx]
  rw [this]
theorem take_snoc (ks : List Nat) (i : Nat) (ip : Nat) (h : ks[i]? = some ip) : ks.take (i + 1) = ks.take i ++ [ip] := by
  rw [List.take_add_one, h]; rfl
def tickPost (b : Nat) (l : List EntD) (now : Int) (w : World) (e : Ending) (w' : World) : Prop :=
  ∃ A cap, e = .returned (.slice A (asksOf l now).length cap) ∧ SlR w' (fun k => k < w.heap.size) 1 A (asksOf l now).length ((asksOf l now).map encU) ∧ MapAt w' b (l.filterMap (St.keepE now)) ∧ Fr (oneB b) w w'
theorem own_keepB {w w' : World} {base b : Nat} {v : Value} {k : Nat} {xs : List Value} (h : w.ownsRow base 38 1 v k xs) (hf : Fr (oneB b) w w') (hb : b < base) : w'.ownsRow base 38 1 v k xs := by
  refine ⟨h.1, ?_⟩
  rcases h.2 with h1 | ⟨g, cap, cur, h1, h2, h3, h4⟩
  · exact .inl h1
  · have hl : g < w.heap.size := (Array.getElem?_eq_some_iff.1 h3).1
    exact .inr ⟨g, cap, cur, h1, h2, (hf.block g hl (fun x => by have x' : g = b := x; omega)).trans h3, h4⟩
theorem own_keepN {w w' : World} {base : Nat} {v : Value} {k : Nat} {xs : List Value} (h : w.ownsRow base 38 1 v k xs) (hf : Fr noB w w') : w'.ownsRow base 38 1 v k xs := by
  refine ⟨h.1, ?_⟩
  rcases h.2 with h1 | ⟨g, cap, cur, h1, h2, h3, h4⟩
  · exact .inl h1
  · have hl : g < w.heap.size := (Array.getElem?_eq_some_iff.1 h3).1
    exact .inr ⟨g, cap, cur, h1, h2, (hf.block g hl (fun x => x)).trans h3, h4⟩
theorem own_keepG {w w1 w' : World} {base q : Nat} {v : Value} {k : Nat} {xs : List Value} (h : w.ownsRow base 38 1 v k xs) (hf : Fr noB w w1) (hg : Fr (oneB q) w1 w') (hq : w.heap.size ≤ q) : w'.ownsRow base 38 1 v k xs := by
  refine ⟨h.1, ?_⟩
  rcases h.2 with h1 | ⟨g, cap, cur, h1, h2, h3, h4⟩
  · exact .inl h1
  · have hl : g < w.heap.size := (Array.getElem?_eq_some_iff.1 h3).1
    exact .inr ⟨g, cap, cur, h1, h2, (hg.block g (Nat.lt_of_lt_of_le hl hf.size) (fun x => by have x' : g = q := x; omega)).trans ((hf.block g hl (fun x => x)).trans h3), h4⟩
theorem ctRound (cb co b ip k base : Nat) (m : List EntD) (e : EntD) (now : Int) (v : Value) (xs : List Value) (a : Act) (w : World) (J : Exit → Act → World → Prop) (hs : Sz 64 a) (h0 : sl a 0 = .pointer (some ⟨cb, co, none⟩)) (h1 : sl a 1 = .int .i64 now) (h7 : sl a 7 = .int .u32 (ip : Int)) (h5 : sl a 5 = v)
    (hc : w.cell? ⟨cb, co, none⟩ = some (.map (some b))) (hcb : cb ≠ b) (hm : MapAt w b m) (hml : m.length ≤ 4) (hip : ip < 4294967296) (hei : e.ip = ip) (hfd : find m ip = some e) (hv : w.ownsRow base 38 1 v k xs) (hk : k ≤ 1000) (hb : base ≤ w.heap.size) (hbb : b < base) (hcbb : cb < base)
    (hJ : ∀ a' w' v', Sz 64 a' → Kp [0, 1, 14, 15, 16] a a' → sl a' 5 = v' → w'.cell? ⟨cb, co, none⟩ = some (.map (some b)) → MapAt w' b (match St.keepE now e with | none => m.filter fun x => x.ip != ip | some y => if St.asksE now e = true then (setEnt m ip fun _ => y) else m) →
      w'.ownsRow base 38 1 v' (if St.asksE now e = true then k + 1 else k) (if St.asksE now e = true then xs ++ [encU ip] else xs) → Fr (fun j => j = b ∨ base ≤ j) w w' → J .normal a' w') :
    ((regionOf Tryz.f42 5).seq (.block 2 ((regionOf Tryz.f42 10).seq (.cond (.tmp 44) .skip ((regionOf Tryz.f42 11).seq (.cond (.tmp 49) (regionOf Tryz.f42 12) ((regionOf Tryz.f42 6).seq ((regionOf Tryz.f42 7).seq ((regionOf Tryz.f42 8).seq (regionOf Tryz.f42 9)))))))))).wp Tryz.prog J a w := by
  have mo : ∀ {w1 w2 : World}, Fr (oneB b) w1 w2 → Fr (fun j => j = b ∨ base ≤ j) w1 w2 := fun h => h.mono fun j _ hj => .inl hj
  have mg : ∀ {w1 w2 : World} {g : Nat}, base ≤ g → Fr (oneB g) w1 w2 → Fr (fun j => j = b ∨ base ≤ j) w1 w2 := fun hg h => h.mono fun j _ hj => .inr (by obtain rfl : j = _ := hj; exact hg)
  refine wp_seq ?_
  refine ctR5 cb co b ip m e a w _ hs h0 h7 hc hm hip hfd ?_
  intro a1 w1 g hs1 k1 o8 hE1 hg1 hf1
  have hc1 := (hf1.cell (a := ⟨cb, co, none⟩) (cell_lt' hc) (fun x => x)).trans hc
  have hm1 := hm.keep hf1 (fun x => x)
  have hv1 : w1.ownsRow base 38 1 v k xs := own_keepN hv hf1
  have hbg : base ≤ g := Nat.le_trans hb hg1
  refine wp_block (wp_seq ?_)
  obtain ⟨t, ht⟩ : ∃ t, decide (now < e.due) = t := ⟨_, rfl⟩
  refine ctR10 e g now t a1 w1 _ hs1 ((k1 1 (by decide)).trans h1) o8 hE1 ht ?_
  intro a2 w2 hs2 k2 o44 hw; subst hw
  have k12 : Kp [0, 1, 5, 7, 14, 15, 16] a a2 := fun i hi => (k2 i (by revert hi; revert i; decide)).trans (k1 i (by revert hi; revert i; decide))
  refine wp_if o44 (fun hb' => ?_) (fun hb' => ?_)
  · subst hb'
    have ht := of_decide_eq_true ht
    have e1 : St.keepE now e = some e := by unfold St.keepE; rw [if_pos ht]
    have e2 : St.asksE now e = false := by unfold St.asksE; rw [decide_eq_true ht]; rfl
    rw [e1, e2] at hJ
    exact wp_skip (hJ a2 w2 v hs2 (fun i hi => k12 i (by revert hi; revert i; decide)) ((k12 5 (by decide)).trans h5) hc1 hm1 hv1 (hf1.of_no _))
  subst hb'
  have ht := of_decide_eq_false ht
  refine wp_seq ?_
  have key : ∀ a3, Sz 64 a3 → Kp [0, 1, 5, 7, 8, 14, 15, 16] a2 a3 → sl a3 49 = .bool (e.known || decide (e.asked = 3)) → (Code.cond (.tmp 49) (regionOf Tryz.f42 12) ((regionOf Tryz.f42 6).seq ((regionOf Tryz.f42 7).seq ((regionOf Tryz.f42 8).seq (regionOf Tryz.f42 9))))).wp Tryz.prog (Exit.inBlock 2 J) a3 w2 := by
    intro a3 hs3 k3 o49
    have k13 : Kp [0, 1, 5, 7, 14, 15, 16] a a3 := fun i hi => (k3 i (by revert hi; revert i; decide)).trans (k12 i hi)
    refine wp_if o49 (fun hb' => ?_) (fun hb' => ?_)
    · have e1 : St.keepE now e = none := by unfold St.keepE; rw [if_neg ht, if_pos hb']
      have e2 : St.asksE now e = false := by unfold St.asksE; rw [hb']; simp
      rw [e1, e2] at hJ
      refine ctR12 cb co b ip m a3 w2 _ hs3 ((k13 0 (by decide)).trans h0) ((k13 7 (by decide)).trans h7) hc1 hm1 hip ?_
      intro a4 w4 hs4 k4 hm4 hf4
      exact hJ a4 w4 v hs4 (fun i hi => (k4 i (by revert hi; revert i; decide)).trans (k13 i (by revert hi; revert i; decide))) ((k4 5 (by decide)).trans ((k13 5 (by decide)).trans h5)) ((hf4.cell (a := ⟨cb, co, none⟩) (cell_lt' hc1) (fun x => hcb x)).trans hc1) hm4 (own_keepB hv1 hf4 hbb) ((hf1.of_no _).trans (mo hf4))
    · have e1 : St.keepE now e = some { e with asked := wrap64 (e.asked + 1), due := wrap64 (e.due + 2) } := by unfold St.keepE; rw [if_neg ht, if_neg (by rw [hb']; decide)]
      have e2 : St.asksE now e = true := by unfold St.asksE; rw [decide_eq_false ht, hb']; rfl
      rw [e1, e2] at hJ
      simp only [if_true] at hJ
      refine wp_seq ?_
      refine ctR6 e g a3 w2 _ hs3 ((k3 8 (by decide)).trans ((k2 8 (by decide)).trans o8)) hE1 ?_
      intro a4 w4 hs4 k4 hE4 hf4
      refine wp_seq ?_
      refine ctR7 _ g a4 w4 _ hs4 ((k4 8 (by decide)).trans ((k3 8 (by decide)).trans ((k2 8 (by decide)).trans o8))) hE4 ?_
      intro a5 w5 hs5 k5 hE5 hf5
      have hf45 := hf4.trans hf5
      have k15 : Kp [0, 1, 5, 7, 14, 15, 16] a a5 := fun i hi => (k5 i (by revert hi; revert i; decide)).trans ((k4 i (by revert hi; revert i; decide)).trans (k13 i hi))
      have hc5 := (hf45.cell (a := ⟨cb, co, none⟩) (cell_lt' hc1) (fun x => by have x' : cb = g := x; omega)).trans hc1
      have hm5 := hm1.keep hf45 (fun x => by have x' : b = g := x; omega)
      have hv5 : w5.ownsRow base 38 1 v k xs := own_keepG hv hf1 hf45 hg1
      refine wp_seq ?_
      refine ctR8 cb co b ip m { e with asked := wrap64 (e.asked + 1), due := wrap64 (e.due + 2) } g e a5 w5 _ hs5 ((k15 0 (by decide)).trans h0) ((k15 7 (by decide)).trans h7) ((k5 8 (by decide)).trans ((k4 8 (by decide)).trans ((k3 8 (by decide)).trans ((k2 8 (by decide)).trans o8)))) hc5 hm5 hml hE5 hip hei hfd ?_
      intro a6 w6 hs6 k6 hm6 hf6
      have hc6 := (hf6.cell (a := ⟨cb, co, none⟩) (cell_lt' hc5) (fun x => hcb x)).trans hc5
      have hv6 := own_keepB hv5 hf6 hbb
      have hs16 := hf1.size
      have hs45 := hf45.size
      have hs66 := hf6.size
      refine ctR9 base ip k v xs a6 w6 _ hs6 ((k6 5 (by decide)).trans ((k15 5 (by decide)).trans h5)) ((k6 7 (by decide)).trans ((k15 7 (by decide)).trans h7)) hv6 hk (by omega) ?_
      intro a7 w7 v' hs7 k7 o5 hv7 hlow hf7
      refine hJ a7 w7 v' hs7 (fun i hi => (k7 i (by revert hi; revert i; decide)).trans ((k6 i (by revert hi; revert i; decide)).trans (k15 i (by revert hi; revert i; decide)))) o5 ((hf7.cell (a := ⟨cb, co, none⟩) (cell_lt' hc6) (fun x => by have x' : base ≤ cb := x; omega)).trans hc6) (hm6.keep hf7 (fun x => by have x' : base ≤ b := x; omega)) hv7 ?_
      exact (((hf1.of_no _).trans (mg hbg hf45)).trans (mo hf6)).trans (hf7.mono fun j _ hj => .inr hj)
  by_cases hkn : e.known = true
  · refine ctR11a e g a2 w2 _ hs2 ((k2 8 (by decide)).trans o8) hE1 hkn ?_
    intro a3 w3 hs3 k3 o49 hw; subst hw
    exact key a3 hs3 (fun i hi => k3 i (by revert hi; revert i; decide)) (o49.trans (by rw [hkn]; rfl))
  · have hkf : e.known = false := by simpa using hkn
    refine ctR11b e g _ a2 w2 _ hs2 ((k2 8 (by decide)).trans o8) hE1 hkf rfl ?_
    intro a3 w3 hs3 k3 o49 hw; subst hw
    exact key a3 hs3 (fun i hi => k3 i (by revert hi; revert i; decide)) (o49.trans (by rw [hkf, Bool.false_or]; congr 1))
theorem filter_snoc (l : List EntD) (now : Int) (ks : List Nat) (i ip : Nat) (h : ks[i]? = some ip) : (ks.take (i + 1)).filter (askAt l now) = (ks.take i).filter (askAt l now) ++ (if askAt l now ip = true then [ip] else []) := by
  rw [take_snoc ks i ip h, List.filter_append, List.filter_cons]
  split <;> rfl
theorem cacheTick (cb co b : Nat) (l : List EntD) (now : Int) (w : World) (hc : w.cell? ⟨cb, co, none⟩ = some (.map (some b))) (hcb : cb ≠ b) (hm : MapAt w b l) (hl4 : l.length ≤ 4) :
    Calls Tryz.prog 42 #[.pointer (some ⟨cb, co, none⟩), .int .i64 now] w (tickPost b l now w) := by
  have hnd : (l.map (·.ip)).Nodup := by obtain ⟨D, _, hr⟩ := hm; exact hr.nd
  have hlt : ∀ e ∈ l, e.ip < 4294967296 := by obtain ⟨D, _, hr⟩ := hm; exact hr.lt
  have hbl := hm.lt
  have hcl : cb < w.heap.size := cell_lt' hc
  obtain ⟨ks, hks⟩ : ∃ ks, sortN (l.map (·.ip)) = ks := ⟨_, rfl⟩
  have hperm : ks.Perm (l.map (·.ip)) := by rw [← hks]; exact sortN_perm _
  have hknd : ks.Nodup := hperm.nodup_iff.2 hnd
  have hklen : ks.length = l.length := hperm.length_eq.trans (List.length_map ..)
  go_enter Tryz.func42, Tryz.ntmps42
  refine wp_seq ?_
  refine ctR0 _ w _ ⟨rfl, rfl⟩ ?_
  intro a0 w0 hs0 k0 hw; subst hw
  refine wp_seq ?_
  refine ctR1 a0 w0 _ hs0 ?_
  intro a1 w1 hs1 k1 o5 hw; subst hw
  have z0 : sl a1 0 = .pointer (some ⟨cb, co, none⟩) := (k1 0 (by decide)).trans ((k0 0 (by decide)).trans rfl)
  have z1 : sl a1 1 = .int .i64 now := (k1 1 (by decide)).trans ((k0 1 (by decide)).trans rfl)
  clear k1 k0
  refine wp_seq (wp_seq ?_)
  refine ctR2 cb co b l a1 w1 _ hs1 z0 hc hm hl4 ?_
  intro a2 w2 A cap hs2 k2 o14 o15 o16 hA2 hf2
  rw [hks] at hA2
  have e0 := (k2 0 (by decide)).trans z0
  have e1 := (k2 1 (by decide)).trans z1
  have e5 := (k2 5 (by decide)).trans o5
  have hc2 := (hf2.cell (a := ⟨cb, co, none⟩) hcl (fun x => x)).trans hc
  have hm2 := hm.keep hf2 (fun x => x)
  have hs12 := hf2.size
  obtain ⟨base, hbase⟩ : ∃ base, w2.heap.size = base := ⟨_, rfl⟩
  refine wp_block ?_
  refine wp_loop_sz 64 (fun a' w' => ∃ (i : Nat) (v : Value), i ≤ l.length ∧ sl a' 16 = .int .i64 (i : Int) ∧ sl a' 5 = v ∧ Kp [0, 1, 14, 15] a2 a' ∧ w'.cell? ⟨cb, co, none⟩ = some (.map (some b)) ∧ MapAt w' b (mSt l now (ks.take i)) ∧
      w'.ownsRow base 38 1 v ((ks.take i).filter (askAt l now)).length (((ks.take i).filter (askAt l now)).map encU) ∧ Fr (oneB b) w2 w') (fun a' _ => l.length - (intOf (sl a' 16)).toNat)
    hs2 ⟨0, _, Nat.zero_le _, o16, e5, Kp.refl _ _, hc2, by rw [List.take_zero, mSt_nil]; exact hm2, ⟨rfl, .inl ⟨rfl, rfl⟩⟩, Fr.refl _ _⟩ ?_
  rintro b1 v1 hs1' ⟨i, v, hi, i16, i5, j1, hcv, hmv, hov, hfv⟩
  refine wp_seq ?_
  refine ctR3 i l.length b1 v1 _ hs1' ((j1 15 (by decide)).trans o15) i16 ?_
  intro b2 v2 hs2' j2 i17 hw; subst hw
  have j12 : Kp [0, 1, 14, 15] a2 b2 := fun x hx => (j2 x (by revert hx; revert x; decide)).trans (j1 x hx)
  have i16' := (j2 16 (by decide)).trans i16
  have i5' := (j2 5 (by decide)).trans i5
  refine wp_seq ?_
  refine wp_if i17 (fun hb => ?_) (fun hb => ?_)
  · have hlti := of_decide_eq_true hb
    refine wp_skip ?_
    obtain ⟨ip, hip⟩ : ∃ ip, ks[i]? = some ip := ⟨_, List.getElem?_eq_getElem (by omega)⟩
    have hipm : ip ∈ l.map (·.ip) := hperm.mem_iff.1 (List.mem_of_getElem? hip)
    obtain ⟨e, hel, hei⟩ := List.mem_map.1 hipm
    have hipl : ip < 4294967296 := hei ▸ hlt e hel
    have hnot : e.ip ∉ ks.take i := by
      rw [hei]
      intro hx
      have h1 : ks = ks.take i ++ ks.drop i := (List.take_append_drop i ks).symm
      rw [h1] at hknd
      have h2 := (List.nodup_append.1 hknd).2.2 ip hx ip (by
        have : (ks.drop i)[0]? = some ip := by rw [List.getElem?_drop]; exact hip
        exact List.mem_of_getElem? this)
      exact h2 rfl
    have hmn : ((mSt l now (ks.take i)).map (·.ip)).Nodup := by obtain ⟨D, _, hr⟩ := hmv; exact hr.nd
    have hfd : find (mSt l now (ks.take i)) ip = some e := by rw [← hei]; exact find_of_mem hmn (mSt_mem hel hnot)
    have hml : (mSt l now (ks.take i)).length ≤ 4 := Nat.le_trans (List.length_filterMap_le _ _) hl4
    have hask : askAt l now ip = St.asksE now e := by unfold askAt; rw [← hei, find_of_mem hnd hel]
    obtain ⟨ad, u, hAe, hu, hcu⟩ := (hA2.keep hfv).at_ hlti
    have hu2 : u = encU ip := by
      rw [List.getElem?_map, hip] at hu
      exact (Option.some.inj hu).symm
    subst hu2
    have hfsz := hfv.size
    refine wp_seq (wp_block (wp_seq ?_))
    refine ctR4 i l.length cap ip ad b2 v2 _ hs2' ((j12 14 (by decide)).trans (by rw [o14, hAe])) i16' hcu hlti ?_
    intro b3 v3 hs3' j3 i7 hw; subst hw
    have j13 : Kp [0, 1, 14, 15] a2 b3 := fun x hx => (j3 x (by revert hx; revert x; decide)).trans (j12 x hx)
    refine ctRound cb co b ip _ base _ e now v _ b3 v3 _ hs3' ((j13 0 (by decide)).trans e0) ((j13 1 (by decide)).trans e1) i7 ((j3 5 (by decide)).trans i5') hcv hcb hmv hml hipl hei hfd hov (by have h1 := List.length_filter_le (askAt l now) (ks.take i); have h2 := List.length_take_le i ks; omega) (by omega) (by omega) (by omega) ?_
    intro b4 v4 v' hs4' j4 i5n hc4 hm4 hov4 hf4
    refine ctR13 i (i + 1) b4 v4 _ hs4' ((j4 16 (by decide)).trans ((j3 16 (by decide)).trans i16')) ((IntWalk.i64_in _ (by omega)).trans (by omega)) ?_
    intro b5 v5 hs5' j5 i16n hw; subst hw
    have hF : Fr (oneB b) w2 v5 := hfv.trans' hf4 fun j hj hx => by
      rcases hx with rfl | hx
      · rfl
      · omega
    refine ⟨hs5', ⟨i + 1, v', by omega, i16n, (j5 5 (by decide)).trans i5n, fun x hx => (j5 x (by revert hx; revert x; decide)).trans ((j4 x (by revert hx; revert x; decide)).trans (j13 x hx)), hc4, ?_, ?_, hF⟩, ?_⟩
    · rw [take_snoc ks i ip hip]
      cases hk : St.keepE now e with
      | none =>
        rw [hk] at hm4
        rw [← hei, mSt_del hnd hel hnot hk, hei]; exact hm4
      | some y =>
        rw [hk] at hm4
        by_cases ha : St.asksE now e = true
        · simp only [if_pos ha] at hm4
          rw [← hei, mSt_ask hnd hel hnot hk, hei]; exact hm4
        · simp only [if_neg ha] at hm4
          have hy : y = e := by
            unfold St.keepE at hk; unfold St.asksE at ha
            split at hk
            · exact (Option.some.inj hk).symm
            · next hnlt =>
              split at hk
              · cases hk
              · next hkn => exact absurd (by rw [decide_eq_false hnlt]; simpa using hkn) ha
          subst hy
          rw [← hei, mSt_keep hnd hel hk]; exact hm4
    · rw [filter_snoc l now ks i ip hip, hask]
      by_cases ha : St.asksE now e = true
      · rw [if_pos ha, if_pos ha] at hov4
        rw [if_pos ha, List.length_append, List.map_append]; exact hov4
      · rw [if_neg ha, if_neg ha] at hov4
        rw [if_neg ha, List.append_nil]; exact hov4
    · rw [i16n, i16]; simp only [intOf]; omega
  · have hge : i = l.length := by have := of_decide_eq_false hb; omega
    refine wp_exit (then_exit (then_exit (inBlock_self ?_)))
    have hall : ks.take i = ks := List.take_of_length_le (by omega)
    rw [hall] at hmv hov
    have hasks : ks.filter (askAt l now) = asksOf l now := by rw [← hks]; exact asks_eq hnd
    rw [hasks] at hov
    rw [mSt_all (fun e he => hperm.mem_iff.2 (List.mem_map_of_mem he))] at hmv
    refine wp_seq ?_
    refine ctR14 v b2 v2 _ hs2' i5' ?_
    intro b3 v3 hs3' j3 o4 hw; subst hw
    refine wp_ret ?_
    refine bodyPost_ret (results_tmp rfl _ _ _) hs3'.defers ?_
    have hres : b3.tmps.getD 4 undef = v := o4
    rw [hres]
    have hF2 : Fr (oneB b) w1 v3 := (hf2.of_no (oneB b)).trans hfv
    rcases hov.2 with ⟨hv, h0⟩ | ⟨g, cp, cur, hv, hbg, hgb, hr1, hr2, hr3, hr4⟩
    · subst hv
      have hz : asksOf l now = [] := List.eq_nil_of_length_eq_zero h0
      exact ⟨none, 0, by rw [hz]; rfl, by rw [hz]; exact SlR.nil, hmv, hF2⟩
    · subst hv
      refine ⟨_, cp, rfl, ⟨by rw [List.length_map, Nat.mul_one], fun _ => ⟨_, rfl, (Array.getElem?_eq_some_iff.1 hgb).1, fun hx => by have : g < w1.heap.size := hx; omega, fun j u hu => ?_⟩⟩, hmv, hF2⟩
      rw [addr_add, Nat.zero_add]
      have hj : j < (asksOf l now).length := by
        rcases Nat.lt_or_ge j (asksOf l now).length with h | h
        · exact h
        · rw [List.getElem?_eq_none (by rw [List.length_map]; exact h)] at hu; cases hu
      have h1 := congrArg (fun z => z[j]?) hr4
      simp only [Nat.mul_one, List.getElem?_take, if_pos hj, hu, Array.getElem?_toList] at h1
      exact (Bk.cell (show Bk v3 g 38 cur from hgb) j).trans h1
end Go.Proofs.YtcbkaiakdhiloacGreatDoor
namespace Go.Proofs.YtcbkaiakdhiloacGreatDoor
open Go.RowKit Go.Proofs
attribute [local go_sem] bs_size bs_append bs_extract bs_toList
theorem Now.of {L : Lay} {w w' : World} {s : St} (h : BootAt w' L s) (hf : Fr (own' L) w w') : Now L w s w' := ⟨L, rfl, fun _ hb => .inl hb, h, hf⟩
theorem keep_ok {s : St} (h : s.Ok) : ({ s with cache := s.cache.filterMap (St.keepE s.now) } : St).Ok := by
  have key : ∀ e ∈ s.cache.filterMap (St.keepE s.now), e.waits.length ≤ 1500 ∧ 0 ≤ e.due ∧ e.due ≤ 4611686018427388000 := by
    intro e he
    obtain ⟨x, hx, hk⟩ := List.mem_filterMap.1 he
    have h1 := h.waits x hx
    have h2 := h.dues x hx
    have n0 := h.now0
    have n1 := h.now1
    unfold St.keepE at hk
    split at hk
    · cases hk; exact ⟨h1, h2⟩
    · split at hk
      · cases hk
      · cases hk
        have hw : wrap64 (x.due + 2) = x.due + 2 := IntWalk.wrap64_in _ ⟨by omega, by omega⟩
        exact ⟨h1, by simp only [hw]; omega, by simp only [hw]; omega⟩
  exact { h with waits := fun e he => (key e he).1, dues := fun e he => (key e he).2, cache := Nat.le_trans (List.length_filterMap_le _ _) h.cache }
def tkF (u : Nat → Value) : Act := ⟨#[u 0, u 1, u 2, u 3, u 4, u 5, u 6, u 7, u 8, u 9, u 10, u 11, u 12, u 13, u 14, u 15, u 16, u 17, u 18, u 19, u 20, u 21, u 22, u 23, u 24, u 25, u 26, u 27, u 28, u 29, u 30, u 31, u 32, u 33, u 34, u 35, u 36, u 37, u 38, u 39, u 40, u 41, u 42, u 43, u 44, u 45, u 46, u 47, u 48, u 49, u 50, u 51, u 52, u 53, u 54, u 55, u 56, u 57, u 58, u 59, u 60, u 61, u 62, u 63, u 64, u 65, u 66, u 67, u 68, u 69, u 70, u 71, u 72, u 73, u 74, u 75, u 76, u 77, u 78, u 79, u 80, u 81, u 82, u 83, u 84, u 85, u 86, u 87, u 88, u 89, u 90, u 91, u 92, u 93, u 94, u 95, u 96, u 97, u 98, u 99, u 100, u 101, u 102, u 103, u 104, u 105], []⟩
set_option maxRecDepth 100000 in
theorem tkF_eq (u : Nat → Value) : tkF u = frN 106 u := rfl
theorem tkF_of {a : Act} (h : Sz 106 a) : a = tkF (sl a) := h.eq.trans (tkF_eq _).symm
theorem tkR0 (L : Lay) (s : St) (a : Act) (w : World) (K : Exit → Act → World → Prop) (hs : Sz 106 a)
    (h0 : sl a 0 = .pointer (some ⟨L.p, 0, none⟩)) (h : BootAt w L s) (hn : s.now < 4611686018427387904)
    (hK : ∀ a' w', Sz 106 a' → Kp [0, 1, 5, 26, 27, 28] a a' → BootAt w' L { s with now := wrap64 (s.now + 1) } → Fr (own' L) w w' → K .normal a' w') :
    (regionOf Tryz.f18 0).wp Tryz.prog K a w := by
  unfold Kp at hK; rw [tkF_of hs]; clear hs; generalize sl a = u at *; clear a; have HK := Lib.hid hK; clear hK; conv => arg 2; whnf
  simp only [tkF, h0]
  have qw := i64w (s.now + 1)
  have hfz := h.fr
  have c16 := h.g16
  go_wp2_with fail
  exact HK.out _ _  ⟨rfl, rfl⟩ (Kc h0.symm (Kc rfl (Kc rfl (Kc rfl (Kc rfl (Kc rfl (Kn _ _)))))))  (h.set1 16 (.int .i64 (wrap64 (s.now + 1))) { s with now := wrap64 (s.now + 1) } rfl rfl rfl rfl rfl rfl { h.ok with now0 := by show 0 ≤ wrap64 (s.now + 1); rw [IntWalk.wrap64_in _ ⟨by have := h.ok.now0; omega, by omega⟩]; have := h.ok.now0; omega, now1 := by show wrap64 (s.now + 1) ≤ _; rw [IntWalk.wrap64_in _ ⟨by have := h.ok.now0; omega, by omega⟩]; omega }) (fr_set1 L w _ _)
theorem tkR1 (L : Lay) (s : St) (dr : Nat) (a : Act) (w : World) (K : Exit → Act → World → Prop) (hs : Sz 106 a)
    (h0 : sl a 0 = .pointer (some ⟨L.p, 0, none⟩)) (h1 : sl a 1 = .int .u32 (dr : Int)) (h : BootAt w L s) (hdr : dr < 4294967296)
    (hK : ∀ a' w', Sz 106 a' → Kp [0, 1, 5, 26, 27, 28] a a' → BootAt w' L { s with draw := dr } → Fr (own' L) w w' → K .normal a' w') :
    (regionOf Tryz.f18 1).wp Tryz.prog K a w := by
  unfold Kp at hK; rw [tkF_of hs]; clear hs; generalize sl a = u at *; clear a; have HK := Lib.hid hK; clear hK; conv => arg 2; whnf
  simp only [tkF, h0, h1]
  have hfz := h.fr
  have c17 := h.g17
  go_wp2_with fail
  exact HK.out _ _  ⟨rfl, rfl⟩ (Kc h0.symm (Kc h1.symm (Kc rfl (Kc rfl (Kc rfl (Kc rfl (Kn _ _)))))))  (h.set1 17 (.int .u32 (dr : Int)) { s with draw := dr } rfl rfl rfl rfl rfl rfl { h.ok with draw := hdr }) (fr_set1 L w _ _)
theorem tkR2 (L : Lay) (s : St) (a : Act) (w : World) (K : Exit → Act → World → Prop) (hs : Sz 106 a)
    (h0 : sl a 0 = .pointer (some ⟨L.p, 0, none⟩)) (h : BootAt w L s)
    (hK : ∀ a' w', Sz 106 a' → Kp [0, 1, 5, 26, 27, 28] a a' → sl a' 18 = .bool s.over → w' = w → K .normal a' w') :
    (regionOf Tryz.f18 2).wp Tryz.prog K a w := by
  unfold Kp at hK; rw [tkF_of hs]; clear hs; generalize sl a = u at *; clear a; have HK := Lib.hid hK; clear hK; conv => arg 2; whnf
  simp only [tkF, h0]
  go_wp2_with fail
  refine (bootOver L s _ h).mono ?_
  rintro e w2 ⟨rfl, rfl⟩
  go_wp2_with fail
  exact HK.out _ _  ⟨rfl, rfl⟩ (Kc h0.symm (Kc rfl (Kc rfl (Kc rfl (Kc rfl (Kc rfl (Kn _ _))))))) (rfl) rfl
theorem tkR4 (i n : Nat) (a : Act) (w : World) (K : Exit → Act → World → Prop) (hs : Sz 106 a)
    (h27 : sl a 27 = .int .i64 (n : Int)) (h28 : sl a 28 = .int .i64 (i : Int)) 
    (hK : ∀ a' w', Sz 106 a' → Kp [0, 1, 5, 26, 27, 28] a a' → sl a' 29 = .bool (decide (i < n)) → w' = w → K .normal a' w') :
    (regionOf Tryz.f18 4).wp Tryz.prog K a w := by
  unfold Kp at hK; rw [tkF_of hs]; clear hs; generalize sl a = u at *; clear a; have HK := Lib.hid hK; clear hK; conv => arg 2; whnf
  simp only [tkF, h27, h28]
  go_wp2_with fail
  exact HK.out _ _  ⟨rfl, rfl⟩ (Kc rfl (Kc rfl (Kc rfl (Kc rfl (Kc h27.symm (Kc h28.symm (Kn _ _))))))) (congrArg Value.bool (decide_eq_decide.2 (by omega))) rfl
theorem tkR9c (L : Lay) (s : St) (a : Act) (w : World) (K : Exit → Act → World → Prop) (hs : Sz 106 a)
    (h0 : sl a 0 = .pointer (some ⟨L.p, 0, none⟩)) (h : BootAt w L s) (q1 : ((s.phase : Int) != 1) = true) (q2 : ((s.phase : Int) != 2) = true)
    (hK : ∀ a' w', Sz 106 a' → Kp [0, 1, 5, 26, 27, 28] a a' → sl a' 65 = .bool true → BootAt w' L s → Fr noB w w' → K .normal a' w') :
    (regionOf Tryz.f18 9).wp Tryz.prog K a w := by
  unfold Kp at hK; rw [tkF_of hs]; clear hs; generalize sl a = u at *; clear a; have HK := Lib.hid hK; clear hK; conv => arg 2; whnf
  simp only [tkF, h0]
  refine wp_region_pls (by kernel_rfl) (fun w' => BootAt w' L s ∧ Fr noB w w') [] (.p 0 (.p 1 (.p 2 (.p 3 (.q 4 (.p 5 (.p 6 (.p 7 (.p 8 (.p 9 (.p 10 (.q 11 (.p 12 (.p 13 (.p 14 (.p 15 (.p 16 (.p 17 (.p 19 (.p 20 (.p 21 (.p 22 (.q 18 (.q 23 (.p 24 (.p 25 .nil)))))))))))))))))))))))))) (by kernel_rfl) (⟨h.drew, (Fr.refl _ _).drew⟩) ?_
  intro ops Q' hO hQ' wr1 hR1
  iterate 4 (refine pl_p0 hO rfl rfl ?_ (fun w' => ?_) ?_; rotate_left 1; (focus (go_simp; ((try with_reducible rfl); done))); simp only [Act.put, List.setIfInBounds_toArray, List.set_cons_zero, List.set_cons_succ])
  refine pl_q0 hO rfl rfl ?_ (fun w' hS => ?_) ?_; rotate_left 1; (focus (obtain ⟨hB, hF⟩ := hS; have c16 := hB.g16; have c33 := hB.g33; have c41 := hB.g41; have c42 := hB.g42; go_simp; ((try with_reducible rfl); done))); simp only [Act.put, List.setIfInBounds_toArray, List.set_cons_zero, List.set_cons_succ]
  iterate 2 (refine pl_p0 hO rfl rfl ?_ (fun w' => ?_) ?_; rotate_left 1; (focus (go_simp; ((try with_reducible rfl); done))); simp only [Act.put, List.setIfInBounds_toArray, List.set_cons_zero, List.set_cons_succ])
  iterate 4 (refine pl_p1 hO rfl rfl rfl rfl ?_ (fun w' => ?_) ?_; rotate_left 1; (focus (go_simp; ((try with_reducible rfl); done))); simp only [Act.put, List.setIfInBounds_toArray, List.set_cons_zero, List.set_cons_succ])
  refine pl_q1 hO rfl rfl rfl rfl ?_ (fun w' hS => ?_) ?_; rotate_left 1; (focus (obtain ⟨hB, hF⟩ := hS; have c16 := hB.g16; have c33 := hB.g33; have c41 := hB.g41; have c42 := hB.g42; go_simp; ((try with_reducible rfl); done))); simp only [Act.put, List.setIfInBounds_toArray, List.set_cons_zero, List.set_cons_succ]
  refine pl_p1 hO rfl rfl rfl rfl ?_ (fun w' => ?_) ?_; rotate_left 1; (focus (go_simp; ((try with_reducible rfl); done))); simp only [Act.put, List.setIfInBounds_toArray, List.set_cons_zero, List.set_cons_succ]
  iterate 2 (refine pl_p0 hO rfl rfl ?_ (fun w' => ?_) ?_; rotate_left 1; (focus (go_simp; ((try with_reducible rfl); done))); simp only [Act.put, List.setIfInBounds_toArray, List.set_cons_zero, List.set_cons_succ])
  iterate 7 (refine pl_pn hO rfl rfl rfl rfl ?_; simp only [Act.put, List.setIfInBounds_toArray, List.set_cons_zero, List.set_cons_succ])
  iterate 2 (refine pl_qn hO rfl rfl rfl rfl ?_; simp only [Act.put, List.setIfInBounds_toArray, List.set_cons_zero, List.set_cons_succ])
  refine pl_pn hO rfl rfl rfl rfl ?_; simp only [Act.put, List.setIfInBounds_toArray, List.set_cons_zero, List.set_cons_succ]
  refine pl_p0 hO rfl rfl ?_ (fun w' => ?_) ?_; rotate_left 1; (focus (go_simp; ((try with_reducible rfl); done))); simp only [Act.put, List.setIfInBounds_toArray, List.set_cons_zero, List.set_cons_succ]
  refine pl_nil (hQ' _ _ ?_)
  exact HK.out _ _  ⟨rfl, rfl⟩ (Kc h0.symm (Kc rfl (Kc rfl (Kc rfl (Kc rfl (Kc rfl (Kn _ _))))))) (rfl) hR1.1 hR1.2
end Go.Proofs.YtcbkaiakdhiloacGreatDoor
namespace Go.Proofs.YtcbkaiakdhiloacGreatDoor
open Go.RowKit Go.Proofs
attribute [local go_sem] bs_size bs_append bs_extract bs_toList
structure Quiet (s : St) : Prop where
  cache : s.cache = []
  lease : s.lease ≤ 1
  phase : s.phase = 0 ∨ s.phase = 4
theorem quiet_nb {s : St} (h : s.cache = []) : s.neighbours = s := by
  rcases s with ⟨c, rx, tx, now, draw, boots, lost, id, cache, lease, xid, addr, mask, router, server, source, t1, t2, untl, lagain, lsends, phase, port, peer, block, wind, next, came, tagain, tsends, goal, last, image⟩
  dsimp only at h; subst h; rfl
theorem bootLeaseTickQ (L : Lay) (s : St) (w : World) (h : BootAt w L s) (hl : s.lease ≤ 1) :
    Calls Tryz.prog 44 #[.pointer (some ⟨L.p, 0, none⟩)] w (LPost2 L s.leases (.tuple #[]) w) := by
  unfold St.leases
  rcases (by omega : s.lease = 0 ∨ s.lease = 1) with h0 | h0
  · rw [if_pos h0]; exact (tick0 L s w h h0).mono fun _ _ x => x.two
  · rw [if_neg (by omega), if_pos (by omega)]
    by_cases h1 : s.now < s.lagain
    · rw [if_pos h1]; exact (tick1a L s w h h0 h1).mono fun _ _ x => x.two
    rw [if_neg h1]
    by_cases h4 : s.lsends = 4
    · rw [if_pos h4]; exact tick1b L s w h h0 (by omega) h4
    · rw [if_neg h4]; exact (tick1c L s w h h0 (by omega) h4).mono fun _ _ x => x.two
theorem tkR8q (L : Lay) (s : St) (a : Act) (w : World) (K : Exit → Act → World → Prop) (hs : Sz 106 a)
    (h0 : sl a 0 = .pointer (some ⟨L.p, 0, none⟩)) (h : BootAt w L s) (hl : s.lease ≤ 1)
    (hK : ∀ a' w', Sz 106 a' → Kp [0, 1, 5, 26, 27, 28] a a' → (Now L w s.leases w') → K .normal a' w') :
    (regionOf Tryz.f18 8).wp Tryz.prog K a w := by
  unfold Kp at hK; rw [tkF_of hs]; clear hs; generalize sl a = u at *; clear a; have HK := Lib.hid hK; clear hK; conv => arg 2; whnf
  simp only [tkF, h0]
  go_wp2_with fail
  refine (bootLeaseTickQ L s _ h hl).mono ?_
  intro e w6 hp6
  obtain ⟨rfl, hp6⟩ := hp6
  go_wp2_with fail
  exact HK.out _ _  ⟨rfl, rfl⟩ (KpU.cons (h0.symm) (KpU.cons (rfl) (KpU.cons (rfl) (KpU.cons (rfl) (KpU.cons (rfl) (KpU.cons (rfl) (KpU.nil _ _)))))))  hp6
theorem tkR3q (L : Lay) (s : St) (a : Act) (w : World) (K : Exit → Act → World → Prop) (hs : Sz 106 a)
    (h0 : sl a 0 = .pointer (some ⟨L.p, 0, none⟩)) (h : BootAt w L s) (hc : s.cache = [])
    (hK : ∀ a' w', Sz 106 a' → Kp [0, 1, 5] a a' → sl a' 27 = .int .i64 ((0 : Nat) : Int) → sl a' 28 = .int .i64 ((0 : Nat) : Int) → BootAt w' L s → Fr (own' L) w w' → K .normal a' w') :
    (regionOf Tryz.f18 3).wp Tryz.prog K a w := by
  unfold Kp at hK; rw [tkF_of hs]; clear hs; generalize sl a = u at *; clear a; have HK := Lib.hid hK; clear hK; conv => arg 2; whnf
  simp only [tkF, h0]
  refine wp_region_pls (by kernel_rfl) (fun w' => BootAt w' L s ∧ Fr noB w w') [7] (.p 0 (.p 1 (.p 2 (.p 3 (.p 4 (.p 5 (.p 9 (.q 6 (.e 7 (.p 8 .nil)))))))))) (by kernel_rfl) (⟨h.drew, (Fr.refl _ _).drew⟩) ?_
  intro ops Q' hO hQ' wr1 hR1
  iterate 7 (refine pl_p0 hO rfl rfl ?_ (fun w' => ?_) ?_; rotate_left 1; (focus (go_simp; ((try with_reducible rfl); done))); simp only [Act.put, List.setIfInBounds_toArray, List.set_cons_zero, List.set_cons_succ])
  refine pl_q0 hO rfl rfl ?_ (fun w' hS => ?_) ?_; rotate_left 1; (focus (obtain ⟨hB, hF⟩ := hS; have c16 := hB.g16; have c33 := hB.g33; have c41 := hB.g41; have c42 := hB.g42; go_simp; ((try with_reducible rfl); done))); simp only [Act.put, List.setIfInBounds_toArray, List.set_cons_zero, List.set_cons_succ]
  refine pl_b0 hO rfl rfl rfl (fun K hK => ?_)
  go_simp
  have hne := hR1.1.ne
  simp only [Lay.blocks, List.nodup_cons, List.mem_cons, List.not_mem_nil, or_false, not_or] at hne
  refine (cacheTick L.p 15 L.mp s.cache s.now _ hR1.1.g15 (fun x => hne.1.2.2.2.2 x) hR1.1.mp hR1.1.ok.cache).mono ?_
  rintro e w4 ⟨A, cap, rfl, hsl4, hm4, hf4⟩
  have ha0 : asksOf s.cache s.now = [] := by rw [hc]; rfl
  rw [ha0]
  have hB4 := hR1.1.mpTurn hf4 hm4 (keep_ok hR1.1.ok)
  have hs4 : ({ s with cache := s.cache.filterMap (St.keepE s.now) } : St) = s := by
    rcases s with ⟨c, rx, tx, now, draw, boots, lost, id, cache, lease, xid, addr, mask, router, server, source, t1, t2, untl, lagain, lsends, phase, port, peer, block, wind, next, came, tagain, tsends, goal, last, image⟩
    dsimp only at hc; subst hc; rfl
  rw [hs4] at hB4
  refine hK _ _ ?_
  clear hK K
  refine pl_p0 hO rfl rfl ?_ (fun w' => ?_) ?_; rotate_left 1; (focus (go_simp; ((try with_reducible rfl); done))); simp only [Act.put, List.setIfInBounds_toArray, List.set_cons_zero, List.set_cons_succ]
  refine pl_nil (hQ' _ _ ?_)
  exact HK.out _ _  ⟨rfl, rfl⟩ (KpU.cons (h0.symm) (KpU.cons (rfl) (KpU.cons (rfl) (KpU.nil _ _)))) (rfl) (rfl) hB4 ((hR1.2.of_no _).trans (hf4.mono fun b _ hb => by obtain rfl : b = L.mp := hb; exact own_mp L))
theorem send_q (s : St) (d : Mac) (k : Nat) (l : List UInt8) : (s.send d k l).cache = s.cache ∧ (s.send d k l).lease = s.lease ∧ (s.send d k l).phase = s.phase := by unfold St.send; split <;> exact ⟨rfl, rfl, rfl⟩
theorem say_q (s : St) (k : UInt8) (os : List OptD) : (s.say k false os).cache = s.cache ∧ (s.say k false os).lease = s.lease ∧ (s.say k false os).phase = s.phase := by unfold St.say; exact send_q s.took _ _ _
theorem asks_q (s : St) : s.asks.cache = s.cache ∧ s.asks.lease = s.lease ∧ s.asks.phase = s.phase := by unfold St.asks; split <;> exact say_q ..
theorem goes_q (s : St) (l : Nat) : (s.goes l).cache = s.cache ∧ (s.goes l).lease = l ∧ (s.goes l).phase = s.phase := by unfold St.goes; exact asks_q _
theorem fail_q (s : St) : Quiet s.fail := by
  unfold St.fail; dsimp only; split
  · exact ⟨rfl, Nat.zero_le _, .inr rfl⟩
  · exact ⟨rfl, Nat.zero_le _, .inl rfl⟩
theorem Quiet.leases {s : St} (h : Quiet s) : Quiet s.leases := by
  unfold St.leases
  have q := h.lease
  split
  · obtain ⟨k1, k2, k3⟩ := goes_q { s with xid := s.draw } 1
    exact ⟨k1.trans h.cache, Nat.le_of_eq k2, by rw [k3]; exact h.phase⟩
  · next h0 =>
    rw [if_pos (by omega)]
    split
    · exact h
    split
    · exact fail_q s
    · obtain ⟨k1, k2, k3⟩ := asks_q { s with lagain := wrap64 (s.now + s.wait s.lsends), lsends := s.lsends + 1 }
      exact ⟨k1.trans h.cache, by rw [k2]; exact q, by rw [k3]; exact h.phase⟩
theorem Quiet.tick_eq {s : St} (h : Quiet s) (d : Nat) : s.tick d = if s.phase = 4 then { s with now := wrap64 (s.now + 1), draw := d } else ({ s with now := wrap64 (s.now + 1), draw := d } : St).leases := by
  have hc := h.cache
  rcases h.phase with h0 | h4
  · rw [if_neg (by omega)]
    unfold St.tick; dsimp only
    have ho : St.over { s with now := wrap64 (s.now + 1), draw := d } = false := by unfold St.over; dsimp only; rw [h0]; rfl
    rw [ho, if_neg (by decide), quiet_nb (s := { s with now := wrap64 (s.now + 1), draw := d }) hc]
    have k := Quiet.leases (s := { s with now := wrap64 (s.now + 1), draw := d }) ⟨hc, h.lease, h.phase⟩
    have hb : (St.leases { s with now := wrap64 (s.now + 1), draw := d }).busy = false := by unfold St.busy; rcases k.phase with e | e <;> rw [e] <;> rfl
    unfold St.again
    rw [if_pos (.inl hb)]
  · rw [if_pos h4]
    unfold St.tick; dsimp only
    have ho : St.over { s with now := wrap64 (s.now + 1), draw := d } = true := by unfold St.over; dsimp only; rw [h4]; rfl
    rw [ho, if_pos rfl]
theorem Quiet.tick {s : St} (h : Quiet s) (d : Nat) : Quiet (s.tick d) := by
  rw [h.tick_eq]; split
  · exact ⟨h.cache, h.lease, h.phase⟩
  · exact Quiet.leases ⟨h.cache, h.lease, h.phase⟩
theorem bootTickQ (L : Lay) (s : St) (dr : Nat) (w : World) (h : BootAt w L s) (hq : Quiet s) (hn : s.now < 4611686018427387904) (hdr : dr < 4294967296) :
    Calls Tryz.prog 18 #[.pointer (some ⟨L.p, 0, none⟩), .int .u32 (dr : Int)] w (LPost2 L (s.tick dr) (.tuple #[]) w) := by
  go_enter Tryz.func18, Tryz.ntmps18
  refine wp_seq ?_
  refine tkR0 L s _ w _ ⟨rfl, rfl⟩ rfl h hn ?_
  intro a0 w0 hs0 k0 h0 hf0
  have e0 : sl a0 0 = .pointer (some ⟨L.p, 0, none⟩) := (k0 0 (by decide)).trans rfl
  have e1 : sl a0 1 = .int .u32 (dr : Int) := (k0 1 (by decide)).trans rfl
  clear k0
  refine wp_seq ?_
  refine tkR1 L _ dr a0 w0 _ hs0 e0 e1 h0 hdr ?_
  intro a1 w1 hs1 k1 h1 hf1
  have e0 := (k1 0 (by decide)).trans e0
  have hf01 := hf0.trans hf1
  have hqu : Quiet ({ s with now := wrap64 (s.now + 1), draw := dr } : St) := ⟨hq.cache, hq.lease, hq.phase⟩
  obtain ⟨u, hu⟩ : ∃ u : St, ({ s with now := wrap64 (s.now + 1), draw := dr } : St) = u := ⟨_, rfl⟩
  have ht : s.tick dr = if s.phase = 4 then u else u.leases := by rw [hq.tick_eq, ← hu]
  have hph : u.phase = s.phase := by rw [← hu]
  rw [hu] at hqu
  rw [ht, ← hph]
  clear ht hph
  have h1 : BootAt w1 L u := by rw [← hu]; exact h1
  clear hu
  refine wp_seq (wp_seq ?_)
  refine tkR2 L u a1 w1 _ hs1 e0 h1 ?_
  intro a2 w2 hs2 k2 o18 hw; subst hw
  have e0 := (k2 0 (by decide)).trans e0
  have hov : u.over = decide (u.phase = 4) := by unfold St.over; rcases hqu.phase with e | e <;> rw [e] <;> rfl
  rw [hov] at o18
  refine wp_if o18 (fun hb => ?_) (fun hb => ?_)
  · rw [if_pos (of_decide_eq_true hb)]
    exact wp_ret (bodyPost_ret (results_none rfl _ _ _) hs2.defers (LPost.two ⟨rfl, h1, hf01⟩))
  rw [if_neg (of_decide_eq_false hb)]
  have hp0 : u.phase = 0 := hqu.phase.resolve_right (of_decide_eq_false hb)
  refine wp_skip ?_
  refine wp_seq (wp_seq ?_)
  refine tkR3q L u a2 w2 _ hs2 e0 h1 hqu.cache ?_
  intro a3 w3 hs3 k3 o27 o28 h3 hf3
  have e0 := (k3 0 (by decide)).trans e0
  have hf03 := hf01.trans hf3
  refine wp_block ?_
  refine wp_loop_sz 106 (fun a' w' => sl a' 28 = .int .i64 ((0 : Nat) : Int) ∧ Kp [0, 27] a3 a' ∧ BootAt w' L u ∧ Fr (own' L) w3 w') (fun _ _ => 0)
    hs3 ⟨o28, Kp.refl _ _, h3, Fr.refl _ _⟩ ?_
  rintro b1 v1 hs1' ⟨i28, j1, hB, hF⟩
  refine wp_seq ?_
  refine tkR4 0 0 b1 v1 _ hs1' ((j1 27 (by decide)).trans o27) i28 ?_
  intro b2 v2 hs2' j2 i29 hw; subst hw
  have z0 := (j2 0 (by decide)).trans ((j1 0 (by decide)).trans e0)
  refine wp_seq ?_
  refine wp_if i29 (fun hb => absurd (of_decide_eq_true hb) (by omega)) (fun hb => ?_)
  refine wp_exit (then_exit (then_exit (inBlock_self ?_)))
  refine wp_seq ?_
  refine tkR8q L _ b2 v2 _ hs2' z0 hB hqu.lease ?_
  intro b3 v3 hs3' j3 hN3
  have z0 := (j3 0 (by decide)).trans z0
  obtain ⟨L1, p1, ow1, B1, F1⟩ := hN3
  have F0 := hf03.trans hF
  have q : ∀ {w' : World} {s' : St}, Now L1 v3 s' w' → Now L w s' w' := fun hN => Now.comp (L1 := L) rfl (fun _ hb => .inl hb) F0 (Now.comp p1 ow1 F1 hN)
  have hql := Quiet.leases hqu
  refine wp_seq (wp_seq ?_)
  refine tkR9c L1 _ b3 v3 _ hs3' (by rw [p1]; exact z0) B1 (by rcases hql.phase with e | e <;> rw [e] <;> rfl) (by rcases hql.phase with e | e <;> rw [e] <;> rfl) ?_
  intro b4 v4 hs4' j4 o65 h4 hf4
  refine wp_if o65 (fun _ => ?_) (fun hb => by cases hb)
  exact wp_ret (bodyPost_ret (results_none rfl _ _ _) hs4'.defers (q (Now.of h4 (hf4.of_no _))).lpost)
end Go.Proofs.YtcbkaiakdhiloacGreatDoor
