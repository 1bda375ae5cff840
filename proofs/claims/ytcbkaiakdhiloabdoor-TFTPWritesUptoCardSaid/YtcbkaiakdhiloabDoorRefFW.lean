/- netbootref.fields' region that draws its order. Written by mkreff.py. -/
import Derived.Test.YtcbkaiakdhiloabDoorChain2
import Derived.Test.YtcbkaiakdhiloabDoorRefLines
set_option linter.unusedSimpArgs false
set_option linter.unusedVariables false
namespace Go.Proofs.YtcbkaiakdhiloabDoor
open Go.RowKit Go.Proofs
attribute [local go_sem] bs_size bs_append bs_extract bs_toList

def rfF (u : Nat → Value) : Act := ⟨#[u 0, u 1, u 2, u 3, u 4, u 5, u 6, u 7, u 8, u 9, u 10, u 11, u 12, u 13, u 14, u 15, u 16, u 17, u 18, u 19, u 20, u 21, u 22, u 23, u 24, u 25, u 26, u 27, u 28, u 29, u 30, u 31, u 32, u 33, u 34, u 35, u 36, u 37, u 38, u 39, u 40, u 41, u 42, u 43, u 44, u 45, u 46, u 47, u 48], []⟩
set_option maxRecDepth 100000 in
theorem rfF_eq (u : Nat → Value) : rfF u = frN 49 u := rfl
theorem rfF_of {a : Act} (h : Sz 49 a) : a = rfF (sl a) := h.eq.trans (rfF_eq _).symm
set_option maxRecDepth 100000 in
theorem rfF_sz (u : Nat → Value) : Sz 49 (rfF u) := ⟨rfl, rfl⟩
set_option maxRecDepth 20000 in
set_option maxHeartbeats 1000000 in
theorem rfR7 (ad : Addr) (n cap k : Nat) (sa sb : List UInt8) (a : Act) (w : World) (K : Exit → Act → World → Prop) (hs : Sz 49 a)
    (h0 : sl a 0 = .slice (some ad) n cap) (h5 : sl a 5 = .int .i64 (k : Int)) (hk : k + 1 < n) (hn : n ≤ 1099511627776) (hx : w.cell? (ad.add k) = some (.string (bs sa))) (hy : w.cell? ⟨ad.block, ad.off + (k + 1), none⟩ = some (.string (bs sb))) (hxl : sa.length ≤ 4611686018427387904)
    (hK : ∀ a' w', Sz 49 a' → Kp [0, 1, 2, 3, 4, 5, 7, 8, 9, 10, 11, 12, 13, 14, 15, 16, 28, 29, 30, 31, 32, 33, 34, 35, 36, 37, 38, 39, 40, 41, 42, 43, 44, 45, 46, 47, 48] a a' → (∃ g, sl a' 6 = .pointer (some ⟨g, 0, none⟩) ∧ w.heap.size ≤ g ∧ Bk w' g 66 #[.string (bs (lowL sa)), .string (bs sb)]) → Fr noB w w' → K .normal a' w') :
    (regionOf Tryd.f31 7).wp Tryd.prog K a w := by
  have hK2 : ∀ a' w', Sz 49 a' → KpU [0, 1, 2, 3, 4, 5, 7, 8, 9, 10, 11, 12, 13, 14, 15, 16, 28, 29, 30, 31, 32, 33, 34, 35, 36, 37, 38, 39, 40, 41, 42, 43, 44, 45, 46, 47, 48] (sl a) a' → (∃ g, sl a' 6 = .pointer (some ⟨g, 0, none⟩) ∧ w.heap.size ≤ g ∧ Bk w' g 66 #[.string (bs (lowL sa)), .string (bs sb)]) → Fr noB w w' → K .normal a' w' := hK
  clear hK
  rw [rfF_of hs]
  clear hs
  generalize sl a = z at *
  clear a
  have HK := Lib.hid hK2
  clear hK2
  conv => arg 2; whnf
  simp only [rfF, h0, h5]
  obtain ⟨V, hV⟩ : ∃ V : Nat → Value, V = (fun j => match j with | 0 => .slice (some ad) n cap | 1 => .int .i64 (k : Int) | 2 => .pointer (some (ad.add k)) | 3 => .string (bs sa) | 4 => .string (bs (lowL sa)) | 5 => .slice (some ad) n cap | 6 => .int .i64 (k : Int) | 7 => .int .i64 ((k : Int) + 1) | 8 => .pointer (some ⟨ad.block, ad.off + (k + 1), none⟩) | 9 => .string (bs sb) | 10 => .agg #[.string (bs (lowL sa)), .string (bs sb)] | _ => undef) := ⟨_, rfl⟩
  have v0 : V 0 = .slice (some ad) n cap := congrFun hV 0
  have v1 : V 1 = .int .i64 (k : Int) := congrFun hV 1
  have v2 : V 2 = .pointer (some (ad.add k)) := congrFun hV 2
  have v3 : V 3 = .string (bs sa) := congrFun hV 3
  have v4 : V 4 = .string (bs (lowL sa)) := congrFun hV 4
  have v5 : V 5 = .slice (some ad) n cap := congrFun hV 5
  have v6 : V 6 = .int .i64 (k : Int) := congrFun hV 6
  have v7 : V 7 = .int .i64 ((k : Int) + 1) := congrFun hV 7
  have v8 : V 8 = .pointer (some ⟨ad.block, ad.off + (k + 1), none⟩) := congrFun hV 8
  have v9 : V 9 = .string (bs sb) := congrFun hV 9
  have v10 : V 10 = .agg #[.string (bs (lowL sa)), .string (bs sb)] := congrFun hV 10
  clear hV
  refine wp_region_ssau (by kernel_rfl) (by kernel_rfl) (by kernel_rfl)
    (fun u => ⟨List.toArray ((.slice (some ad) n cap) :: (z 1) :: (z 2) :: (z 3) :: (z 4) :: (.int .i64 (k : Int)) :: (u 11) :: (z 7) :: (z 8) :: (z 9) :: (z 10) :: (z 11) :: (z 12) :: (z 13) :: (z 14) :: (z 15) :: (z 16) :: (u 0) :: (u 1) :: (u 2) :: (u 3) :: (u 4) :: (u 5) :: (u 6) :: (u 7) :: (u 8) :: (u 9) :: (u 10) :: (z 28) :: (z 29) :: (z 30) :: (z 31) :: (z 32) :: (z 33) :: (z 34) :: (z 35) :: (z 36) :: (z 37) :: (z 38) :: (z 39) :: (z 40) :: (z 41) :: (z 42) :: (z 43) :: (z 44) :: (z 45) :: (z 46) :: (z 47) :: (z 48) :: []), []⟩)
    (fun j v w3 => if j = 11 then True else if j = 12 then True else v = V j)
    (fun L u w3 => Fr noB w w3 ∧ (L 11 = true → ∃ g, u 11 = .pointer (some ⟨g, 0, none⟩) ∧ w.heap.size ≤ g ∧ Bk w3 g 66 (if L 12 = true then #[.string (bs (lowL sa)), .string (bs sb)] else #[.string ⟨#[]⟩, .string ⟨#[]⟩])) ∧ (L 12 = true → L 11 = true)) (fun j => if j = 0 then z 17 else if j = 1 then z 18 else if j = 2 then z 19 else if j = 3 then z 20 else if j = 4 then z 21 else if j = 5 then z 22 else if j = 6 then z 23 else if j = 7 then z 24 else if j = 8 then z 25 else if j = 9 then z 26 else if j = 10 then z 27 else if j = 11 then z 6 else undef) ⟨(Fr.refl _ _).drew, (fun h => by cases h), (fun h => by cases h)⟩ ?_ ?_
  · rintro L u w3 i o hG hΦ ho hL hd K2 hK2
    match i, ho with
    | 0, ho =>
      simp at ho; subst ho
      clear hΦ hd
      obtain ⟨hG0, al11, as11⟩ := hG
      go_simp
      exact hK2 _ _ v0.symm ⟨hG0, al11, as11⟩ (fun _ _ _ h => h)
    | 1, ho =>
      simp at ho; subst ho
      clear hΦ hd
      obtain ⟨hG0, al11, as11⟩ := hG
      go_simp
      exact hK2 _ _ v1.symm ⟨hG0, al11, as11⟩ (fun _ _ _ h => h)
    | 2, ho =>
      simp at ho; subst ho
      have hu0 : u 0 = V 0 := hΦ 0 (hd ⟨0, .data⟩ (by simp) (by rfl))
      rw [v0] at hu0
      have hu1 : u 1 = V 1 := hΦ 1 (hd ⟨1, .data⟩ (by simp) (by rfl))
      rw [v1] at hu1
      clear hΦ hd
      obtain ⟨hG0, al11, as11⟩ := hG
      have hx : ∃ y, u = (upd (upd y 0 (.slice (some ad) n cap)) 1 (.int .i64 (k : Int))) := ⟨u, by rw [← upd_self hu0, ← upd_self hu1]⟩
      clear hu0 hu1
      obtain ⟨y, rfl⟩ := hx
      simp only [upd, reduceIte, Nat.reduceEqDiff]
      go_simp
      rw [if_pos (by omega)]
      go_simp
      exact hK2 _ _ v2.symm ⟨hG0, al11, as11⟩ (fun _ _ _ h => h)
    | 3, ho =>
      simp at ho; subst ho
      have hu2 : u 2 = V 2 := hΦ 2 (hd ⟨2, .data⟩ (by simp) (by rfl))
      rw [v2] at hu2
      clear hΦ hd
      obtain ⟨hG0, al11, as11⟩ := hG
      have hx : ∃ y, u = (upd y 2 (.pointer (some (ad.add k)))) := ⟨u, by rw [← upd_self hu2]⟩
      clear hu2
      obtain ⟨y, rfl⟩ := hx
      simp only [upd, reduceIte, Nat.reduceEqDiff]
      have hc0 := (hG0.cell (cell_ltP hx) (fun x => x)).trans hx
      go_simp
      exact hK2 _ _ v3.symm ⟨hG0, al11, as11⟩ (fun _ _ _ h => h)
    | 4, ho =>
      simp at ho; subst ho
      have hu3 : u 3 = V 3 := hΦ 3 (hd ⟨3, .data⟩ (by simp) (by rfl))
      rw [v3] at hu3
      clear hΦ hd
      obtain ⟨hG0, al11, as11⟩ := hG
      have hx : ∃ y, u = (upd y 3 (.string (bs sa))) := ⟨u, by rw [← upd_self hu3]⟩
      clear hu3
      obtain ⟨y, rfl⟩ := hx
      simp only [upd, reduceIte, Nat.reduceEqDiff]
      go_simp
      refine (refLow sa _ (by omega)).mono ?_
      rintro e w4 ⟨rfl, hf4⟩
      exact hK2 _ _ v4.symm ⟨(hG0.none hf4), (fun h => by obtain ⟨g, h1, h2, h3⟩ := al11 h; exact ⟨g, h1, h2, h3.keep hf4 (fun x => x)⟩), as11⟩ (fun _ _ _ h => h)
    | 5, ho =>
      simp at ho; subst ho
      clear hΦ hd
      obtain ⟨hG0, al11, as11⟩ := hG
      go_simp
      exact hK2 _ _ v5.symm ⟨hG0, al11, as11⟩ (fun _ _ _ h => h)
    | 6, ho =>
      simp at ho; subst ho
      clear hΦ hd
      obtain ⟨hG0, al11, as11⟩ := hG
      go_simp
      exact hK2 _ _ v6.symm ⟨hG0, al11, as11⟩ (fun _ _ _ h => h)
    | 7, ho =>
      simp at ho; subst ho
      have hu6 : u 6 = V 6 := hΦ 6 (hd ⟨6, .data⟩ (by simp) (by rfl))
      rw [v6] at hu6
      clear hΦ hd
      obtain ⟨hG0, al11, as11⟩ := hG
      have hx : ∃ y, u = (upd y 6 (.int .i64 (k : Int))) := ⟨u, by rw [← upd_self hu6]⟩
      clear hu6
      obtain ⟨y, rfl⟩ := hx
      simp only [upd, reduceIte, Nat.reduceEqDiff]
      have e1 : IntKind.i64.wrap ((k : Int) + 1) = (k : Int) + 1 := IntWalk.i64_in _ (by omega)
      go_simp
      exact hK2 _ _ v7.symm ⟨hG0, al11, as11⟩ (fun _ _ _ h => h)
    | 8, ho =>
      simp at ho; subst ho
      have hu5 : u 5 = V 5 := hΦ 5 (hd ⟨5, .data⟩ (by simp) (by rfl))
      rw [v5] at hu5
      have hu7 : u 7 = V 7 := hΦ 7 (hd ⟨7, .data⟩ (by simp) (by rfl))
      rw [v7] at hu7
      clear hΦ hd
      obtain ⟨hG0, al11, as11⟩ := hG
      have hx : ∃ y, u = (upd (upd y 5 (.slice (some ad) n cap)) 7 (.int .i64 ((k : Int) + 1))) := ⟨u, by rw [← upd_self hu5, ← upd_self hu7]⟩
      clear hu5 hu7
      obtain ⟨y, rfl⟩ := hx
      simp only [upd, reduceIte, Nat.reduceEqDiff]
      go_simp
      rw [if_pos (by omega)]
      go_simp
      exact hK2 _ _ v8.symm ⟨hG0, al11, as11⟩ (fun _ _ _ h => h)
    | 9, ho =>
      simp at ho; subst ho
      have hu8 : u 8 = V 8 := hΦ 8 (hd ⟨8, .data⟩ (by simp) (by rfl))
      rw [v8] at hu8
      clear hΦ hd
      obtain ⟨hG0, al11, as11⟩ := hG
      have hx : ∃ y, u = (upd y 8 (.pointer (some ⟨ad.block, ad.off + (k + 1), none⟩))) := ⟨u, by rw [← upd_self hu8]⟩
      clear hu8
      obtain ⟨y, rfl⟩ := hx
      simp only [upd, reduceIte, Nat.reduceEqDiff]
      have hc0 := (hG0.cell (cell_ltP hy) (fun x => x)).trans hy
      go_simp
      exact hK2 _ _ v9.symm ⟨hG0, al11, as11⟩ (fun _ _ _ h => h)
    | 10, ho =>
      simp at ho; subst ho
      have hu4 : u 4 = V 4 := hΦ 4 (hd ⟨4, .data⟩ (by simp) (by rfl))
      rw [v4] at hu4
      have hu9 : u 9 = V 9 := hΦ 9 (hd ⟨9, .data⟩ (by simp) (by rfl))
      rw [v9] at hu9
      clear hΦ hd
      obtain ⟨hG0, al11, as11⟩ := hG
      have hx : ∃ y, u = (upd (upd y 4 (.string (bs (lowL sa)))) 9 (.string (bs sb))) := ⟨u, by rw [← upd_self hu4, ← upd_self hu9]⟩
      clear hu4 hu9
      obtain ⟨y, rfl⟩ := hx
      simp only [upd, reduceIte, Nat.reduceEqDiff]
      go_simp
      exact hK2 _ _ v10.symm ⟨hG0, al11, as11⟩ (fun _ _ _ h => h)
    | 11, ho =>
      simp at ho; subst ho
      clear hΦ hd
      obtain ⟨hG0, al11, as11⟩ := hG
      go_simp
      exact hK2 _ _ trivial ⟨(hG0.alloc _), (fun _ => ⟨w3.heap.size, rfl, hG0.size, (by show Bk _ _ _ (if L 12 = true then _ else _); rw [show L 12 = false from by cases h : L 12 with | false => rfl | true => exact absurd (as11 h) (by rw [hL]; simp)]; exact Bk.new _ _ _)⟩), fun _ => rfl⟩ (fun _ _ _ h => h)
    | 12, ho =>
      simp at ho; subst ho
      have hu10 : u 10 = V 10 := hΦ 10 (hd ⟨10, .data⟩ (by simp) (by rfl))
      rw [v10] at hu10
      have hd2 := hd
      clear hΦ hd
      obtain ⟨hG0, al11, as11⟩ := hG
      have hx : ∃ y, u = (upd y 10 (.agg #[.string (bs (lowL sa)), .string (bs sb)])) := ⟨u, by rw [← upd_self hu10]⟩
      clear hu10
      obtain ⟨y, rfl⟩ := hx
      simp only [upd, reduceIte, Nat.reduceEqDiff]
      have hLa : L 11 = true := hd2 ⟨11, .data⟩ (by simp) (by rfl)
      obtain ⟨g, h1, h2, h3⟩ := al11 hLa
      have h1' : y 11 = .pointer (some ⟨g, 0, none⟩) := h1
      clear h1
      rw [hL] at h3
      obtain ⟨x2, rfl⟩ : ∃ x2, y = upd x2 11 (.pointer (some ⟨g, 0, none⟩)) := ⟨y, upd_self h1'⟩
      clear h1'
      simp only [upd, reduceIte, Nat.reduceEqDiff]
      refine wp_store_bk 66 (.tmp 6) (.tmp 27) rfl g _ _ #[.string (bs (lowL sa)), .string (bs sb)] rfl rfl h3 rfl (by kernel_rfl) (by simp [Value.oneCell']) ?_
      intro w9 hx9 hf9
      exact hK2 undef _ trivial ⟨(hG0.trans' hf9 (fun b hb e => by unfold oneB at e; omega)), (fun _ => ⟨g, rfl, h2, hx9⟩), (fun _ => hLa)⟩ (fun _ _ _ h => h)
  · rintro u w3 hu L hall hG
    obtain ⟨hG0, al11, as11⟩ := hG
    have hal11 := al11 (hall 11 (by decide))
    rw [hall 12 (by decide)] at hal11
    exact HK.out _ _ ⟨rfl, rfl⟩ (KpU.cons (h0.symm) (KpU.cons (rfl) (KpU.cons (rfl) (KpU.cons (rfl) (KpU.cons (rfl) (KpU.cons (h5.symm) (KpU.cons (rfl) (KpU.cons (rfl) (KpU.cons (rfl) (KpU.cons (rfl) (KpU.cons (rfl) (KpU.cons (rfl) (KpU.cons (rfl) (KpU.cons (rfl) (KpU.cons (rfl) (KpU.cons (rfl) (KpU.cons (rfl) (KpU.cons (rfl) (KpU.cons (rfl) (KpU.cons (rfl) (KpU.cons (rfl) (KpU.cons (rfl) (KpU.cons (rfl) (KpU.cons (rfl) (KpU.cons (rfl) (KpU.cons (rfl) (KpU.cons (rfl) (KpU.cons (rfl) (KpU.cons (rfl) (KpU.cons (rfl) (KpU.cons (rfl) (KpU.cons (rfl) (KpU.cons (rfl) (KpU.cons (rfl) (KpU.cons (rfl) (KpU.cons (rfl) (KpU.cons (rfl) (KpU.nil _ _))))))))))))))))))))))))))))))))))))))  hal11 hG0

end Go.Proofs.YtcbkaiakdhiloabDoor
