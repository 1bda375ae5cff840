/- Parts of the walk; written by programs, merged. -/
import Derived.Test.YtcbkaiakdhiloacGreatDoorMah
set_option linter.unusedSimpArgs false
set_option linter.unusedVariables false
set_option maxRecDepth 20000
set_option maxHeartbeats 8000000
namespace Go.Proofs.YtcbkaiakdhiloacGreatDoor
open Go.RowKit Go.Proofs
theorem xor_max32 (x : Nat) (h : x < 4294967296) : 4294967295 ^^^ x = 4294967295 - x := by
  have h1 : (BitVec.allOnes 32 ^^^ BitVec.ofNat 32 x) = ~~~ (BitVec.ofNat 32 x) := by rw [BitVec.xor_comm, BitVec.xor_allOnes]
  have h2 := congrArg BitVec.toNat h1
  rw [BitVec.toNat_xor, BitVec.toNat_not, BitVec.toNat_ofNat, BitVec.toNat_allOnes, Nat.mod_eq_of_lt (by omega : x < 2 ^ 32)] at h2
  simpa using h2
theorem notW (e : UInt32) : bits .xor .u32 (if IntKind.u32.signed = true then -1 else IntKind.u32.max) (e.toNat : Int) = ((~~~ e).toNat : Int) := by
  have he := e.toNat_lt
  rw [show (if IntKind.u32.signed = true then (-1 : Int) else IntKind.u32.max) = ((4294967295 : Nat) : Int) from rfl, u32_xor_nat _ _ (by omega) (by omega), xor_max32 _ (by omega), UInt32.toNat_not, show UInt32.size = 4294967296 from rfl]
theorem chsW (e f g : UInt32) : bits .xor .u32 (bits .and .u32 (e.toNat : Int) (f.toNat : Int)) (bits .and .u32 (bits .xor .u32 (if IntKind.u32.signed = true then -1 else IntKind.u32.max) (e.toNat : Int)) (g.toNat : Int)) = ((chs e f g).toNat : Int) := by
  rw [notW, andW, andW, xorW]; rfl
theorem blkR18 (i gh gw : Nat) (e f g hh kk xx : UInt32) (a : Act) (w : World) (K : Exit → Act → World → Prop) (hs : Sz 195 a)
    (h4 : sl a 4 = .pointer (some ⟨gw, 0, none⟩)) (h11 : sl a 11 = .pointer (some ⟨gh, 0, none⟩)) (h12 : sl a 12 = .int .i64 (i : Int)) (h13 : sl a 13 = .int .u32 (e.toNat : Int)) (hi : i < 64) (h_7 : w.cell? ⟨gh, 7, none⟩ = some (.int .u32 (hh.toNat : Int))) (h_5 : w.cell? ⟨gh, 5, none⟩ = some (.int .u32 (f.toNat : Int))) (h_6 : w.cell? ⟨gh, 6, none⟩ = some (.int .u32 (g.toNat : Int))) (hk : w.cell? ⟨5, i, none⟩ = some (.int .u32 (kk.toNat : Int))) (hx : w.cell? ⟨gw, i, none⟩ = some (.int .u32 (xx.toNat : Int)))
    (hK : ∀ a' w', Sz 195 a' → Kp [0, 1, 4, 5, 6, 7, 8, 9, 10, 11, 12, 13, 14, 16, 17, 18, 104, 178] a a' → sl a' 15 = .int .u32 ((hh + bg1 e + chs e f g + kk + xx).toNat : Int) → Fr noB w w' → K .normal a' w') :
    (regionOf Tryz.f187 18).wp Tryz.prog K a w := by
  unfold Kp at hK; rw [blkFr_of hs]; clear hs; generalize sl a = u at *; clear a; have HK := Lib.hid hK; clear hK; conv => arg 2; whnf
  have xle : (e.toNat : Int) ≤ 4294967295 := by have := e.toNat_lt; omega
  have xlf : (f.toNat : Int) ≤ 4294967295 := by have := f.toNat_lt; omega
  have xlg : (g.toNat : Int) ≤ 4294967295 := by have := g.toNat_lt; omega
  have xlhh : (hh.toNat : Int) ≤ 4294967295 := by have := hh.toNat_lt; omega
  have xlkk : (kk.toNat : Int) ≤ 4294967295 := by have := kk.toNat_lt; omega
  have xlxx : (xx.toNat : Int) ≤ 4294967295 := by have := xx.toNat_lt; omega
  simp only [blkFr, h4, h11, h12, h13]
  go_quiet (exact rotQ _ _ _ _ (by decide))
  exact HK.out _ _  ⟨rfl, rfl⟩ (Kc rfl (Kc rfl (Kc h4.symm (Kc rfl (Kc rfl (Kc rfl (Kc rfl (Kc rfl (Kc rfl (Kc h11.symm (Kc h12.symm (Kc h13.symm (Kc rfl (Kc rfl (Kc rfl (Kc rfl (Kc rfl (Kc rfl (Kn _ _))))))))))))))))))) (congrArg (fun v => Value.int .u32 v) (by rw [bg1W, chsW, UInt32.toNat_add, UInt32.toNat_add, UInt32.toNat_add, UInt32.toNat_add]; omega)) ((Fr.refl _ _).drewN _)
theorem blkR19 (gh : Nat) (x y z : UInt32) (a : Act) (w : World) (K : Exit → Act → World → Prop) (hs : Sz 195 a)
    (h11 : sl a 11 = .pointer (some ⟨gh, 0, none⟩)) (h14 : sl a 14 = .int .u32 (x.toNat : Int)) (h_1 : w.cell? ⟨gh, 1, none⟩ = some (.int .u32 (y.toNat : Int))) (h_2 : w.cell? ⟨gh, 2, none⟩ = some (.int .u32 (z.toNat : Int)))
    (hK : ∀ a' w', Sz 195 a' → Kp [0, 1, 4, 5, 6, 7, 8, 9, 10, 11, 12, 13, 14, 15, 17, 18, 104, 178] a a' → sl a' 16 = .int .u32 ((bg0 x + maj x y z).toNat : Int) → Fr noB w w' → K .normal a' w') :
    (regionOf Tryz.f187 19).wp Tryz.prog K a w := by
  unfold Kp at hK; rw [blkFr_of hs]; clear hs; generalize sl a = u at *; clear a; have HK := Lib.hid hK; clear hK; conv => arg 2; whnf
  have xlx : (x.toNat : Int) ≤ 4294967295 := by have := x.toNat_lt; omega
  have xly : (y.toNat : Int) ≤ 4294967295 := by have := y.toNat_lt; omega
  have xlz : (z.toNat : Int) ≤ 4294967295 := by have := z.toNat_lt; omega
  simp only [blkFr, h11, h14]
  go_quiet (exact rotQ _ _ _ _ (by decide))
  exact HK.out _ _  ⟨rfl, rfl⟩ (Kc rfl (Kc rfl (Kc rfl (Kc rfl (Kc rfl (Kc rfl (Kc rfl (Kc rfl (Kc rfl (Kc h11.symm (Kc rfl (Kc rfl (Kc h14.symm (Kc rfl (Kc rfl (Kc rfl (Kc rfl (Kc rfl (Kn _ _))))))))))))))))))) (congrArg (fun v => Value.int .u32 v) (by rw [bg0W, majW, UInt32.toNat_add]; omega)) ((Fr.refl _ _).drewN _)
theorem blkR12 (i gw : Nat) (x y pp q : UInt32) (z : Value) (a : Act) (w : World) (K : Exit → Act → World → Prop) (hs : Sz 195 a)
    (h4 : sl a 4 = .pointer (some ⟨gw, 0, none⟩)) (h6 : sl a 6 = .int .i64 (i : Int)) (h9 : sl a 9 = .int .u32 (pp.toNat : Int)) (h10 : sl a 10 = .int .u32 (q.toNat : Int)) (hi : 16 ≤ i) (hi2 : i < 64) (hx : w.cell? ⟨gw, i - 16, none⟩ = some (.int .u32 (x.toNat : Int))) (hy : w.cell? ⟨gw, i - 7, none⟩ = some (.int .u32 (y.toNat : Int))) (hz : w.cell? ⟨gw, i, none⟩ = some (z)) (hfz : w.frozen? ⟨gw, i, none⟩ = false)
    (hK : ∀ a' w', Sz 195 a' → Kp [0, 1, 4, 5, 6, 7, 8, 9, 10, 11, 12, 13, 14, 15, 16, 17, 18, 104, 178] a a' → w' = w.drew.setCell ⟨gw, i, none⟩ (.int .u32 ((x + pp + y + q).toNat : Int)) → K .normal a' w') :
    (regionOf Tryz.f187 12).wp Tryz.prog K a w := by
  unfold Kp at hK; rw [blkFr_of hs]; clear hs; generalize sl a = u at *; clear a; have HK := Lib.hid hK; clear hK; conv => arg 2; whnf
  obtain ⟨j, hj⟩ : ∃ j, j = i - 16 := ⟨_, rfl⟩
  obtain ⟨k, hk⟩ : ∃ k, k = i - 7 := ⟨_, rfl⟩
  rw [← hj] at hx
  rw [← hk] at hy
  have q0 : (i : Int) - 16 = (j : Int) := by omega
  have q1 : j < 64 := by omega
  have q2 : (i : Int) - 7 = (k : Int) := by omega
  have q3 : k < 64 := by omega
  obtain ⟨r1, hr1⟩ : ∃ r, r = x + pp := ⟨_, rfl⟩
  obtain ⟨r2, hr2⟩ : ∃ r, r = r1 + y := ⟨_, rfl⟩
  obtain ⟨r3, hr3⟩ : ∃ r, r = r2 + q := ⟨_, rfl⟩
  have s1 := addw x pp
  have s2 := addw r1 y
  have s3 := addw r2 q
  rw [← hr1] at s1 HK
  rw [← hr2] at s2 HK
  rw [← hr3] at s3 HK
  clear hr1 hr2 hr3
  have xlx : (x.toNat : Int) ≤ 4294967295 := by have := x.toNat_lt; omega
  have xly : (y.toNat : Int) ≤ 4294967295 := by have := y.toNat_lt; omega
  have xlpp : (pp.toNat : Int) ≤ 4294967295 := by have := pp.toNat_lt; omega
  have xlq : (q.toNat : Int) ≤ 4294967295 := by have := q.toNat_lt; omega
  have xlr1 : (r1.toNat : Int) ≤ 4294967295 := by have := r1.toNat_lt; omega
  have xlr2 : (r2.toNat : Int) ≤ 4294967295 := by have := r2.toNat_lt; omega
  have c0 : ∀ w4, w4 = w.drew → w4.cell? ⟨gw, j, none⟩ = some (.int .u32 (x.toNat : Int)) := by rintro w4 rfl; exact hx
  have c1 : ∀ w4, w4 = w.drew → w4.cell? ⟨gw, k, none⟩ = some (.int .u32 (y.toNat : Int)) := by rintro w4 rfl; exact hy
  have hfz2 : w.drew.frozen? ⟨gw, i, none⟩ = false := hfz
  have hcx : w.drew.cell? ⟨gw, i, none⟩ = some z := hz
  obtain ⟨wX, hXe⟩ : ∃ z, z = w.drew.setCell ⟨gw, i, none⟩ (.int .u32 (r3.toNat : Int)) := ⟨_, rfl⟩
  have HXe := Lib.hid hXe
  clear hXe hx hy hfz hj hk hi hz
  simp only [blkFr, h4, h6, h9, h10]
  obtain ⟨V, hV⟩ : ∃ V : Nat → Value, V = (fun jj => match jj with | 0 => .int .i64 (i : Int) | 1 => .int .i64 (i : Int) | 2 => .int .i64 (j : Int) | 3 => .pointer (some ⟨gw, j, none⟩) | 4 => .int .u32 (x.toNat : Int) | 5 => .int .u32 (pp.toNat : Int) | 6 => .int .u32 (r1.toNat : Int) | 7 => .int .i64 (i : Int) | 8 => .int .i64 (k : Int) | 9 => .pointer (some ⟨gw, k, none⟩) | 10 => .int .u32 (y.toNat : Int) | 11 => .int .u32 (r2.toNat : Int) | 12 => .int .u32 (q.toNat : Int) | 13 => .int .u32 (r3.toNat : Int) | 14 => .pointer (some ⟨gw, i, none⟩) | _ => undef) := ⟨_, rfl⟩
  have q_0 : V 0 = .int .i64 (i : Int) := congrFun hV 0
  have q_1 : V 1 = .int .i64 (i : Int) := congrFun hV 1
  have q_2 : V 2 = .int .i64 (j : Int) := congrFun hV 2
  have q_3 : V 3 = .pointer (some ⟨gw, j, none⟩) := congrFun hV 3
  have q_4 : V 4 = .int .u32 (x.toNat : Int) := congrFun hV 4
  have q_5 : V 5 = .int .u32 (pp.toNat : Int) := congrFun hV 5
  have q_6 : V 6 = .int .u32 (r1.toNat : Int) := congrFun hV 6
  have q_7 : V 7 = .int .i64 (i : Int) := congrFun hV 7
  have q_8 : V 8 = .int .i64 (k : Int) := congrFun hV 8
  have q_9 : V 9 = .pointer (some ⟨gw, k, none⟩) := congrFun hV 9
  have q_10 : V 10 = .int .u32 (y.toNat : Int) := congrFun hV 10
  have q_11 : V 11 = .int .u32 (r2.toNat : Int) := congrFun hV 11
  have q_12 : V 12 = .int .u32 (q.toNat : Int) := congrFun hV 12
  have q_13 : V 13 = .int .u32 (r3.toNat : Int) := congrFun hV 13
  have q_14 : V 14 = .pointer (some ⟨gw, i, none⟩) := congrFun hV 14
  clear hV
  refine wp_region_ssac (by kernel_rfl) (by kernel_rfl) (by kernel_rfl)
    (fun y => ⟨List.toArray (u 0 :: u 1 :: u 2 :: u 3 :: .pointer (some ⟨gw, 0, none⟩) :: u 5 :: .int .i64 (i : Int) :: u 7 :: u 8 :: .int .u32 (pp.toNat : Int) :: .int .u32 (q.toNat : Int) :: u 11 :: u 12 :: u 13 :: u 14 :: u 15 :: u 16 :: u 17 :: u 18 :: u 19 :: u 20 :: u 21 :: u 22 :: u 23 :: u 24 :: u 25 :: u 26 :: u 27 :: u 28 :: u 29 :: u 30 :: u 31 :: u 32 :: u 33 :: u 34 :: u 35 :: u 36 :: u 37 :: u 38 :: u 39 :: u 40 :: u 41 :: u 42 :: u 43 :: u 44 :: u 45 :: u 46 :: u 47 :: u 48 :: u 49 :: u 50 :: u 51 :: u 52 :: u 53 :: u 54 :: u 55 :: u 56 :: u 57 :: u 58 :: u 59 :: u 60 :: u 61 :: u 62 :: u 63 :: u 64 :: u 65 :: u 66 :: u 67 :: u 68 :: u 69 :: u 70 :: u 71 :: u 72 :: u 73 :: u 74 :: u 75 :: u 76 :: u 77 :: u 78 :: u 79 :: u 80 :: u 81 :: u 82 :: u 83 :: u 84 :: y 0 :: y 1 :: y 2 :: y 3 :: y 4 :: y 5 :: y 6 :: y 7 :: y 8 :: y 9 :: y 10 :: y 11 :: y 12 :: y 13 :: y 14 :: u 100 :: u 101 :: u 102 :: u 103 :: u 104 :: u 105 :: u 106 :: u 107 :: u 108 :: u 109 :: u 110 :: u 111 :: u 112 :: u 113 :: u 114 :: u 115 :: u 116 :: u 117 :: u 118 :: u 119 :: u 120 :: u 121 :: u 122 :: u 123 :: u 124 :: u 125 :: u 126 :: u 127 :: u 128 :: u 129 :: u 130 :: u 131 :: u 132 :: u 133 :: u 134 :: u 135 :: u 136 :: u 137 :: u 138 :: u 139 :: u 140 :: u 141 :: u 142 :: u 143 :: u 144 :: u 145 :: u 146 :: u 147 :: u 148 :: u 149 :: u 150 :: u 151 :: u 152 :: u 153 :: u 154 :: u 155 :: u 156 :: u 157 :: u 158 :: u 159 :: u 160 :: u 161 :: u 162 :: u 163 :: u 164 :: u 165 :: u 166 :: u 167 :: u 168 :: u 169 :: u 170 :: u 171 :: u 172 :: u 173 :: u 174 :: u 175 :: u 176 :: u 177 :: u 178 :: u 179 :: u 180 :: u 181 :: u 182 :: u 183 :: u 184 :: u 185 :: u 186 :: u 187 :: u 188 :: u 189 :: u 190 :: u 191 :: u 192 :: u 193 :: u 194 :: []), []⟩)
    (fun j v _ => if j = 15 then True else v = V j)
    (fun L y w4 => True ∧ w4 = if L 15 = true then wX else w.drew) (fun j => (([u 85, u 86, u 87, u 88, u 89, u 90, u 91, u 92, u 93, u 94, u 95, u 96, u 97, u 98, u 99, undef] : List Value).getD j undef)) ⟨trivial, rfl⟩ ?_ ?_
  · rintro L y w4 i o hcl ⟨hI, hG⟩ hΦ ho hL hd K2 hK2
    match i, ho with
    | 0, ho =>
      simp at ho; subst ho
      have HG := Lib.hid hG
      clear hΦ hd hG
      first | go_big_move | go_big_op
      exact hK2 _ _ (by first | exact q_0.symm | (rw [q_0]; first | assumption | exact hy)) ⟨hI, HG.out⟩ (fun _ _ _ h => h)
    | 1, ho =>
      simp at ho; subst ho
      have HG := Lib.hid hG
      clear hΦ hd hG
      first | go_big_move | go_big_op
      exact hK2 _ _ (by first | exact q_1.symm | (rw [q_1]; first | assumption | exact hy)) ⟨hI, HG.out⟩ (fun _ _ _ h => h)
    | 2, ho =>
      simp at ho; subst ho
      have hu1 := hΦ 1 (hd ⟨1, .data⟩ (by simp) (by rfl))
      simp only [reduceIte, Nat.reduceEqDiff] at hu1
      rw [q_1] at hu1
      have HG := Lib.hid hG
      clear hΦ hd hG
      first | go_big_move | go_big_op
      exact hK2 _ _ (by first | exact q_2.symm | (rw [q_2]; first | assumption | exact hy)) ⟨hI, HG.out⟩ (fun _ _ _ h => h)
    | 3, ho =>
      simp at ho; subst ho
      have hu2 := hΦ 2 (hd ⟨2, .data⟩ (by simp) (by rfl))
      simp only [reduceIte, Nat.reduceEqDiff] at hu2
      rw [q_2] at hu2
      have HG := Lib.hid hG
      clear hΦ hd hG
      first | go_big_move | go_big_op
      exact hK2 _ _ (by first | exact q_3.symm | (rw [q_3]; first | assumption | exact hy)) ⟨hI, HG.out⟩ (fun _ _ _ h => h)
    | 4, ho =>
      simp at ho; subst ho
      have hu3 := hΦ 3 (hd ⟨3, .data⟩ (by simp) (by rfl))
      simp only [reduceIte, Nat.reduceEqDiff] at hu3
      rw [q_3] at hu3
      have HG := Lib.hid hG
      have hna : ¬ L 15 = true := fun h => by have h2 := (hcl.dep 6 4 (hcl.dep 11 6 (hcl.dep 13 11 (hcl.dep 15 13 h (by rfl)) (by rfl)) (by rfl)) (by rfl)); rw [hL] at h2; cases h2
      rw [if_neg hna] at hG
      have hcell := c0 w4 hG
      clear hΦ hd hG
      first | go_big_move | go_big_op
      exact hK2 _ _ (by first | exact q_4.symm | (rw [q_4]; first | assumption | exact hy)) ⟨hI, HG.out⟩ (fun _ _ _ h => h)
    | 5, ho =>
      simp at ho; subst ho
      have HG := Lib.hid hG
      clear hΦ hd hG
      first | go_big_move | go_big_op
      exact hK2 _ _ (by first | exact q_5.symm | (rw [q_5]; first | assumption | exact hy)) ⟨hI, HG.out⟩ (fun _ _ _ h => h)
    | 6, ho =>
      simp at ho; subst ho
      have hu4 := hΦ 4 (hd ⟨4, .data⟩ (by simp) (by rfl))
      simp only [reduceIte, Nat.reduceEqDiff] at hu4
      rw [q_4] at hu4
      have hu5 := hΦ 5 (hd ⟨5, .data⟩ (by simp) (by rfl))
      simp only [reduceIte, Nat.reduceEqDiff] at hu5
      rw [q_5] at hu5
      have HG := Lib.hid hG
      clear hΦ hd hG
      first | go_big_move | go_big_op
      exact hK2 _ _ (by first | (rw [q_6]; exact congrArg (Value.int IntKind.u32) s1) | exact q_6.symm | (rw [q_6]; first | assumption | exact hy)) ⟨hI, HG.out⟩ (fun _ _ _ h => h)
    | 7, ho =>
      simp at ho; subst ho
      have HG := Lib.hid hG
      clear hΦ hd hG
      first | go_big_move | go_big_op
      exact hK2 _ _ (by first | exact q_7.symm | (rw [q_7]; first | assumption | exact hy)) ⟨hI, HG.out⟩ (fun _ _ _ h => h)
    | 8, ho =>
      simp at ho; subst ho
      have hu7 := hΦ 7 (hd ⟨7, .data⟩ (by simp) (by rfl))
      simp only [reduceIte, Nat.reduceEqDiff] at hu7
      rw [q_7] at hu7
      have HG := Lib.hid hG
      clear hΦ hd hG
      first | go_big_move | go_big_op
      exact hK2 _ _ (by first | exact q_8.symm | (rw [q_8]; first | assumption | exact hy)) ⟨hI, HG.out⟩ (fun _ _ _ h => h)
    | 9, ho =>
      simp at ho; subst ho
      have hu8 := hΦ 8 (hd ⟨8, .data⟩ (by simp) (by rfl))
      simp only [reduceIte, Nat.reduceEqDiff] at hu8
      rw [q_8] at hu8
      have HG := Lib.hid hG
      clear hΦ hd hG
      first | go_big_move | go_big_op
      exact hK2 _ _ (by first | exact q_9.symm | (rw [q_9]; first | assumption | exact hy)) ⟨hI, HG.out⟩ (fun _ _ _ h => h)
    | 10, ho =>
      simp at ho; subst ho
      have hu9 := hΦ 9 (hd ⟨9, .data⟩ (by simp) (by rfl))
      simp only [reduceIte, Nat.reduceEqDiff] at hu9
      rw [q_9] at hu9
      have HG := Lib.hid hG
      have hna : ¬ L 15 = true := fun h => by have h2 := (hcl.dep 11 10 (hcl.dep 13 11 (hcl.dep 15 13 h (by rfl)) (by rfl)) (by rfl)); rw [hL] at h2; cases h2
      rw [if_neg hna] at hG
      have hcell := c1 w4 hG
      clear hΦ hd hG
      first | go_big_move | go_big_op
      exact hK2 _ _ (by first | exact q_10.symm | (rw [q_10]; first | assumption | exact hy)) ⟨hI, HG.out⟩ (fun _ _ _ h => h)
    | 11, ho =>
      simp at ho; subst ho
      have hu6 := hΦ 6 (hd ⟨6, .data⟩ (by simp) (by rfl))
      simp only [reduceIte, Nat.reduceEqDiff] at hu6
      rw [q_6] at hu6
      have hu10 := hΦ 10 (hd ⟨10, .data⟩ (by simp) (by rfl))
      simp only [reduceIte, Nat.reduceEqDiff] at hu10
      rw [q_10] at hu10
      have HG := Lib.hid hG
      clear hΦ hd hG
      first | go_big_move | go_big_op
      exact hK2 _ _ (by first | (rw [q_11]; exact congrArg (Value.int IntKind.u32) s2) | exact q_11.symm | (rw [q_11]; first | assumption | exact hy)) ⟨hI, HG.out⟩ (fun _ _ _ h => h)
    | 12, ho =>
      simp at ho; subst ho
      have HG := Lib.hid hG
      clear hΦ hd hG
      first | go_big_move | go_big_op
      exact hK2 _ _ (by first | exact q_12.symm | (rw [q_12]; first | assumption | exact hy)) ⟨hI, HG.out⟩ (fun _ _ _ h => h)
    | 13, ho =>
      simp at ho; subst ho
      have hu11 := hΦ 11 (hd ⟨11, .data⟩ (by simp) (by rfl))
      simp only [reduceIte, Nat.reduceEqDiff] at hu11
      rw [q_11] at hu11
      have hu12 := hΦ 12 (hd ⟨12, .data⟩ (by simp) (by rfl))
      simp only [reduceIte, Nat.reduceEqDiff] at hu12
      rw [q_12] at hu12
      have HG := Lib.hid hG
      clear hΦ hd hG
      first | go_big_move | go_big_op
      exact hK2 _ _ (by first | (rw [q_13]; exact congrArg (Value.int IntKind.u32) s3) | exact q_13.symm | (rw [q_13]; first | assumption | exact hy)) ⟨hI, HG.out⟩ (fun _ _ _ h => h)
    | 14, ho =>
      simp at ho; subst ho
      have hu0 := hΦ 0 (hd ⟨0, .data⟩ (by simp) (by rfl))
      simp only [reduceIte, Nat.reduceEqDiff] at hu0
      rw [q_0] at hu0
      have HG := Lib.hid hG
      clear hΦ hd hG
      first | go_big_move | go_big_op
      exact hK2 _ _ (by first | exact q_14.symm | (rw [q_14]; first | assumption | exact hy)) ⟨hI, HG.out⟩ (fun _ _ _ h => h)
    | 15, ho =>
      simp at ho; subst ho
      have hu13 := hΦ 13 (hd ⟨13, .data⟩ (by simp) (by rfl))
      simp only [reduceIte, Nat.reduceEqDiff] at hu13
      rw [q_13] at hu13
      have hu14 := hΦ 14 (hd ⟨14, .data⟩ (by simp) (by rfl))
      simp only [reduceIte, Nat.reduceEqDiff] at hu14
      rw [q_14] at hu14
      rw [if_neg (by rw [hL]; decide)] at hG
      subst hG
      clear hΦ hd
      go_big_op
      refine hK2 undef _ trivial ⟨hI, ?_⟩ (fun _ _ _ h => h)
      rw [if_pos (show mark L 15 15 = true from rfl), HXe.out]; try rfl
  rintro y w4 hΦ L hall ⟨hI, hG⟩
  rw [if_pos (hall 15 (by decide))] at hG
  subst hG
  exact HK.out _ _  ⟨rfl, rfl⟩ (Kc rfl (Kc rfl (Kc h4.symm (Kc rfl (Kc h6.symm (Kc rfl (Kc rfl (Kc h9.symm (Kc h10.symm (Kc rfl (Kc rfl (Kc rfl (Kc rfl (Kc rfl (Kc rfl (Kc rfl (Kc rfl (Kc rfl (Kc rfl (Kn _ _))))))))))))))))))))  HXe.out
theorem blkR27 (i p gh : Nat) (x y : UInt32) (a : Act) (w : World) (K : Exit → Act → World → Prop) (hs : Sz 195 a)
    (h0 : sl a 0 = .pointer (some ⟨p, 0, none⟩)) (h11 : sl a 11 = .pointer (some ⟨gh, 0, none⟩)) (h17 : sl a 17 = .int .i64 (i : Int)) (hi : i < 8) (hx : w.cell? ⟨p, i, none⟩ = some (.int .u32 (x.toNat : Int))) (hy : w.cell? ⟨gh, i, none⟩ = some (.int .u32 (y.toNat : Int))) (hfz : w.frozen? ⟨p, i, none⟩ = false)
    (hK : ∀ a' w', Sz 195 a' → Kp [0, 1, 4, 5, 6, 7, 8, 9, 10, 11, 12, 13, 14, 15, 16, 17, 18, 104, 178] a a' → w' = w.drew.setCell ⟨p, i, none⟩ (.int .u32 ((x + y).toNat : Int)) → K .normal a' w') :
    (regionOf Tryz.f187 27).wp Tryz.prog K a w := by
  unfold Kp at hK; rw [blkFr_of hs]; clear hs; generalize sl a = u at *; clear a; have HK := Lib.hid hK; clear hK; conv => arg 2; whnf
  have xlx : (x.toNat : Int) ≤ 4294967295 := by have := x.toNat_lt; omega
  have xly : (y.toNat : Int) ≤ 4294967295 := by have := y.toNat_lt; omega
  obtain ⟨r1, hr1⟩ : ∃ r, r = x + y := ⟨_, rfl⟩
  have s1 := addw x y
  rw [← hr1] at s1 HK
  clear hr1
  have c0 : ∀ w4, w4 = w.drew → w4.cell? ⟨p, i, none⟩ = some (.int .u32 (x.toNat : Int)) := by rintro w4 rfl; exact hx
  have c1 : ∀ w4, w4 = w.drew → w4.cell? ⟨gh, i, none⟩ = some (.int .u32 (y.toNat : Int)) := by rintro w4 rfl; exact hy
  have hfz2 : w.drew.frozen? ⟨p, i, none⟩ = false := hfz
  have hcx : w.drew.cell? ⟨p, i, none⟩ = some (.int .u32 (x.toNat : Int)) := hx
  obtain ⟨wX, hXe⟩ : ∃ z, z = w.drew.setCell ⟨p, i, none⟩ (.int .u32 (r1.toNat : Int)) := ⟨_, rfl⟩
  have HXe := Lib.hid hXe
  clear hXe hx hy hfz
  simp only [blkFr, h0, h11, h17]
  obtain ⟨V, hV⟩ : ∃ V : Nat → Value, V = (fun jj => match jj with | 0 => .pointer (some ⟨p, 0, none⟩) | 1 => .int .i64 (i : Int) | 2 => .pointer (some ⟨p, 0, none⟩) | 3 => .pointer (some ⟨p, 0, none⟩) | 4 => .pointer (some ⟨p, i, none⟩) | 5 => .int .u32 (x.toNat : Int) | 6 => .int .i64 (i : Int) | 7 => .pointer (some ⟨gh, i, none⟩) | 8 => .int .u32 (y.toNat : Int) | 9 => .int .u32 (r1.toNat : Int) | 10 => .pointer (some ⟨p, 0, none⟩) | 11 => .pointer (some ⟨p, 0, none⟩) | 12 => .pointer (some ⟨p, i, none⟩) | _ => undef) := ⟨_, rfl⟩
  have q_0 : V 0 = .pointer (some ⟨p, 0, none⟩) := congrFun hV 0
  have q_1 : V 1 = .int .i64 (i : Int) := congrFun hV 1
  have q_2 : V 2 = .pointer (some ⟨p, 0, none⟩) := congrFun hV 2
  have q_3 : V 3 = .pointer (some ⟨p, 0, none⟩) := congrFun hV 3
  have q_4 : V 4 = .pointer (some ⟨p, i, none⟩) := congrFun hV 4
  have q_5 : V 5 = .int .u32 (x.toNat : Int) := congrFun hV 5
  have q_6 : V 6 = .int .i64 (i : Int) := congrFun hV 6
  have q_7 : V 7 = .pointer (some ⟨gh, i, none⟩) := congrFun hV 7
  have q_8 : V 8 = .int .u32 (y.toNat : Int) := congrFun hV 8
  have q_9 : V 9 = .int .u32 (r1.toNat : Int) := congrFun hV 9
  have q_10 : V 10 = .pointer (some ⟨p, 0, none⟩) := congrFun hV 10
  have q_11 : V 11 = .pointer (some ⟨p, 0, none⟩) := congrFun hV 11
  have q_12 : V 12 = .pointer (some ⟨p, i, none⟩) := congrFun hV 12
  clear hV
  refine wp_region_ssac (by kernel_rfl) (by kernel_rfl) (by kernel_rfl)
    (fun y => ⟨List.toArray (.pointer (some ⟨p, 0, none⟩) :: u 1 :: u 2 :: u 3 :: u 4 :: u 5 :: u 6 :: u 7 :: u 8 :: u 9 :: u 10 :: .pointer (some ⟨gh, 0, none⟩) :: u 12 :: u 13 :: u 14 :: u 15 :: u 16 :: .int .i64 (i : Int) :: u 18 :: u 19 :: u 20 :: u 21 :: u 22 :: u 23 :: u 24 :: u 25 :: u 26 :: u 27 :: u 28 :: u 29 :: u 30 :: u 31 :: u 32 :: u 33 :: u 34 :: u 35 :: u 36 :: u 37 :: u 38 :: u 39 :: u 40 :: u 41 :: u 42 :: u 43 :: u 44 :: u 45 :: u 46 :: u 47 :: u 48 :: u 49 :: u 50 :: u 51 :: u 52 :: u 53 :: u 54 :: u 55 :: u 56 :: u 57 :: u 58 :: u 59 :: u 60 :: u 61 :: u 62 :: u 63 :: u 64 :: u 65 :: u 66 :: u 67 :: u 68 :: u 69 :: u 70 :: u 71 :: u 72 :: u 73 :: u 74 :: u 75 :: u 76 :: u 77 :: u 78 :: u 79 :: u 80 :: u 81 :: u 82 :: u 83 :: u 84 :: u 85 :: u 86 :: u 87 :: u 88 :: u 89 :: u 90 :: u 91 :: u 92 :: u 93 :: u 94 :: u 95 :: u 96 :: u 97 :: u 98 :: u 99 :: u 100 :: u 101 :: u 102 :: u 103 :: u 104 :: u 105 :: u 106 :: u 107 :: u 108 :: u 109 :: u 110 :: u 111 :: u 112 :: u 113 :: u 114 :: u 115 :: u 116 :: u 117 :: u 118 :: u 119 :: u 120 :: u 121 :: u 122 :: u 123 :: u 124 :: u 125 :: u 126 :: u 127 :: u 128 :: u 129 :: u 130 :: u 131 :: u 132 :: u 133 :: u 134 :: u 135 :: u 136 :: u 137 :: u 138 :: u 139 :: u 140 :: u 141 :: u 142 :: u 143 :: u 144 :: u 145 :: u 146 :: u 147 :: u 148 :: u 149 :: u 150 :: u 151 :: u 152 :: u 153 :: u 154 :: u 155 :: u 156 :: u 157 :: u 158 :: u 159 :: u 160 :: u 161 :: u 162 :: u 163 :: u 164 :: u 165 :: u 166 :: u 167 :: u 168 :: u 169 :: u 170 :: u 171 :: u 172 :: u 173 :: u 174 :: u 175 :: u 176 :: u 177 :: u 178 :: u 179 :: u 180 :: y 0 :: y 1 :: y 2 :: y 3 :: y 4 :: y 5 :: y 6 :: y 7 :: y 8 :: y 9 :: y 10 :: y 11 :: y 12 :: u 194 :: []), []⟩)
    (fun j v _ => if j = 13 then True else v = V j)
    (fun L y w4 => True ∧ w4 = if L 13 = true then wX else w.drew) (fun j => (([u 181, u 182, u 183, u 184, u 185, u 186, u 187, u 188, u 189, u 190, u 191, u 192, u 193, undef] : List Value).getD j undef)) ⟨trivial, rfl⟩ ?_ ?_
  · rintro L y w4 i o hcl ⟨hI, hG⟩ hΦ ho hL hd K2 hK2
    match i, ho with
    | 0, ho =>
      simp at ho; subst ho
      have HG := Lib.hid hG
      clear hΦ hd hG
      first | go_big_move | go_big_op
      exact hK2 _ _ (by first | exact q_0.symm | (rw [q_0]; first | assumption | exact hy)) ⟨hI, HG.out⟩ (fun _ _ _ h => h)
    | 1, ho =>
      simp at ho; subst ho
      have HG := Lib.hid hG
      clear hΦ hd hG
      first | go_big_move | go_big_op
      exact hK2 _ _ (by first | exact q_1.symm | (rw [q_1]; first | assumption | exact hy)) ⟨hI, HG.out⟩ (fun _ _ _ h => h)
    | 2, ho =>
      simp at ho; subst ho
      have hu0 := hΦ 0 (hd ⟨0, .data⟩ (by simp) (by rfl))
      simp only [reduceIte, Nat.reduceEqDiff] at hu0
      rw [q_0] at hu0
      have HG := Lib.hid hG
      clear hΦ hd hG
      first | go_big_move | go_big_op
      exact hK2 _ _ (by first | exact q_2.symm | (rw [q_2]; first | assumption | exact hy)) ⟨hI, HG.out⟩ (fun _ _ _ h => h)
    | 3, ho =>
      simp at ho; subst ho
      have hu2 := hΦ 2 (hd ⟨2, .data⟩ (by simp) (by rfl))
      simp only [reduceIte, Nat.reduceEqDiff] at hu2
      rw [q_2] at hu2
      have HG := Lib.hid hG
      clear hΦ hd hG
      first | go_big_move | go_big_op
      exact hK2 _ _ (by first | exact q_3.symm | (rw [q_3]; first | assumption | exact hy)) ⟨hI, HG.out⟩ (fun _ _ _ h => h)
    | 4, ho =>
      simp at ho; subst ho
      have hu1 := hΦ 1 (hd ⟨1, .data⟩ (by simp) (by rfl))
      simp only [reduceIte, Nat.reduceEqDiff] at hu1
      rw [q_1] at hu1
      have hu3 := hΦ 3 (hd ⟨3, .data⟩ (by simp) (by rfl))
      simp only [reduceIte, Nat.reduceEqDiff] at hu3
      rw [q_3] at hu3
      have HG := Lib.hid hG
      clear hΦ hd hG
      first | go_big_move | go_big_op
      exact hK2 _ _ (by first | exact q_4.symm | (rw [q_4]; first | assumption | exact hy)) ⟨hI, HG.out⟩ (fun _ _ _ h => h)
    | 5, ho =>
      simp at ho; subst ho
      have hu4 := hΦ 4 (hd ⟨4, .data⟩ (by simp) (by rfl))
      simp only [reduceIte, Nat.reduceEqDiff] at hu4
      rw [q_4] at hu4
      have HG := Lib.hid hG
      have hna : ¬ L 13 = true := fun h => by have h2 := (hcl.dep 9 5 (hcl.dep 13 9 h (by rfl)) (by rfl)); rw [hL] at h2; cases h2
      rw [if_neg hna] at hG
      have hcell := c0 w4 hG
      clear hΦ hd hG
      first | go_big_move | go_big_op
      exact hK2 _ _ (by first | exact q_5.symm | (rw [q_5]; first | assumption | exact hy)) ⟨hI, HG.out⟩ (fun _ _ _ h => h)
    | 6, ho =>
      simp at ho; subst ho
      have HG := Lib.hid hG
      clear hΦ hd hG
      first | go_big_move | go_big_op
      exact hK2 _ _ (by first | exact q_6.symm | (rw [q_6]; first | assumption | exact hy)) ⟨hI, HG.out⟩ (fun _ _ _ h => h)
    | 7, ho =>
      simp at ho; subst ho
      have hu6 := hΦ 6 (hd ⟨6, .data⟩ (by simp) (by rfl))
      simp only [reduceIte, Nat.reduceEqDiff] at hu6
      rw [q_6] at hu6
      have HG := Lib.hid hG
      clear hΦ hd hG
      first | go_big_move | go_big_op
      exact hK2 _ _ (by first | exact q_7.symm | (rw [q_7]; first | assumption | exact hy)) ⟨hI, HG.out⟩ (fun _ _ _ h => h)
    | 8, ho =>
      simp at ho; subst ho
      have hu7 := hΦ 7 (hd ⟨7, .data⟩ (by simp) (by rfl))
      simp only [reduceIte, Nat.reduceEqDiff] at hu7
      rw [q_7] at hu7
      have HG := Lib.hid hG
      have hna : ¬ L 13 = true := fun h => by have h2 := (hcl.dep 9 8 (hcl.dep 13 9 h (by rfl)) (by rfl)); rw [hL] at h2; cases h2
      rw [if_neg hna] at hG
      have hcell := c1 w4 hG
      clear hΦ hd hG
      first | go_big_move | go_big_op
      exact hK2 _ _ (by first | exact q_8.symm | (rw [q_8]; first | assumption | exact hy)) ⟨hI, HG.out⟩ (fun _ _ _ h => h)
    | 9, ho =>
      simp at ho; subst ho
      have hu5 := hΦ 5 (hd ⟨5, .data⟩ (by simp) (by rfl))
      simp only [reduceIte, Nat.reduceEqDiff] at hu5
      rw [q_5] at hu5
      have hu8 := hΦ 8 (hd ⟨8, .data⟩ (by simp) (by rfl))
      simp only [reduceIte, Nat.reduceEqDiff] at hu8
      rw [q_8] at hu8
      have HG := Lib.hid hG
      clear hΦ hd hG
      first | go_big_move | go_big_op
      exact hK2 _ _ (by first | (rw [q_9]; exact congrArg (Value.int IntKind.u32) s1) | exact q_9.symm | (rw [q_9]; first | assumption | exact hy)) ⟨hI, HG.out⟩ (fun _ _ _ h => h)
    | 10, ho =>
      simp at ho; subst ho
      have hu0 := hΦ 0 (hd ⟨0, .data⟩ (by simp) (by rfl))
      simp only [reduceIte, Nat.reduceEqDiff] at hu0
      rw [q_0] at hu0
      have HG := Lib.hid hG
      clear hΦ hd hG
      first | go_big_move | go_big_op
      exact hK2 _ _ (by first | exact q_10.symm | (rw [q_10]; first | assumption | exact hy)) ⟨hI, HG.out⟩ (fun _ _ _ h => h)
    | 11, ho =>
      simp at ho; subst ho
      have hu10 := hΦ 10 (hd ⟨10, .data⟩ (by simp) (by rfl))
      simp only [reduceIte, Nat.reduceEqDiff] at hu10
      rw [q_10] at hu10
      have HG := Lib.hid hG
      clear hΦ hd hG
      first | go_big_move | go_big_op
      exact hK2 _ _ (by first | exact q_11.symm | (rw [q_11]; first | assumption | exact hy)) ⟨hI, HG.out⟩ (fun _ _ _ h => h)
    | 12, ho =>
      simp at ho; subst ho
      have hu1 := hΦ 1 (hd ⟨1, .data⟩ (by simp) (by rfl))
      simp only [reduceIte, Nat.reduceEqDiff] at hu1
      rw [q_1] at hu1
      have hu11 := hΦ 11 (hd ⟨11, .data⟩ (by simp) (by rfl))
      simp only [reduceIte, Nat.reduceEqDiff] at hu11
      rw [q_11] at hu11
      have HG := Lib.hid hG
      clear hΦ hd hG
      first | go_big_move | go_big_op
      exact hK2 _ _ (by first | exact q_12.symm | (rw [q_12]; first | assumption | exact hy)) ⟨hI, HG.out⟩ (fun _ _ _ h => h)
    | 13, ho =>
      simp at ho; subst ho
      have hu9 := hΦ 9 (hd ⟨9, .data⟩ (by simp) (by rfl))
      simp only [reduceIte, Nat.reduceEqDiff] at hu9
      rw [q_9] at hu9
      have hu12 := hΦ 12 (hd ⟨12, .data⟩ (by simp) (by rfl))
      simp only [reduceIte, Nat.reduceEqDiff] at hu12
      rw [q_12] at hu12
      rw [if_neg (by rw [hL]; decide)] at hG
      subst hG
      clear hΦ hd
      go_big_op
      refine hK2 undef _ trivial ⟨hI, ?_⟩ (fun _ _ _ h => h)
      rw [if_pos (show mark L 13 13 = true from rfl), HXe.out]; try rfl
  rintro y w4 hΦ L hall ⟨hI, hG⟩
  rw [if_pos (hall 13 (by decide))] at hG
  subst hG
  exact HK.out _ _  ⟨rfl, rfl⟩ (Kc h0.symm (Kc rfl (Kc rfl (Kc rfl (Kc rfl (Kc rfl (Kc rfl (Kc rfl (Kc rfl (Kc h11.symm (Kc rfl (Kc rfl (Kc rfl (Kc rfl (Kc rfl (Kc h17.symm (Kc rfl (Kc rfl (Kc rfl (Kn _ _))))))))))))))))))))  HXe.out
theorem blkR4 (i gw gb off cb : Nat) (b0 b1 b2 b3 : UInt8) (z : Value) (a : Act) (w : World) (K : Exit → Act → World → Prop) (hs : Sz 195 a)
    (h1 : sl a 1 = .slice (some ⟨gb, off, none⟩) 64 cb) (h4 : sl a 4 = .pointer (some ⟨gw, 0, none⟩)) (h5 : sl a 5 = .int .i64 (i : Int)) (hi : i < 16) (g0 : w.cell? ⟨gb, off + (4 * i + 0), none⟩ = some (.int .u8 (b0.toNat : Int))) (g1 : w.cell? ⟨gb, off + (4 * i + 1), none⟩ = some (.int .u8 (b1.toNat : Int))) (g2 : w.cell? ⟨gb, off + (4 * i + 2), none⟩ = some (.int .u8 (b2.toNat : Int))) (g3 : w.cell? ⟨gb, off + (4 * i + 3), none⟩ = some (.int .u8 (b3.toNat : Int))) (hz : w.cell? ⟨gw, i, none⟩ = some (z)) (hfz : w.frozen? ⟨gw, i, none⟩ = false)
    (hK : ∀ a' w', Sz 195 a' → Kp [0, 1, 4, 5, 6, 7, 8, 9, 10, 11, 12, 13, 14, 15, 16, 17, 18, 104, 178] a a' → w' = w.drew.setCell ⟨gw, i, none⟩ (.int .u32 ((wd b0 b1 b2 b3).toNat : Int)) → K .normal a' w') :
    (regionOf Tryz.f187 4).wp Tryz.prog K a w := by
  unfold Kp at hK; rw [blkFr_of hs]; clear hs; generalize sl a = u at *; clear a; have HK := Lib.hid hK; clear hK; conv => arg 2; whnf
  obtain ⟨j0, hj0⟩ : ∃ j, j = 4 * i + 0 := ⟨_, rfl⟩
  rw [← hj0] at g0
  have l0 : j0 < 64 := by omega
  have z0 : (b0.toNat : Int) ≤ 255 := by have := b0.toNat_lt; omega
  have c0 : ∀ w4, w4 = w.drew → w4.cell? ⟨gb, off + j0, none⟩ = some (.int .u8 (b0.toNat : Int)) := by rintro w4 rfl; exact g0
  obtain ⟨j1, hj1⟩ : ∃ j, j = 4 * i + 1 := ⟨_, rfl⟩
  rw [← hj1] at g1
  have l1 : j1 < 64 := by omega
  have z1 : (b1.toNat : Int) ≤ 255 := by have := b1.toNat_lt; omega
  have c1 : ∀ w4, w4 = w.drew → w4.cell? ⟨gb, off + j1, none⟩ = some (.int .u8 (b1.toNat : Int)) := by rintro w4 rfl; exact g1
  obtain ⟨j2, hj2⟩ : ∃ j, j = 4 * i + 2 := ⟨_, rfl⟩
  rw [← hj2] at g2
  have l2 : j2 < 64 := by omega
  have z2 : (b2.toNat : Int) ≤ 255 := by have := b2.toNat_lt; omega
  have c2 : ∀ w4, w4 = w.drew → w4.cell? ⟨gb, off + j2, none⟩ = some (.int .u8 (b2.toNat : Int)) := by rintro w4 rfl; exact g2
  obtain ⟨j3, hj3⟩ : ∃ j, j = 4 * i + 3 := ⟨_, rfl⟩
  rw [← hj3] at g3
  have l3 : j3 < 64 := by omega
  have z3 : (b3.toNat : Int) ≤ 255 := by have := b3.toNat_lt; omega
  have c3 : ∀ w4, w4 = w.drew → w4.cell? ⟨gb, off + j3, none⟩ = some (.int .u8 (b3.toNat : Int)) := by rintro w4 rfl; exact g3
  have q0 : 4 * (i : Int) = (j0 : Int) := by omega
  have q1 : (j0 : Int) + 1 = (j1 : Int) := by omega
  have q2 : (j0 : Int) + 2 = (j2 : Int) := by omega
  have q3 : (j0 : Int) + 3 = (j3 : Int) := by omega
  obtain ⟨r1, hr1⟩ : ∃ r, r = wd b0 b1 b2 b3 := ⟨_, rfl⟩
  have swd := wdW b0 b1 b2 b3
  rw [← hr1] at swd HK
  clear hr1
  have hfz2 : w.drew.frozen? ⟨gw, i, none⟩ = false := hfz
  have hcx : w.drew.cell? ⟨gw, i, none⟩ = some z := hz
  obtain ⟨wX, hXe⟩ : ∃ z, z = w.drew.setCell ⟨gw, i, none⟩ (.int .u32 (r1.toNat : Int)) := ⟨_, rfl⟩
  have HXe := Lib.hid hXe
  clear hXe hfz hz g0 g1 g2 g3 hj0 hj1 hj2 hj3
  simp only [blkFr, h1, h4, h5]
  obtain ⟨V, hV⟩ : ∃ V : Nat → Value, V = (fun jj => match jj with | 0 => .int .i64 (i : Int) | 1 => .slice (some ⟨gb, off, none⟩) 64 cb | 2 => .int .i64 (i : Int) | 3 => .int .i64 (j0 : Int) | 4 => .pointer (some ⟨gb, off + j0, none⟩) | 5 => .int .u8 (b0.toNat : Int) | 6 => .int .u32 (b0.toNat : Int) | 7 => .int .u32 ((b0.toNat : Int) * 16777216) | 8 => .slice (some ⟨gb, off, none⟩) 64 cb | 9 => .int .i64 (i : Int) | 10 => .int .i64 (j0 : Int) | 11 => .int .i64 (j1 : Int) | 12 => .pointer (some ⟨gb, off + j1, none⟩) | 13 => .int .u8 (b1.toNat : Int) | 14 => .int .u32 (b1.toNat : Int) | 15 => .int .u32 ((b1.toNat : Int) * 65536) | 16 => .int .u32 (bits .or .u32 ((b0.toNat : Int) * 16777216) ((b1.toNat : Int) * 65536)) | 17 => .slice (some ⟨gb, off, none⟩) 64 cb | 18 => .int .i64 (i : Int) | 19 => .int .i64 (j0 : Int) | 20 => .int .i64 (j2 : Int) | 21 => .pointer (some ⟨gb, off + j2, none⟩) | 22 => .int .u8 (b2.toNat : Int) | 23 => .int .u32 (b2.toNat : Int) | 24 => .int .u32 ((b2.toNat : Int) * 256) | 25 => .int .u32 (bits .or .u32 (bits .or .u32 ((b0.toNat : Int) * 16777216) ((b1.toNat : Int) * 65536)) ((b2.toNat : Int) * 256)) | 26 => .slice (some ⟨gb, off, none⟩) 64 cb | 27 => .int .i64 (i : Int) | 28 => .int .i64 (j0 : Int) | 29 => .int .i64 (j3 : Int) | 30 => .pointer (some ⟨gb, off + j3, none⟩) | 31 => .int .u8 (b3.toNat : Int) | 32 => .int .u32 (b3.toNat : Int) | 33 => .int .u32 (r1.toNat : Int) | 34 => .pointer (some ⟨gw, i, none⟩) | _ => undef) := ⟨_, rfl⟩
  have q_0 : V 0 = .int .i64 (i : Int) := congrFun hV 0
  have q_1 : V 1 = .slice (some ⟨gb, off, none⟩) 64 cb := congrFun hV 1
  have q_2 : V 2 = .int .i64 (i : Int) := congrFun hV 2
  have q_3 : V 3 = .int .i64 (j0 : Int) := congrFun hV 3
  have q_4 : V 4 = .pointer (some ⟨gb, off + j0, none⟩) := congrFun hV 4
  have q_5 : V 5 = .int .u8 (b0.toNat : Int) := congrFun hV 5
  have q_6 : V 6 = .int .u32 (b0.toNat : Int) := congrFun hV 6
  have q_7 : V 7 = .int .u32 ((b0.toNat : Int) * 16777216) := congrFun hV 7
  have q_8 : V 8 = .slice (some ⟨gb, off, none⟩) 64 cb := congrFun hV 8
  have q_9 : V 9 = .int .i64 (i : Int) := congrFun hV 9
  have q_10 : V 10 = .int .i64 (j0 : Int) := congrFun hV 10
  have q_11 : V 11 = .int .i64 (j1 : Int) := congrFun hV 11
  have q_12 : V 12 = .pointer (some ⟨gb, off + j1, none⟩) := congrFun hV 12
  have q_13 : V 13 = .int .u8 (b1.toNat : Int) := congrFun hV 13
  have q_14 : V 14 = .int .u32 (b1.toNat : Int) := congrFun hV 14
  have q_15 : V 15 = .int .u32 ((b1.toNat : Int) * 65536) := congrFun hV 15
  have q_16 : V 16 = .int .u32 (bits .or .u32 ((b0.toNat : Int) * 16777216) ((b1.toNat : Int) * 65536)) := congrFun hV 16
  have q_17 : V 17 = .slice (some ⟨gb, off, none⟩) 64 cb := congrFun hV 17
  have q_18 : V 18 = .int .i64 (i : Int) := congrFun hV 18
  have q_19 : V 19 = .int .i64 (j0 : Int) := congrFun hV 19
  have q_20 : V 20 = .int .i64 (j2 : Int) := congrFun hV 20
  have q_21 : V 21 = .pointer (some ⟨gb, off + j2, none⟩) := congrFun hV 21
  have q_22 : V 22 = .int .u8 (b2.toNat : Int) := congrFun hV 22
  have q_23 : V 23 = .int .u32 (b2.toNat : Int) := congrFun hV 23
  have q_24 : V 24 = .int .u32 ((b2.toNat : Int) * 256) := congrFun hV 24
  have q_25 : V 25 = .int .u32 (bits .or .u32 (bits .or .u32 ((b0.toNat : Int) * 16777216) ((b1.toNat : Int) * 65536)) ((b2.toNat : Int) * 256)) := congrFun hV 25
  have q_26 : V 26 = .slice (some ⟨gb, off, none⟩) 64 cb := congrFun hV 26
  have q_27 : V 27 = .int .i64 (i : Int) := congrFun hV 27
  have q_28 : V 28 = .int .i64 (j0 : Int) := congrFun hV 28
  have q_29 : V 29 = .int .i64 (j3 : Int) := congrFun hV 29
  have q_30 : V 30 = .pointer (some ⟨gb, off + j3, none⟩) := congrFun hV 30
  have q_31 : V 31 = .int .u8 (b3.toNat : Int) := congrFun hV 31
  have q_32 : V 32 = .int .u32 (b3.toNat : Int) := congrFun hV 32
  have q_33 : V 33 = .int .u32 (r1.toNat : Int) := congrFun hV 33
  have q_34 : V 34 = .pointer (some ⟨gw, i, none⟩) := congrFun hV 34
  clear hV
  refine wp_region_ssac (by kernel_rfl) (by kernel_rfl) (by kernel_rfl)
    (fun y => ⟨List.toArray (u 0 :: .slice (some ⟨gb, off, none⟩) 64 cb :: u 2 :: u 3 :: .pointer (some ⟨gw, 0, none⟩) :: .int .i64 (i : Int) :: u 6 :: u 7 :: u 8 :: u 9 :: u 10 :: u 11 :: u 12 :: u 13 :: u 14 :: u 15 :: u 16 :: u 17 :: u 18 :: u 19 :: u 20 :: y 0 :: y 1 :: y 2 :: y 3 :: y 4 :: y 5 :: y 6 :: y 7 :: y 8 :: y 9 :: y 10 :: y 11 :: y 12 :: y 13 :: y 14 :: y 15 :: y 16 :: y 17 :: y 18 :: y 19 :: y 20 :: y 21 :: y 22 :: y 23 :: y 24 :: y 25 :: y 26 :: y 27 :: y 28 :: y 29 :: y 30 :: y 31 :: y 32 :: y 33 :: y 34 :: u 56 :: u 57 :: u 58 :: u 59 :: u 60 :: u 61 :: u 62 :: u 63 :: u 64 :: u 65 :: u 66 :: u 67 :: u 68 :: u 69 :: u 70 :: u 71 :: u 72 :: u 73 :: u 74 :: u 75 :: u 76 :: u 77 :: u 78 :: u 79 :: u 80 :: u 81 :: u 82 :: u 83 :: u 84 :: u 85 :: u 86 :: u 87 :: u 88 :: u 89 :: u 90 :: u 91 :: u 92 :: u 93 :: u 94 :: u 95 :: u 96 :: u 97 :: u 98 :: u 99 :: u 100 :: u 101 :: u 102 :: u 103 :: u 104 :: u 105 :: u 106 :: u 107 :: u 108 :: u 109 :: u 110 :: u 111 :: u 112 :: u 113 :: u 114 :: u 115 :: u 116 :: u 117 :: u 118 :: u 119 :: u 120 :: u 121 :: u 122 :: u 123 :: u 124 :: u 125 :: u 126 :: u 127 :: u 128 :: u 129 :: u 130 :: u 131 :: u 132 :: u 133 :: u 134 :: u 135 :: u 136 :: u 137 :: u 138 :: u 139 :: u 140 :: u 141 :: u 142 :: u 143 :: u 144 :: u 145 :: u 146 :: u 147 :: u 148 :: u 149 :: u 150 :: u 151 :: u 152 :: u 153 :: u 154 :: u 155 :: u 156 :: u 157 :: u 158 :: u 159 :: u 160 :: u 161 :: u 162 :: u 163 :: u 164 :: u 165 :: u 166 :: u 167 :: u 168 :: u 169 :: u 170 :: u 171 :: u 172 :: u 173 :: u 174 :: u 175 :: u 176 :: u 177 :: u 178 :: u 179 :: u 180 :: u 181 :: u 182 :: u 183 :: u 184 :: u 185 :: u 186 :: u 187 :: u 188 :: u 189 :: u 190 :: u 191 :: u 192 :: u 193 :: u 194 :: []), []⟩)
    (fun j v _ => if j = 35 then True else v = V j)
    (fun L y w4 => True ∧ w4 = if L 35 = true then wX else w.drew) (fun j => (([u 21, u 22, u 23, u 24, u 25, u 26, u 27, u 28, u 29, u 30, u 31, u 32, u 33, u 34, u 35, u 36, u 37, u 38, u 39, u 40, u 41, u 42, u 43, u 44, u 45, u 46, u 47, u 48, u 49, u 50, u 51, u 52, u 53, u 54, u 55, undef] : List Value).getD j undef)) ⟨trivial, rfl⟩ ?_ ?_
  · rintro L y w4 i o hcl ⟨hI, hG⟩ hΦ ho hL hd K2 hK2
    match i, ho with
    | 0, ho =>
      simp at ho; subst ho
      have HG := Lib.hid hG
      clear hΦ hd hG
      first | go_big_move | go_big_op
      exact hK2 _ _ (by first | exact q_0.symm | (rw [q_0]; first | assumption | exact hy)) ⟨hI, HG.out⟩ (fun _ _ _ h => h)
    | 1, ho =>
      simp at ho; subst ho
      have HG := Lib.hid hG
      clear hΦ hd hG
      first | go_big_move | go_big_op
      exact hK2 _ _ (by first | exact q_1.symm | (rw [q_1]; first | assumption | exact hy)) ⟨hI, HG.out⟩ (fun _ _ _ h => h)
    | 2, ho =>
      simp at ho; subst ho
      have HG := Lib.hid hG
      clear hΦ hd hG
      first | go_big_move | go_big_op
      exact hK2 _ _ (by first | exact q_2.symm | (rw [q_2]; first | assumption | exact hy)) ⟨hI, HG.out⟩ (fun _ _ _ h => h)
    | 3, ho =>
      simp at ho; subst ho
      have hu2 := hΦ 2 (hd ⟨2, .data⟩ (by simp) (by rfl))
      simp only [reduceIte, Nat.reduceEqDiff] at hu2
      rw [q_2] at hu2
      have HG := Lib.hid hG
      clear hΦ hd hG
      first | go_big_move | go_big_op
      exact hK2 _ _ (by first | exact q_3.symm | (rw [q_3]; first | assumption | exact hy)) ⟨hI, HG.out⟩ (fun _ _ _ h => h)
    | 4, ho =>
      simp at ho; subst ho
      have hu1 := hΦ 1 (hd ⟨1, .data⟩ (by simp) (by rfl))
      simp only [reduceIte, Nat.reduceEqDiff] at hu1
      rw [q_1] at hu1
      have hu3 := hΦ 3 (hd ⟨3, .data⟩ (by simp) (by rfl))
      simp only [reduceIte, Nat.reduceEqDiff] at hu3
      rw [q_3] at hu3
      have HG := Lib.hid hG
      clear hΦ hd hG
      first | go_big_move | go_big_op
      exact hK2 _ _ (by first | exact q_4.symm | (rw [q_4]; first | assumption | exact hy)) ⟨hI, HG.out⟩ (fun _ _ _ h => h)
    | 5, ho =>
      simp at ho; subst ho
      have hu4 := hΦ 4 (hd ⟨4, .data⟩ (by simp) (by rfl))
      simp only [reduceIte, Nat.reduceEqDiff] at hu4
      rw [q_4] at hu4
      have HG := Lib.hid hG
      have hna : ¬ L 35 = true := fun h => by have h2 := (hcl.dep 6 5 (hcl.dep 7 6 (hcl.dep 16 7 (hcl.dep 25 16 (hcl.dep 33 25 (hcl.dep 35 33 h (by rfl)) (by rfl)) (by rfl)) (by rfl)) (by rfl)) (by rfl)); rw [hL] at h2; cases h2
      rw [if_neg hna] at hG
      have hcell := c0 w4 hG
      clear hΦ hd hG
      first | go_big_move | go_big_op
      exact hK2 _ _ (by first | exact q_5.symm | (rw [q_5]; first | assumption | exact hy)) ⟨hI, HG.out⟩ (fun _ _ _ h => h)
    | 6, ho =>
      simp at ho; subst ho
      have hu5 := hΦ 5 (hd ⟨5, .data⟩ (by simp) (by rfl))
      simp only [reduceIte, Nat.reduceEqDiff] at hu5
      rw [q_5] at hu5
      have HG := Lib.hid hG
      clear hΦ hd hG
      first | go_big_move | go_big_op
      exact hK2 _ _ (by first | exact q_6.symm | (rw [q_6]; first | assumption | exact hy)) ⟨hI, HG.out⟩ (fun _ _ _ h => h)
    | 7, ho =>
      simp at ho; subst ho
      have hu6 := hΦ 6 (hd ⟨6, .data⟩ (by simp) (by rfl))
      simp only [reduceIte, Nat.reduceEqDiff] at hu6
      rw [q_6] at hu6
      have HG := Lib.hid hG
      clear hΦ hd hG
      first | go_big_move | go_big_op
      exact hK2 _ _ (by first | exact q_7.symm | (rw [q_7]; first | assumption | exact hy)) ⟨hI, HG.out⟩ (fun _ _ _ h => h)
    | 8, ho =>
      simp at ho; subst ho
      have HG := Lib.hid hG
      clear hΦ hd hG
      first | go_big_move | go_big_op
      exact hK2 _ _ (by first | exact q_8.symm | (rw [q_8]; first | assumption | exact hy)) ⟨hI, HG.out⟩ (fun _ _ _ h => h)
    | 9, ho =>
      simp at ho; subst ho
      have HG := Lib.hid hG
      clear hΦ hd hG
      first | go_big_move | go_big_op
      exact hK2 _ _ (by first | exact q_9.symm | (rw [q_9]; first | assumption | exact hy)) ⟨hI, HG.out⟩ (fun _ _ _ h => h)
    | 10, ho =>
      simp at ho; subst ho
      have hu9 := hΦ 9 (hd ⟨9, .data⟩ (by simp) (by rfl))
      simp only [reduceIte, Nat.reduceEqDiff] at hu9
      rw [q_9] at hu9
      have HG := Lib.hid hG
      clear hΦ hd hG
      first | go_big_move | go_big_op
      exact hK2 _ _ (by first | exact q_10.symm | (rw [q_10]; first | assumption | exact hy)) ⟨hI, HG.out⟩ (fun _ _ _ h => h)
    | 11, ho =>
      simp at ho; subst ho
      have hu10 := hΦ 10 (hd ⟨10, .data⟩ (by simp) (by rfl))
      simp only [reduceIte, Nat.reduceEqDiff] at hu10
      rw [q_10] at hu10
      have HG := Lib.hid hG
      clear hΦ hd hG
      first | go_big_move | go_big_op
      exact hK2 _ _ (by first | exact q_11.symm | (rw [q_11]; first | assumption | exact hy)) ⟨hI, HG.out⟩ (fun _ _ _ h => h)
    | 12, ho =>
      simp at ho; subst ho
      have hu8 := hΦ 8 (hd ⟨8, .data⟩ (by simp) (by rfl))
      simp only [reduceIte, Nat.reduceEqDiff] at hu8
      rw [q_8] at hu8
      have hu11 := hΦ 11 (hd ⟨11, .data⟩ (by simp) (by rfl))
      simp only [reduceIte, Nat.reduceEqDiff] at hu11
      rw [q_11] at hu11
      have HG := Lib.hid hG
      clear hΦ hd hG
      first | go_big_move | go_big_op
      exact hK2 _ _ (by first | exact q_12.symm | (rw [q_12]; first | assumption | exact hy)) ⟨hI, HG.out⟩ (fun _ _ _ h => h)
    | 13, ho =>
      simp at ho; subst ho
      have hu12 := hΦ 12 (hd ⟨12, .data⟩ (by simp) (by rfl))
      simp only [reduceIte, Nat.reduceEqDiff] at hu12
      rw [q_12] at hu12
      have HG := Lib.hid hG
      have hna : ¬ L 35 = true := fun h => by have h2 := (hcl.dep 14 13 (hcl.dep 15 14 (hcl.dep 16 15 (hcl.dep 25 16 (hcl.dep 33 25 (hcl.dep 35 33 h (by rfl)) (by rfl)) (by rfl)) (by rfl)) (by rfl)) (by rfl)); rw [hL] at h2; cases h2
      rw [if_neg hna] at hG
      have hcell := c1 w4 hG
      clear hΦ hd hG
      first | go_big_move | go_big_op
      exact hK2 _ _ (by first | exact q_13.symm | (rw [q_13]; first | assumption | exact hy)) ⟨hI, HG.out⟩ (fun _ _ _ h => h)
    | 14, ho =>
      simp at ho; subst ho
      have hu13 := hΦ 13 (hd ⟨13, .data⟩ (by simp) (by rfl))
      simp only [reduceIte, Nat.reduceEqDiff] at hu13
      rw [q_13] at hu13
      have HG := Lib.hid hG
      clear hΦ hd hG
      first | go_big_move | go_big_op
      exact hK2 _ _ (by first | exact q_14.symm | (rw [q_14]; first | assumption | exact hy)) ⟨hI, HG.out⟩ (fun _ _ _ h => h)
    | 15, ho =>
      simp at ho; subst ho
      have hu14 := hΦ 14 (hd ⟨14, .data⟩ (by simp) (by rfl))
      simp only [reduceIte, Nat.reduceEqDiff] at hu14
      rw [q_14] at hu14
      have HG := Lib.hid hG
      clear hΦ hd hG
      first | go_big_move | go_big_op
      exact hK2 _ _ (by first | exact q_15.symm | (rw [q_15]; first | assumption | exact hy)) ⟨hI, HG.out⟩ (fun _ _ _ h => h)
    | 16, ho =>
      simp at ho; subst ho
      have hu7 := hΦ 7 (hd ⟨7, .data⟩ (by simp) (by rfl))
      simp only [reduceIte, Nat.reduceEqDiff] at hu7
      rw [q_7] at hu7
      have hu15 := hΦ 15 (hd ⟨15, .data⟩ (by simp) (by rfl))
      simp only [reduceIte, Nat.reduceEqDiff] at hu15
      rw [q_15] at hu15
      have HG := Lib.hid hG
      clear hΦ hd hG
      first | go_big_move | go_big_op
      exact hK2 _ _ (by first | exact q_16.symm | (rw [q_16]; first | assumption | exact hy)) ⟨hI, HG.out⟩ (fun _ _ _ h => h)
    | 17, ho =>
      simp at ho; subst ho
      have HG := Lib.hid hG
      clear hΦ hd hG
      first | go_big_move | go_big_op
      exact hK2 _ _ (by first | exact q_17.symm | (rw [q_17]; first | assumption | exact hy)) ⟨hI, HG.out⟩ (fun _ _ _ h => h)
    | 18, ho =>
      simp at ho; subst ho
      have HG := Lib.hid hG
      clear hΦ hd hG
      first | go_big_move | go_big_op
      exact hK2 _ _ (by first | exact q_18.symm | (rw [q_18]; first | assumption | exact hy)) ⟨hI, HG.out⟩ (fun _ _ _ h => h)
    | 19, ho =>
      simp at ho; subst ho
      have hu18 := hΦ 18 (hd ⟨18, .data⟩ (by simp) (by rfl))
      simp only [reduceIte, Nat.reduceEqDiff] at hu18
      rw [q_18] at hu18
      have HG := Lib.hid hG
      clear hΦ hd hG
      first | go_big_move | go_big_op
      exact hK2 _ _ (by first | exact q_19.symm | (rw [q_19]; first | assumption | exact hy)) ⟨hI, HG.out⟩ (fun _ _ _ h => h)
    | 20, ho =>
      simp at ho; subst ho
      have hu19 := hΦ 19 (hd ⟨19, .data⟩ (by simp) (by rfl))
      simp only [reduceIte, Nat.reduceEqDiff] at hu19
      rw [q_19] at hu19
      have HG := Lib.hid hG
      clear hΦ hd hG
      first | go_big_move | go_big_op
      exact hK2 _ _ (by first | exact q_20.symm | (rw [q_20]; first | assumption | exact hy)) ⟨hI, HG.out⟩ (fun _ _ _ h => h)
    | 21, ho =>
      simp at ho; subst ho
      have hu17 := hΦ 17 (hd ⟨17, .data⟩ (by simp) (by rfl))
      simp only [reduceIte, Nat.reduceEqDiff] at hu17
      rw [q_17] at hu17
      have hu20 := hΦ 20 (hd ⟨20, .data⟩ (by simp) (by rfl))
      simp only [reduceIte, Nat.reduceEqDiff] at hu20
      rw [q_20] at hu20
      have HG := Lib.hid hG
      clear hΦ hd hG
      first | go_big_move | go_big_op
      exact hK2 _ _ (by first | exact q_21.symm | (rw [q_21]; first | assumption | exact hy)) ⟨hI, HG.out⟩ (fun _ _ _ h => h)
    | 22, ho =>
      simp at ho; subst ho
      have hu21 := hΦ 21 (hd ⟨21, .data⟩ (by simp) (by rfl))
      simp only [reduceIte, Nat.reduceEqDiff] at hu21
      rw [q_21] at hu21
      have HG := Lib.hid hG
      have hna : ¬ L 35 = true := fun h => by have h2 := (hcl.dep 23 22 (hcl.dep 24 23 (hcl.dep 25 24 (hcl.dep 33 25 (hcl.dep 35 33 h (by rfl)) (by rfl)) (by rfl)) (by rfl)) (by rfl)); rw [hL] at h2; cases h2
      rw [if_neg hna] at hG
      have hcell := c2 w4 hG
      clear hΦ hd hG
      first | go_big_move | go_big_op
      exact hK2 _ _ (by first | exact q_22.symm | (rw [q_22]; first | assumption | exact hy)) ⟨hI, HG.out⟩ (fun _ _ _ h => h)
    | 23, ho =>
      simp at ho; subst ho
      have hu22 := hΦ 22 (hd ⟨22, .data⟩ (by simp) (by rfl))
      simp only [reduceIte, Nat.reduceEqDiff] at hu22
      rw [q_22] at hu22
      have HG := Lib.hid hG
      clear hΦ hd hG
      first | go_big_move | go_big_op
      exact hK2 _ _ (by first | exact q_23.symm | (rw [q_23]; first | assumption | exact hy)) ⟨hI, HG.out⟩ (fun _ _ _ h => h)
    | 24, ho =>
      simp at ho; subst ho
      have hu23 := hΦ 23 (hd ⟨23, .data⟩ (by simp) (by rfl))
      simp only [reduceIte, Nat.reduceEqDiff] at hu23
      rw [q_23] at hu23
      have HG := Lib.hid hG
      clear hΦ hd hG
      first | go_big_move | go_big_op
      exact hK2 _ _ (by first | exact q_24.symm | (rw [q_24]; first | assumption | exact hy)) ⟨hI, HG.out⟩ (fun _ _ _ h => h)
    | 25, ho =>
      simp at ho; subst ho
      have hu16 := hΦ 16 (hd ⟨16, .data⟩ (by simp) (by rfl))
      simp only [reduceIte, Nat.reduceEqDiff] at hu16
      rw [q_16] at hu16
      have hu24 := hΦ 24 (hd ⟨24, .data⟩ (by simp) (by rfl))
      simp only [reduceIte, Nat.reduceEqDiff] at hu24
      rw [q_24] at hu24
      have HG := Lib.hid hG
      clear hΦ hd hG
      first | go_big_move | go_big_op
      exact hK2 _ _ (by first | exact q_25.symm | (rw [q_25]; first | assumption | exact hy)) ⟨hI, HG.out⟩ (fun _ _ _ h => h)
    | 26, ho =>
      simp at ho; subst ho
      have HG := Lib.hid hG
      clear hΦ hd hG
      first | go_big_move | go_big_op
      exact hK2 _ _ (by first | exact q_26.symm | (rw [q_26]; first | assumption | exact hy)) ⟨hI, HG.out⟩ (fun _ _ _ h => h)
    | 27, ho =>
      simp at ho; subst ho
      have HG := Lib.hid hG
      clear hΦ hd hG
      first | go_big_move | go_big_op
      exact hK2 _ _ (by first | exact q_27.symm | (rw [q_27]; first | assumption | exact hy)) ⟨hI, HG.out⟩ (fun _ _ _ h => h)
    | 28, ho =>
      simp at ho; subst ho
      have hu27 := hΦ 27 (hd ⟨27, .data⟩ (by simp) (by rfl))
      simp only [reduceIte, Nat.reduceEqDiff] at hu27
      rw [q_27] at hu27
      have HG := Lib.hid hG
      clear hΦ hd hG
      first | go_big_move | go_big_op
      exact hK2 _ _ (by first | exact q_28.symm | (rw [q_28]; first | assumption | exact hy)) ⟨hI, HG.out⟩ (fun _ _ _ h => h)
    | 29, ho =>
      simp at ho; subst ho
      have hu28 := hΦ 28 (hd ⟨28, .data⟩ (by simp) (by rfl))
      simp only [reduceIte, Nat.reduceEqDiff] at hu28
      rw [q_28] at hu28
      have HG := Lib.hid hG
      clear hΦ hd hG
      first | go_big_move | go_big_op
      exact hK2 _ _ (by first | exact q_29.symm | (rw [q_29]; first | assumption | exact hy)) ⟨hI, HG.out⟩ (fun _ _ _ h => h)
    | 30, ho =>
      simp at ho; subst ho
      have hu26 := hΦ 26 (hd ⟨26, .data⟩ (by simp) (by rfl))
      simp only [reduceIte, Nat.reduceEqDiff] at hu26
      rw [q_26] at hu26
      have hu29 := hΦ 29 (hd ⟨29, .data⟩ (by simp) (by rfl))
      simp only [reduceIte, Nat.reduceEqDiff] at hu29
      rw [q_29] at hu29
      have HG := Lib.hid hG
      clear hΦ hd hG
      first | go_big_move | go_big_op
      exact hK2 _ _ (by first | exact q_30.symm | (rw [q_30]; first | assumption | exact hy)) ⟨hI, HG.out⟩ (fun _ _ _ h => h)
    | 31, ho =>
      simp at ho; subst ho
      have hu30 := hΦ 30 (hd ⟨30, .data⟩ (by simp) (by rfl))
      simp only [reduceIte, Nat.reduceEqDiff] at hu30
      rw [q_30] at hu30
      have HG := Lib.hid hG
      have hna : ¬ L 35 = true := fun h => by have h2 := (hcl.dep 32 31 (hcl.dep 33 32 (hcl.dep 35 33 h (by rfl)) (by rfl)) (by rfl)); rw [hL] at h2; cases h2
      rw [if_neg hna] at hG
      have hcell := c3 w4 hG
      clear hΦ hd hG
      first | go_big_move | go_big_op
      exact hK2 _ _ (by first | exact q_31.symm | (rw [q_31]; first | assumption | exact hy)) ⟨hI, HG.out⟩ (fun _ _ _ h => h)
    | 32, ho =>
      simp at ho; subst ho
      have hu31 := hΦ 31 (hd ⟨31, .data⟩ (by simp) (by rfl))
      simp only [reduceIte, Nat.reduceEqDiff] at hu31
      rw [q_31] at hu31
      have HG := Lib.hid hG
      clear hΦ hd hG
      first | go_big_move | go_big_op
      exact hK2 _ _ (by first | exact q_32.symm | (rw [q_32]; first | assumption | exact hy)) ⟨hI, HG.out⟩ (fun _ _ _ h => h)
    | 33, ho =>
      simp at ho; subst ho
      have hu25 := hΦ 25 (hd ⟨25, .data⟩ (by simp) (by rfl))
      simp only [reduceIte, Nat.reduceEqDiff] at hu25
      rw [q_25] at hu25
      have hu32 := hΦ 32 (hd ⟨32, .data⟩ (by simp) (by rfl))
      simp only [reduceIte, Nat.reduceEqDiff] at hu32
      rw [q_32] at hu32
      have HG := Lib.hid hG
      clear hΦ hd hG
      first | go_big_move | go_big_op
      exact hK2 _ _ (by first | (rw [q_33]; exact congrArg (Value.int IntKind.u32) swd) | exact q_33.symm | (rw [q_33]; first | assumption | exact hy)) ⟨hI, HG.out⟩ (fun _ _ _ h => h)
    | 34, ho =>
      simp at ho; subst ho
      have hu0 := hΦ 0 (hd ⟨0, .data⟩ (by simp) (by rfl))
      simp only [reduceIte, Nat.reduceEqDiff] at hu0
      rw [q_0] at hu0
      have HG := Lib.hid hG
      clear hΦ hd hG
      first | go_big_move | go_big_op
      exact hK2 _ _ (by first | exact q_34.symm | (rw [q_34]; first | assumption | exact hy)) ⟨hI, HG.out⟩ (fun _ _ _ h => h)
    | 35, ho =>
      simp at ho; subst ho
      have hu33 := hΦ 33 (hd ⟨33, .data⟩ (by simp) (by rfl))
      simp only [reduceIte, Nat.reduceEqDiff] at hu33
      rw [q_33] at hu33
      have hu34 := hΦ 34 (hd ⟨34, .data⟩ (by simp) (by rfl))
      simp only [reduceIte, Nat.reduceEqDiff] at hu34
      rw [q_34] at hu34
      rw [if_neg (by rw [hL]; decide)] at hG
      subst hG
      clear hΦ hd
      go_big_op
      refine hK2 undef _ trivial ⟨hI, ?_⟩ (fun _ _ _ h => h)
      rw [if_pos (show mark L 35 35 = true from rfl), HXe.out]; try rfl
  rintro y w4 hΦ L hall ⟨hI, hG⟩
  rw [if_pos (hall 35 (by decide))] at hG
  subst hG
  exact HK.out _ _  ⟨rfl, rfl⟩ (Kc rfl (Kc h1.symm (Kc h4.symm (Kc h5.symm (Kc rfl (Kc rfl (Kc rfl (Kc rfl (Kc rfl (Kc rfl (Kc rfl (Kc rfl (Kc rfl (Kc rfl (Kc rfl (Kc rfl (Kc rfl (Kc rfl (Kc rfl (Kn _ _))))))))))))))))))))  HXe.out
end Go.Proofs.YtcbkaiakdhiloacGreatDoor
namespace Go.Proofs.YtcbkaiakdhiloacGreatDoor
open Go.RowKit Go.Proofs
theorem UB.free {w : World} {g : Nat} {t : TypeId} {l : List UInt32} (h : UB w g t l) (k : Nat) : w.frozen? ⟨g, k, none⟩ = false := Bk.free h k
theorem bk_setRow {w : World} {g : Nat} {t : TypeId} {cs cs' : Array Value} (h : Bk w g t cs) : Bk (w.setRow g cs') g t cs' ∧ Fr (oneB g) w (w.setRow g cs') := by
  unfold Bk at h ⊢
  refine ⟨by simp [World.setRow, Array.getElem?_modify, h], ⟨rfl, rfl, rfl, by simp [World.setRow], fun k hk hn => ?_⟩⟩
  have hne : g ≠ k := fun e => hn e.symm
  simp [World.setRow, Array.getElem?_modify, hne]
theorem u32s_one (l : List UInt32) : ∀ u ∈ u32s l, u.oneCell' = true := by
  intro u hu; simp only [u32s, List.mem_map] at hu; obtain ⟨b, _, rfl⟩ := hu; rfl
theorem run_shift (w : World) (g : Nat) (a b c d e f x y : UInt32) (h : UB w g 201 [a, b, c, d, e, f, x, y]) :
    ∃ w', (Builtin.copy_ #[285, 285] 3 #[.slice (some ⟨g, 1, none⟩) 7 7, .slice (some ⟨g, 0, none⟩) 7 8]).run Tryz.prog w = .ok (goInt 7) w' ∧
      UB w' g 201 [a, a, b, c, d, e, f, x] ∧ Fr (oneB g) w w' := by
  have hr := run_copy_row (P := Tryz.prog) w 285 285 3 37 g 1 7 7 ⟨g, 0, none⟩ 7 8 (u32s [a, b, c, d, e, f, x, y]).toArray 201 (u32s [a, b, c, d, e, f, x]) Tryz.underlying285 (by kernel_rfl) h rfl
    (fun j v hj => by
      rw [addr_add, Nat.zero_add]
      match j, hj with
      | 0, hj => injection hj with hj; subst hj; exact h.get 0 _ rfl
      | 1, hj => injection hj with hj; subst hj; exact h.get 1 _ rfl
      | 2, hj => injection hj with hj; subst hj; exact h.get 2 _ rfl
      | 3, hj => injection hj with hj; subst hj; exact h.get 3 _ rfl
      | 4, hj => injection hj with hj; subst hj; exact h.get 4 _ rfl
      | 5, hj => injection hj with hj; subst hj; exact h.get 5 _ rfl
      | 6, hj => injection hj with hj; subst hj; exact h.get 6 _ rfl
      | j + 7, hj => cases hj) (by simp [u32s]) (u32s_one _)
  obtain ⟨h1, h2⟩ := bk_setRow (cs' := ((u32s [a, b, c, d, e, f, x, y]).toArray.toList.take 1 ++ u32s [a, b, c, d, e, f, x] ++ (u32s [a, b, c, d, e, f, x, y]).toArray.toList.drop (1 + (u32s [a, b, c, d, e, f, x]).length)).toArray) h
  exact ⟨_, hr, h1, h2⟩
theorem blkR0  (a : Act) (w : World) (K : Exit → Act → World → Prop) (hs : Sz 195 a)
     
    (hK : ∀ a' w', Sz 195 a' → Kp [0, 1, 5, 6, 7, 8, 9, 10, 11, 12, 13, 14, 15, 16, 17, 18, 104, 178] a a' → sl a' 4 = .pointer (some ⟨w.heap.size, 0, none⟩) → w' = w.alloc (.cells (u32s (List.replicate 64 0)).toArray 283) → K .normal a' w') :
    (regionOf Tryz.f187 0).wp Tryz.prog K a w := by
  unfold Kp at hK; rw [blkFr_of hs]; clear hs; generalize sl a = u at *; clear a; have HK := Lib.hid hK; clear hK; conv => arg 2; whnf
  simp only [blkFr]
  go_wp2_with fail
  exact HK.out _ _  ⟨rfl, rfl⟩ (Kc rfl (Kc rfl (Kc rfl (Kc rfl (Kc rfl (Kc rfl (Kc rfl (Kc rfl (Kc rfl (Kc rfl (Kc rfl (Kc rfl (Kc rfl (Kc rfl (Kc rfl (Kc rfl (Kc rfl (Kc rfl (Kn _ _))))))))))))))))))) (rfl) rfl
theorem blkR13 (p : Nat) (v : S8) (a : Act) (w : World) (K : Exit → Act → World → Prop) (hs : Sz 195 a)
    (h0 : sl a 0 = .pointer (some ⟨p, 0, none⟩)) (hR : RU w p v.list)
    (hK : ∀ a' w', Sz 195 a' → Kp [0, 1, 4, 5, 6, 7, 8, 9, 10, 12, 13, 14, 15, 16, 17, 18, 104, 178] a a' → sl a' 11 = .pointer (some ⟨w.heap.size, 0, none⟩) → UB w' w.heap.size 201 v.list → Fr noB w w' → K .normal a' w') :
    (regionOf Tryz.f187 13).wp Tryz.prog K a w := by
  unfold Kp at hK; rw [blkFr_of hs]; clear hs; generalize sl a = u at *; clear a; have HK := Lib.hid hK; clear hK; conv => arg 2; whnf
  have c0 := hR.2 0 _ rfl
  have c1 := hR.2 1 _ rfl
  have c2 := hR.2 2 _ rfl
  have c3 := hR.2 3 _ rfl
  have c4 := hR.2 4 _ rfl
  have c5 := hR.2 5 _ rfl
  have c6 := hR.2 6 _ rfl
  have c7 := hR.2 7 _ rfl
  clear hR
  simp only [blkFr, h0]
  go_wp2_with fail
  exact HK.out _ _  ⟨rfl, rfl⟩ (Kc h0.symm (Kc rfl (Kc rfl (Kc rfl (Kc rfl (Kc rfl (Kc rfl (Kc rfl (Kc rfl (Kc rfl (Kc rfl (Kc rfl (Kc rfl (Kc rfl (Kc rfl (Kc rfl (Kc rfl (Kc rfl (Kn _ _))))))))))))))))))) (rfl) (Bk.new w _ (u32s v.list).toArray) ((Fr.refl _ _).alloc _)
theorem blkR20 (gh : Nat) (a0 b c d e f x y : UInt32) (a : Act) (w : World) (K : Exit → Act → World → Prop) (hs : Sz 195 a)
    (h11 : sl a 11 = .pointer (some ⟨gh, 0, none⟩)) (hU : UB w gh 201 [a0, b, c, d, e, f, x, y])
    (hK : ∀ a' w', Sz 195 a' → Kp [0, 1, 4, 5, 6, 7, 8, 9, 10, 11, 12, 13, 14, 15, 16, 17, 18, 104, 178] a a' → UB w' gh 201 [a0, a0, b, c, d, e, f, x] → Fr (oneB gh) w w' → K .normal a' w') :
    (regionOf Tryz.f187 20).wp Tryz.prog K a w := by
  unfold Kp at hK; rw [blkFr_of hs]; clear hs; generalize sl a = u at *; clear a; have HK := Lib.hid hK; clear hK; conv => arg 2; whnf
  obtain ⟨w3, hrun, hU3, hf3⟩ := run_shift w.drew gh a0 b c d e f x y hU
  have hf4 : Fr (oneB gh) w w3 := ((Fr.refl _ w).drew).trans hf3
  have hbk : Bk w gh 201 (u32s [a0, b, c, d, e, f, x, y]).toArray := hU
  clear hU hf3
  simp only [blkFr, h11]
  refine wp_region_still_tail 2 (by kernel_rfl) (by kernel_rfl) ?_
  simp only [List.take_succ_cons, List.take_zero, List.drop_succ_cons, List.drop_zero]
  repeat still_step
  refine wpStill_nil ?_
  refine wpList_copy_run rfl (.tmp 165) (.tmp 166) _ _ rfl hrun rfl rfl ?_
  refine wpList_nil ?_
  exact HK.out _ _  ⟨rfl, rfl⟩ (Kc rfl (Kc rfl (Kc rfl (Kc rfl (Kc rfl (Kc rfl (Kc rfl (Kc rfl (Kc rfl (Kc h11.symm (Kc rfl (Kc rfl (Kc rfl (Kc rfl (Kc rfl (Kc rfl (Kc rfl (Kc rfl (Kc rfl (Kn _ _))))))))))))))))))))  hU3 hf4
theorem blkR21 (gh : Nat) (x t : UInt32) (a : Act) (w : World) (K : Exit → Act → World → Prop) (hs : Sz 195 a)
    (h11 : sl a 11 = .pointer (some ⟨gh, 0, none⟩)) (h15 : sl a 15 = .int .u32 (t.toNat : Int)) (hx : w.cell? ⟨gh, 4, none⟩ = some (.int .u32 (x.toNat : Int))) (hfz : w.frozen? ⟨gh, 4, none⟩ = false)
    (hK : ∀ a' w', Sz 195 a' → Kp [0, 1, 4, 5, 6, 7, 8, 9, 10, 11, 12, 13, 14, 15, 16, 17, 18, 104, 178] a a' → w' = w.setCell ⟨gh, 4, none⟩ (.int .u32 ((x + t).toNat : Int)) → K .normal a' w') :
    (regionOf Tryz.f187 21).wp Tryz.prog K a w := by
  unfold Kp at hK; rw [blkFr_of hs]; clear hs; generalize sl a = u at *; clear a; have HK := Lib.hid hK; clear hK; conv => arg 2; whnf
  have xlx : (x.toNat : Int) ≤ 4294967295 := by have := x.toNat_lt; omega
  have xlt : (t.toNat : Int) ≤ 4294967295 := by have := t.toNat_lt; omega
  obtain ⟨r1, hr1⟩ : ∃ r, r = x + t := ⟨_, rfl⟩
  have s1 := addw x t
  rw [← hr1] at s1 HK
  clear hr1
  simp only [blkFr, h11, h15]
  go_wp2_with fail
  exact HK.out _ _  ⟨rfl, rfl⟩ (Kc rfl (Kc rfl (Kc rfl (Kc rfl (Kc rfl (Kc rfl (Kc rfl (Kc rfl (Kc rfl (Kc h11.symm (Kc rfl (Kc rfl (Kc rfl (Kc h15.symm (Kc rfl (Kc rfl (Kc rfl (Kc rfl (Kc rfl (Kn _ _))))))))))))))))))))  rfl
theorem blkR22 (gh : Nat) (t q : UInt32) (z : Value) (a : Act) (w : World) (K : Exit → Act → World → Prop) (hs : Sz 195 a)
    (h11 : sl a 11 = .pointer (some ⟨gh, 0, none⟩)) (h15 : sl a 15 = .int .u32 (t.toNat : Int)) (h16 : sl a 16 = .int .u32 (q.toNat : Int)) (hx : w.cell? ⟨gh, 0, none⟩ = some (z)) (hfz : w.frozen? ⟨gh, 0, none⟩ = false)
    (hK : ∀ a' w', Sz 195 a' → Kp [0, 1, 4, 5, 6, 7, 8, 9, 10, 11, 12, 13, 14, 15, 16, 17, 18, 104, 178] a a' → w' = w.setCell ⟨gh, 0, none⟩ (.int .u32 ((t + q).toNat : Int)) → K .normal a' w') :
    (regionOf Tryz.f187 22).wp Tryz.prog K a w := by
  unfold Kp at hK; rw [blkFr_of hs]; clear hs; generalize sl a = u at *; clear a; have HK := Lib.hid hK; clear hK; conv => arg 2; whnf
  have xlt : (t.toNat : Int) ≤ 4294967295 := by have := t.toNat_lt; omega
  have xlq : (q.toNat : Int) ≤ 4294967295 := by have := q.toNat_lt; omega
  obtain ⟨r1, hr1⟩ : ∃ r, r = t + q := ⟨_, rfl⟩
  have s1 := addw t q
  rw [← hr1] at s1 HK
  clear hr1
  simp only [blkFr, h11, h15, h16]
  go_wp2_with fail
  exact HK.out _ _  ⟨rfl, rfl⟩ (Kc rfl (Kc rfl (Kc rfl (Kc rfl (Kc rfl (Kc rfl (Kc rfl (Kc rfl (Kc rfl (Kc h11.symm (Kc rfl (Kc rfl (Kc rfl (Kc h15.symm (Kc h16.symm (Kc rfl (Kc rfl (Kc rfl (Kc rfl (Kn _ _))))))))))))))))))))  rfl
end Go.Proofs.YtcbkaiakdhiloacGreatDoor
