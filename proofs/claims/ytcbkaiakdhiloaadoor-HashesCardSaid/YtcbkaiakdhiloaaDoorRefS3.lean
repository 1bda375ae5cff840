/- The reference's Sum: the regions of a block's round that turn memory. -/
import Derived.Test.YtcbkaiakdhiloaaDoorRefS2
import Derived.Test.YtcbkaiakdhiloaaDoorRefSum0
set_option linter.unusedSimpArgs false
set_option linter.unusedVariables false
namespace Go.Proofs.YtcbkaiakdhiloaaDoor
open Go.RowKit Go.Proofs
attribute [local go_sem] bs_size bs_append bs_extract

set_option maxRecDepth 20000 in
set_option maxHeartbeats 1000000 in
theorem sumR21 (g c : Nat) (xs : List Nat) (a : Act) (w : World) (K : Exit → Act → World → Prop) (hs : Sz 319 a)
    (h7 : sl a 7 = .slice (some ⟨g, 0, none⟩) 8 c) (hR : RI w g xs) (hn : xs.length = 8)
    (hK : ∀ a' w', Sz 319 a' → Kp [0, 1, 4, 5, 7, 8, 9, 10, 11, 13, 14, 15, 16, 17, 18, 19, 278, 279] a a' → OI w' w.heap.size (sl a' 12) xs → Fr noB w w' → K .normal a' w') :
    (regionOf Tryd.f6 21).wp Tryd.prog K a w := by
  have hK2 : ∀ a' w', Sz 319 a' → KpU [0, 1, 4, 5, 7, 8, 9, 10, 11, 13, 14, 15, 16, 17, 18, 19, 278, 279] (sl a) a' → OI w' w.heap.size (sl a' 12) xs → Fr noB w w' → K .normal a' w' := hK
  clear hK
  rw [sumFr_of hs]
  clear hs
  generalize sl a = u at *
  clear a
  have HK := Lib.hid hK2
  clear hK2
  conv => arg 2; whnf
  obtain ⟨v', w3, hap, hO3, hg3, -⟩ := run_app_row w w.heap.size g c 8 xs (.slice none 0 0) [] (OI.nil _ _) hR hn (Nat.le_refl _) (by decide)
  rw [List.nil_append] at hO3
  have HO := Lib.hid hO3
  have hf3 : Fr noB w w3 := ⟨hg3.os, hg3.tape, hg3.output, hg3.size, fun k hk _ => hg3.block k hk (by simp [Value.ownBlock])⟩
  have Hf := Lib.hid hf3
  clear hO3 hf3 hg3 hR
  simp only [sumFr, h7]
  go_wp2_with (at_builtin
               go_must (refine wpList_append_run rfl (.const (.slice none 0 0)) (.tmp 153) _ _ rfl hap rfl rfl ?_))
  exact HK.out _ _  ⟨rfl, rfl⟩ (KpU.cons (rfl) (KpU.cons (rfl) (KpU.cons (rfl) (KpU.cons (rfl) (KpU.cons (h7.symm) (KpU.cons (rfl) (KpU.cons (rfl) (KpU.cons (rfl) (KpU.cons (rfl) (KpU.cons (rfl) (KpU.cons (rfl) (KpU.cons (rfl) (KpU.cons (rfl) (KpU.cons (rfl) (KpU.cons (rfl) (KpU.cons (rfl) (KpU.cons (rfl) (KpU.cons (rfl) (KpU.nil _ _)))))))))))))))))))  HO.out Hf.out

set_option maxRecDepth 20000 in
set_option maxHeartbeats 1000000 in
theorem sumR30 (g c : Nat) (X : Int) (p m e0 e1 e2 e3 e4 e5 e6 na ne : UInt32) (a : Act) (w : World) (K : Exit → Act → World → Prop) (hs : Sz 319 a)
    (h12 : sl a 12 = .slice (some ⟨g, 0, none⟩) 8 c) (h16 : sl a 16 = .int .i64 X) (h17 : sl a 17 = .int .i64 (p.toNat : Int)) (h18 : sl a 18 = .int .i64 (m.toNat : Int)) (hX0 : 0 ≤ X) (hX1 : X ≤ 100000000000) (hna : (X + (p.toNat : Int) + (m.toNat : Int)) % 4294967296 = (na.toNat : Int)) (hne : ((e3.toNat : Int) + X) % 4294967296 = (ne.toNat : Int)) (h_0 : w.cell? ⟨g, 0, none⟩ = some (.int .i64 (e0.toNat : Int))) (h_1 : w.cell? ⟨g, 1, none⟩ = some (.int .i64 (e1.toNat : Int))) (h_2 : w.cell? ⟨g, 2, none⟩ = some (.int .i64 (e2.toNat : Int))) (h_3 : w.cell? ⟨g, 3, none⟩ = some (.int .i64 (e3.toNat : Int))) (h_4 : w.cell? ⟨g, 4, none⟩ = some (.int .i64 (e4.toNat : Int))) (h_5 : w.cell? ⟨g, 5, none⟩ = some (.int .i64 (e5.toNat : Int))) (h_6 : w.cell? ⟨g, 6, none⟩ = some (.int .i64 (e6.toNat : Int)))
    (hK : ∀ a' w', Sz 319 a' → Kp [0, 1, 4, 5, 7, 8, 9, 10, 11, 13, 14, 15, 16, 17, 18, 19, 278, 279] a a' → sl a' 12 = .slice (some ⟨w.heap.size, 0, none⟩) 8 8 → IB w' w.heap.size [na.toNat, e0.toNat, e1.toNat, e2.toNat, ne.toNat, e4.toNat, e5.toNat, e6.toNat] → Fr noB w w' → K .normal a' w') :
    (regionOf Tryd.f6 30).wp Tryd.prog K a w := by
  have hK2 : ∀ a' w', Sz 319 a' → KpU [0, 1, 4, 5, 7, 8, 9, 10, 11, 13, 14, 15, 16, 17, 18, 19, 278, 279] (sl a) a' → sl a' 12 = .slice (some ⟨w.heap.size, 0, none⟩) 8 8 → IB w' w.heap.size [na.toNat, e0.toNat, e1.toNat, e2.toNat, ne.toNat, e4.toNat, e5.toNat, e6.toNat] → Fr noB w w' → K .normal a' w' := hK
  clear hK
  rw [sumFr_of hs]
  clear hs
  generalize sl a = u at *
  clear a
  have HK := Lib.hid hK2
  clear hK2
  conv => arg 2; whnf
  have xlp : (p.toNat : Int) ≤ 4294967295 := by have := p.toNat_lt; omega
  have xlm : (m.toNat : Int) ≤ 4294967295 := by have := m.toNat_lt; omega
  have xle3 : (e3.toNat : Int) ≤ 4294967295 := by have := e3.toNat_lt; omega
  have c0 : ∀ w4, w4 = w.drew → w4.cell? ⟨g, 0, none⟩ = some (.int .i64 (e0.toNat : Int)) := by rintro w4 rfl; exact h_0
  have c1 : ∀ w4, w4 = w.drew → w4.cell? ⟨g, 1, none⟩ = some (.int .i64 (e1.toNat : Int)) := by rintro w4 rfl; exact h_1
  have c2 : ∀ w4, w4 = w.drew → w4.cell? ⟨g, 2, none⟩ = some (.int .i64 (e2.toNat : Int)) := by rintro w4 rfl; exact h_2
  have c3 : ∀ w4, w4 = w.drew → w4.cell? ⟨g, 3, none⟩ = some (.int .i64 (e3.toNat : Int)) := by rintro w4 rfl; exact h_3
  have c4 : ∀ w4, w4 = w.drew → w4.cell? ⟨g, 4, none⟩ = some (.int .i64 (e4.toNat : Int)) := by rintro w4 rfl; exact h_4
  have c5 : ∀ w4, w4 = w.drew → w4.cell? ⟨g, 5, none⟩ = some (.int .i64 (e5.toNat : Int)) := by rintro w4 rfl; exact h_5
  have c6 : ∀ w4, w4 = w.drew → w4.cell? ⟨g, 6, none⟩ = some (.int .i64 (e6.toNat : Int)) := by rintro w4 rfl; exact h_6
  clear h_0 h_1 h_2 h_3 h_4 h_5 h_6
  obtain ⟨wX, hXe⟩ : ∃ z, z = (w.alloc (.cells (ints [na.toNat, e0.toNat, e1.toNat, e2.toNat, ne.toNat, e4.toNat, e5.toNat, e6.toNat]).toArray 3)).drew := ⟨_, rfl⟩
  have HXe := Lib.hid hXe
  clear hXe
  simp only [sumFr, h12, h16, h17, h18]
  clear h12
  obtain ⟨V, hV⟩ : ∃ V : Nat → Value, V = (fun jj => match jj with | 0 => .int .i64 X | 1 => .int .i64 (p.toNat : Int) | 2 => .int .i64 (X + (p.toNat : Int)) | 3 => .int .i64 (m.toNat : Int) | 4 => .int .i64 (X + (p.toNat : Int) + (m.toNat : Int)) | 5 => .int .i64 (na.toNat : Int) | 6 => .slice (some ⟨g, 0, none⟩) 8 c | 7 => .pointer (some ⟨g, 0, none⟩) | 8 => .int .i64 (e0.toNat : Int) | 9 => .slice (some ⟨g, 0, none⟩) 8 c | 10 => .pointer (some ⟨g, 1, none⟩) | 11 => .int .i64 (e1.toNat : Int) | 12 => .slice (some ⟨g, 0, none⟩) 8 c | 13 => .pointer (some ⟨g, 2, none⟩) | 14 => .int .i64 (e2.toNat : Int) | 15 => .slice (some ⟨g, 0, none⟩) 8 c | 16 => .pointer (some ⟨g, 3, none⟩) | 17 => .int .i64 (e3.toNat : Int) | 18 => .int .i64 X | 19 => .int .i64 ((e3.toNat : Int) + X) | 20 => .int .i64 (ne.toNat : Int) | 21 => .slice (some ⟨g, 0, none⟩) 8 c | 22 => .pointer (some ⟨g, 4, none⟩) | 23 => .int .i64 (e4.toNat : Int) | 24 => .slice (some ⟨g, 0, none⟩) 8 c | 25 => .pointer (some ⟨g, 5, none⟩) | 26 => .int .i64 (e5.toNat : Int) | 27 => .slice (some ⟨g, 0, none⟩) 8 c | 28 => .pointer (some ⟨g, 6, none⟩) | 29 => .int .i64 (e6.toNat : Int) | 30 => .slice (some ⟨w.heap.size, 0, none⟩) 8 8 | 31 => .slice (some ⟨w.heap.size, 0, none⟩) 8 8 | _ => undef) := ⟨_, rfl⟩
  have q_0 : V 0 = .int .i64 X := congrFun hV 0
  have q_1 : V 1 = .int .i64 (p.toNat : Int) := congrFun hV 1
  have q_2 : V 2 = .int .i64 (X + (p.toNat : Int)) := congrFun hV 2
  have q_3 : V 3 = .int .i64 (m.toNat : Int) := congrFun hV 3
  have q_4 : V 4 = .int .i64 (X + (p.toNat : Int) + (m.toNat : Int)) := congrFun hV 4
  have q_5 : V 5 = .int .i64 (na.toNat : Int) := congrFun hV 5
  have q_6 : V 6 = .slice (some ⟨g, 0, none⟩) 8 c := congrFun hV 6
  have q_7 : V 7 = .pointer (some ⟨g, 0, none⟩) := congrFun hV 7
  have q_8 : V 8 = .int .i64 (e0.toNat : Int) := congrFun hV 8
  have q_9 : V 9 = .slice (some ⟨g, 0, none⟩) 8 c := congrFun hV 9
  have q_10 : V 10 = .pointer (some ⟨g, 1, none⟩) := congrFun hV 10
  have q_11 : V 11 = .int .i64 (e1.toNat : Int) := congrFun hV 11
  have q_12 : V 12 = .slice (some ⟨g, 0, none⟩) 8 c := congrFun hV 12
  have q_13 : V 13 = .pointer (some ⟨g, 2, none⟩) := congrFun hV 13
  have q_14 : V 14 = .int .i64 (e2.toNat : Int) := congrFun hV 14
  have q_15 : V 15 = .slice (some ⟨g, 0, none⟩) 8 c := congrFun hV 15
  have q_16 : V 16 = .pointer (some ⟨g, 3, none⟩) := congrFun hV 16
  have q_17 : V 17 = .int .i64 (e3.toNat : Int) := congrFun hV 17
  have q_18 : V 18 = .int .i64 X := congrFun hV 18
  have q_19 : V 19 = .int .i64 ((e3.toNat : Int) + X) := congrFun hV 19
  have q_20 : V 20 = .int .i64 (ne.toNat : Int) := congrFun hV 20
  have q_21 : V 21 = .slice (some ⟨g, 0, none⟩) 8 c := congrFun hV 21
  have q_22 : V 22 = .pointer (some ⟨g, 4, none⟩) := congrFun hV 22
  have q_23 : V 23 = .int .i64 (e4.toNat : Int) := congrFun hV 23
  have q_24 : V 24 = .slice (some ⟨g, 0, none⟩) 8 c := congrFun hV 24
  have q_25 : V 25 = .pointer (some ⟨g, 5, none⟩) := congrFun hV 25
  have q_26 : V 26 = .int .i64 (e5.toNat : Int) := congrFun hV 26
  have q_27 : V 27 = .slice (some ⟨g, 0, none⟩) 8 c := congrFun hV 27
  have q_28 : V 28 = .pointer (some ⟨g, 6, none⟩) := congrFun hV 28
  have q_29 : V 29 = .int .i64 (e6.toNat : Int) := congrFun hV 29
  have q_30 : V 30 = .slice (some ⟨w.heap.size, 0, none⟩) 8 8 := congrFun hV 30
  have q_31 : V 31 = .slice (some ⟨w.heap.size, 0, none⟩) 8 8 := congrFun hV 31
  clear hV
  refine wp_region_ssac (by kernel_rfl) (by kernel_rfl) (by kernel_rfl)
    (fun y => ⟨List.toArray (u 0 :: u 1 :: u 2 :: u 3 :: u 4 :: u 5 :: u 6 :: u 7 :: u 8 :: u 9 :: u 10 :: u 11 :: y 31 :: u 13 :: u 14 :: u 15 :: .int .i64 X :: .int .i64 (p.toNat : Int) :: .int .i64 (m.toNat : Int) :: u 19 :: u 20 :: u 21 :: u 22 :: u 23 :: u 24 :: u 25 :: u 26 :: u 27 :: u 28 :: u 29 :: u 30 :: u 31 :: u 32 :: u 33 :: u 34 :: u 35 :: u 36 :: u 37 :: u 38 :: u 39 :: u 40 :: u 41 :: u 42 :: u 43 :: u 44 :: u 45 :: u 46 :: u 47 :: u 48 :: u 49 :: u 50 :: u 51 :: u 52 :: u 53 :: u 54 :: u 55 :: u 56 :: u 57 :: u 58 :: u 59 :: u 60 :: u 61 :: u 62 :: u 63 :: u 64 :: u 65 :: u 66 :: u 67 :: u 68 :: u 69 :: u 70 :: u 71 :: u 72 :: u 73 :: u 74 :: u 75 :: u 76 :: u 77 :: u 78 :: u 79 :: u 80 :: u 81 :: u 82 :: u 83 :: u 84 :: u 85 :: u 86 :: u 87 :: u 88 :: u 89 :: u 90 :: u 91 :: u 92 :: u 93 :: u 94 :: u 95 :: u 96 :: u 97 :: u 98 :: u 99 :: u 100 :: u 101 :: u 102 :: u 103 :: u 104 :: u 105 :: u 106 :: u 107 :: u 108 :: u 109 :: u 110 :: u 111 :: u 112 :: u 113 :: u 114 :: u 115 :: u 116 :: u 117 :: u 118 :: u 119 :: u 120 :: u 121 :: u 122 :: u 123 :: u 124 :: u 125 :: u 126 :: u 127 :: u 128 :: u 129 :: u 130 :: u 131 :: u 132 :: u 133 :: u 134 :: u 135 :: u 136 :: u 137 :: u 138 :: u 139 :: u 140 :: u 141 :: u 142 :: u 143 :: u 144 :: u 145 :: u 146 :: u 147 :: u 148 :: u 149 :: u 150 :: u 151 :: u 152 :: u 153 :: u 154 :: u 155 :: u 156 :: u 157 :: u 158 :: u 159 :: u 160 :: u 161 :: u 162 :: u 163 :: u 164 :: u 165 :: u 166 :: u 167 :: u 168 :: u 169 :: u 170 :: u 171 :: u 172 :: u 173 :: u 174 :: u 175 :: u 176 :: u 177 :: u 178 :: u 179 :: u 180 :: u 181 :: u 182 :: u 183 :: u 184 :: u 185 :: u 186 :: u 187 :: u 188 :: u 189 :: u 190 :: u 191 :: u 192 :: u 193 :: u 194 :: u 195 :: u 196 :: u 197 :: u 198 :: u 199 :: u 200 :: u 201 :: u 202 :: u 203 :: u 204 :: u 205 :: u 206 :: u 207 :: u 208 :: u 209 :: u 210 :: u 211 :: u 212 :: u 213 :: u 214 :: u 215 :: u 216 :: u 217 :: u 218 :: u 219 :: u 220 :: u 221 :: u 222 :: u 223 :: u 224 :: u 225 :: u 226 :: u 227 :: u 228 :: u 229 :: u 230 :: u 231 :: u 232 :: u 233 :: u 234 :: u 235 :: u 236 :: u 237 :: u 238 :: u 239 :: u 240 :: u 241 :: u 242 :: u 243 :: u 244 :: u 245 :: y 0 :: y 1 :: y 2 :: y 3 :: y 4 :: y 5 :: y 6 :: y 7 :: y 8 :: y 9 :: y 10 :: y 11 :: y 12 :: y 13 :: y 14 :: y 15 :: y 16 :: y 17 :: y 18 :: y 19 :: y 20 :: y 21 :: y 22 :: y 23 :: y 24 :: y 25 :: y 26 :: y 27 :: y 28 :: y 29 :: y 30 :: u 277 :: u 278 :: u 279 :: u 280 :: u 281 :: u 282 :: u 283 :: u 284 :: u 285 :: u 286 :: u 287 :: u 288 :: u 289 :: u 290 :: u 291 :: u 292 :: u 293 :: u 294 :: u 295 :: u 296 :: u 297 :: u 298 :: u 299 :: u 300 :: u 301 :: u 302 :: u 303 :: u 304 :: u 305 :: u 306 :: u 307 :: u 308 :: u 309 :: u 310 :: u 311 :: u 312 :: u 313 :: u 314 :: u 315 :: u 316 :: u 317 :: u 318 :: []), []⟩)
    (fun j v _ => if j = 30 then v = V j else v = V j)
    (fun L y w4 => (L 31 = false → y 31 = .slice (some ⟨g, 0, none⟩) 8 c) ∧ w4 = if L 30 = true then wX else w.drew) (fun j => (([u 246, u 247, u 248, u 249, u 250, u 251, u 252, u 253, u 254, u 255, u 256, u 257, u 258, u 259, u 260, u 261, u 262, u 263, u 264, u 265, u 266, u 267, u 268, u 269, u 270, u 271, u 272, u 273, u 274, u 275, u 276, .slice (some ⟨g, 0, none⟩) 8 c] : List Value).getD j undef)) ⟨fun _ => rfl, rfl⟩ ?_ ?_
  · rintro L y w4 i o hcl ⟨hI, hG⟩ hΦ ho hL hd K2 hK2
    match i, ho with
    | 0, ho =>
      simp at ho; subst ho
      have HG := Lib.hid hG
      clear hΦ hd hG
      first | go_big_move | go_big_op
      exact hK2 _ _ (by first | exact q_0.symm | (rw [q_0]; first | assumption | exact hy)) ⟨hI, HG.out⟩ (fun _ _ _ h => h)
    | 1, ho =>
      simp at ho; subst ho
      have HG := Lib.hid hG
      clear hΦ hd hG
      first | go_big_move | go_big_op
      exact hK2 _ _ (by first | exact q_1.symm | (rw [q_1]; first | assumption | exact hy)) ⟨hI, HG.out⟩ (fun _ _ _ h => h)
    | 2, ho =>
      simp at ho; subst ho
      have hu0 := hΦ 0 (hd ⟨0, .data⟩ (by simp) (by rfl))
      simp only [reduceIte, Nat.reduceEqDiff] at hu0
      rw [q_0] at hu0
      have hu1 := hΦ 1 (hd ⟨1, .data⟩ (by simp) (by rfl))
      simp only [reduceIte, Nat.reduceEqDiff] at hu1
      rw [q_1] at hu1
      have HG := Lib.hid hG
      clear hΦ hd hG
      first | go_big_move | go_big_op
      exact hK2 _ _ (by first | exact q_2.symm | (rw [q_2]; first | assumption | exact hy)) ⟨hI, HG.out⟩ (fun _ _ _ h => h)
    | 3, ho =>
      simp at ho; subst ho
      have HG := Lib.hid hG
      clear hΦ hd hG
      first | go_big_move | go_big_op
      exact hK2 _ _ (by first | exact q_3.symm | (rw [q_3]; first | assumption | exact hy)) ⟨hI, HG.out⟩ (fun _ _ _ h => h)
    | 4, ho =>
      simp at ho; subst ho
      have hu2 := hΦ 2 (hd ⟨2, .data⟩ (by simp) (by rfl))
      simp only [reduceIte, Nat.reduceEqDiff] at hu2
      rw [q_2] at hu2
      have hu3 := hΦ 3 (hd ⟨3, .data⟩ (by simp) (by rfl))
      simp only [reduceIte, Nat.reduceEqDiff] at hu3
      rw [q_3] at hu3
      have HG := Lib.hid hG
      clear hΦ hd hG
      first | go_big_move | go_big_op
      exact hK2 _ _ (by first | exact q_4.symm | (rw [q_4]; first | assumption | exact hy)) ⟨hI, HG.out⟩ (fun _ _ _ h => h)
    | 5, ho =>
      simp at ho; subst ho
      have hu4 := hΦ 4 (hd ⟨4, .data⟩ (by simp) (by rfl))
      simp only [reduceIte, Nat.reduceEqDiff] at hu4
      rw [q_4] at hu4
      have HG := Lib.hid hG
      clear hΦ hd hG
      first | go_big_move | go_big_op
      exact hK2 _ _ (by first | (rw [q_5]; exact congrArg (Value.int IntKind.i64) hna) | exact q_5.symm | (rw [q_5]; first | assumption | exact hy)) ⟨hI, HG.out⟩ (fun _ _ _ h => h)
    | 6, ho =>
      simp at ho; subst ho
      have HG := Lib.hid hG
      clear hΦ hd hG
      first | go_big_move | go_big_op
      have hnl : L 31 = false := by cases h : L 31 with | false => rfl | true => exact (by rw [(hcl.dep 7 6 (hcl.dep 8 7 (hcl.dep 30 8 (hcl.dep 31 30 h (by rfl)) (by rfl)) (by rfl)) (by rfl))] at hL; cases hL)
      have hy := hI hnl
      exact hK2 _ _ (by first | exact q_6.symm | (rw [q_6]; first | assumption | exact hy)) ⟨hI, HG.out⟩ (fun _ _ _ h => h)
    | 7, ho =>
      simp at ho; subst ho
      have hu6 := hΦ 6 (hd ⟨6, .data⟩ (by simp) (by rfl))
      simp only [reduceIte, Nat.reduceEqDiff] at hu6
      rw [q_6] at hu6
      have HG := Lib.hid hG
      clear hΦ hd hG
      first | go_big_move | go_big_op
      exact hK2 _ _ (by first | exact q_7.symm | (rw [q_7]; first | assumption | exact hy)) ⟨hI, HG.out⟩ (fun _ _ _ h => h)
    | 8, ho =>
      simp at ho; subst ho
      have hu7 := hΦ 7 (hd ⟨7, .data⟩ (by simp) (by rfl))
      simp only [reduceIte, Nat.reduceEqDiff] at hu7
      rw [q_7] at hu7
      have HG := Lib.hid hG
      have hna : ¬ L 30 = true := fun h => by have h2 := (hcl.dep 30 8 h (by rfl)); rw [hL] at h2; cases h2
      rw [if_neg hna] at hG
      have hcell := c0 w4 hG
      clear hΦ hd hG
      first | go_big_move | go_big_op
      exact hK2 _ _ (by first | exact q_8.symm | (rw [q_8]; first | assumption | exact hy)) ⟨hI, HG.out⟩ (fun _ _ _ h => h)
    | 9, ho =>
      simp at ho; subst ho
      have HG := Lib.hid hG
      clear hΦ hd hG
      first | go_big_move | go_big_op
      have hnl : L 31 = false := by cases h : L 31 with | false => rfl | true => exact (by rw [(hcl.dep 10 9 (hcl.dep 11 10 (hcl.dep 30 11 (hcl.dep 31 30 h (by rfl)) (by rfl)) (by rfl)) (by rfl))] at hL; cases hL)
      have hy := hI hnl
      exact hK2 _ _ (by first | exact q_9.symm | (rw [q_9]; first | assumption | exact hy)) ⟨hI, HG.out⟩ (fun _ _ _ h => h)
    | 10, ho =>
      simp at ho; subst ho
      have hu9 := hΦ 9 (hd ⟨9, .data⟩ (by simp) (by rfl))
      simp only [reduceIte, Nat.reduceEqDiff] at hu9
      rw [q_9] at hu9
      have HG := Lib.hid hG
      clear hΦ hd hG
      first | go_big_move | go_big_op
      exact hK2 _ _ (by first | exact q_10.symm | (rw [q_10]; first | assumption | exact hy)) ⟨hI, HG.out⟩ (fun _ _ _ h => h)
    | 11, ho =>
      simp at ho; subst ho
      have hu10 := hΦ 10 (hd ⟨10, .data⟩ (by simp) (by rfl))
      simp only [reduceIte, Nat.reduceEqDiff] at hu10
      rw [q_10] at hu10
      have HG := Lib.hid hG
      have hna : ¬ L 30 = true := fun h => by have h2 := (hcl.dep 30 11 h (by rfl)); rw [hL] at h2; cases h2
      rw [if_neg hna] at hG
      have hcell := c1 w4 hG
      clear hΦ hd hG
      first | go_big_move | go_big_op
      exact hK2 _ _ (by first | exact q_11.symm | (rw [q_11]; first | assumption | exact hy)) ⟨hI, HG.out⟩ (fun _ _ _ h => h)
    | 12, ho =>
      simp at ho; subst ho
      have HG := Lib.hid hG
      clear hΦ hd hG
      first | go_big_move | go_big_op
      have hnl : L 31 = false := by cases h : L 31 with | false => rfl | true => exact (by rw [(hcl.dep 13 12 (hcl.dep 14 13 (hcl.dep 30 14 (hcl.dep 31 30 h (by rfl)) (by rfl)) (by rfl)) (by rfl))] at hL; cases hL)
      have hy := hI hnl
      exact hK2 _ _ (by first | exact q_12.symm | (rw [q_12]; first | assumption | exact hy)) ⟨hI, HG.out⟩ (fun _ _ _ h => h)
    | 13, ho =>
      simp at ho; subst ho
      have hu12 := hΦ 12 (hd ⟨12, .data⟩ (by simp) (by rfl))
      simp only [reduceIte, Nat.reduceEqDiff] at hu12
      rw [q_12] at hu12
      have HG := Lib.hid hG
      clear hΦ hd hG
      first | go_big_move | go_big_op
      exact hK2 _ _ (by first | exact q_13.symm | (rw [q_13]; first | assumption | exact hy)) ⟨hI, HG.out⟩ (fun _ _ _ h => h)
    | 14, ho =>
      simp at ho; subst ho
      have hu13 := hΦ 13 (hd ⟨13, .data⟩ (by simp) (by rfl))
      simp only [reduceIte, Nat.reduceEqDiff] at hu13
      rw [q_13] at hu13
      have HG := Lib.hid hG
      have hna : ¬ L 30 = true := fun h => by have h2 := (hcl.dep 30 14 h (by rfl)); rw [hL] at h2; cases h2
      rw [if_neg hna] at hG
      have hcell := c2 w4 hG
      clear hΦ hd hG
      first | go_big_move | go_big_op
      exact hK2 _ _ (by first | exact q_14.symm | (rw [q_14]; first | assumption | exact hy)) ⟨hI, HG.out⟩ (fun _ _ _ h => h)
    | 15, ho =>
      simp at ho; subst ho
      have HG := Lib.hid hG
      clear hΦ hd hG
      first | go_big_move | go_big_op
      have hnl : L 31 = false := by cases h : L 31 with | false => rfl | true => exact (by rw [(hcl.dep 16 15 (hcl.dep 17 16 (hcl.dep 19 17 (hcl.dep 20 19 (hcl.dep 30 20 (hcl.dep 31 30 h (by rfl)) (by rfl)) (by rfl)) (by rfl)) (by rfl)) (by rfl))] at hL; cases hL)
      have hy := hI hnl
      exact hK2 _ _ (by first | exact q_15.symm | (rw [q_15]; first | assumption | exact hy)) ⟨hI, HG.out⟩ (fun _ _ _ h => h)
    | 16, ho =>
      simp at ho; subst ho
      have hu15 := hΦ 15 (hd ⟨15, .data⟩ (by simp) (by rfl))
      simp only [reduceIte, Nat.reduceEqDiff] at hu15
      rw [q_15] at hu15
      have HG := Lib.hid hG
      clear hΦ hd hG
      first | go_big_move | go_big_op
      exact hK2 _ _ (by first | exact q_16.symm | (rw [q_16]; first | assumption | exact hy)) ⟨hI, HG.out⟩ (fun _ _ _ h => h)
    | 17, ho =>
      simp at ho; subst ho
      have hu16 := hΦ 16 (hd ⟨16, .data⟩ (by simp) (by rfl))
      simp only [reduceIte, Nat.reduceEqDiff] at hu16
      rw [q_16] at hu16
      have HG := Lib.hid hG
      have hna : ¬ L 30 = true := fun h => by have h2 := (hcl.dep 19 17 (hcl.dep 20 19 (hcl.dep 30 20 h (by rfl)) (by rfl)) (by rfl)); rw [hL] at h2; cases h2
      rw [if_neg hna] at hG
      have hcell := c3 w4 hG
      clear hΦ hd hG
      first | go_big_move | go_big_op
      exact hK2 _ _ (by first | exact q_17.symm | (rw [q_17]; first | assumption | exact hy)) ⟨hI, HG.out⟩ (fun _ _ _ h => h)
    | 18, ho =>
      simp at ho; subst ho
      have HG := Lib.hid hG
      clear hΦ hd hG
      first | go_big_move | go_big_op
      exact hK2 _ _ (by first | exact q_18.symm | (rw [q_18]; first | assumption | exact hy)) ⟨hI, HG.out⟩ (fun _ _ _ h => h)
    | 19, ho =>
      simp at ho; subst ho
      have hu17 := hΦ 17 (hd ⟨17, .data⟩ (by simp) (by rfl))
      simp only [reduceIte, Nat.reduceEqDiff] at hu17
      rw [q_17] at hu17
      have hu18 := hΦ 18 (hd ⟨18, .data⟩ (by simp) (by rfl))
      simp only [reduceIte, Nat.reduceEqDiff] at hu18
      rw [q_18] at hu18
      have HG := Lib.hid hG
      clear hΦ hd hG
      first | go_big_move | go_big_op
      exact hK2 _ _ (by first | exact q_19.symm | (rw [q_19]; first | assumption | exact hy)) ⟨hI, HG.out⟩ (fun _ _ _ h => h)
    | 20, ho =>
      simp at ho; subst ho
      have hu19 := hΦ 19 (hd ⟨19, .data⟩ (by simp) (by rfl))
      simp only [reduceIte, Nat.reduceEqDiff] at hu19
      rw [q_19] at hu19
      have HG := Lib.hid hG
      clear hΦ hd hG
      first | go_big_move | go_big_op
      exact hK2 _ _ (by first | (rw [q_20]; exact congrArg (Value.int IntKind.i64) hne) | exact q_20.symm | (rw [q_20]; first | assumption | exact hy)) ⟨hI, HG.out⟩ (fun _ _ _ h => h)
    | 21, ho =>
      simp at ho; subst ho
      have HG := Lib.hid hG
      clear hΦ hd hG
      first | go_big_move | go_big_op
      have hnl : L 31 = false := by cases h : L 31 with | false => rfl | true => exact (by rw [(hcl.dep 22 21 (hcl.dep 23 22 (hcl.dep 30 23 (hcl.dep 31 30 h (by rfl)) (by rfl)) (by rfl)) (by rfl))] at hL; cases hL)
      have hy := hI hnl
      exact hK2 _ _ (by first | exact q_21.symm | (rw [q_21]; first | assumption | exact hy)) ⟨hI, HG.out⟩ (fun _ _ _ h => h)
    | 22, ho =>
      simp at ho; subst ho
      have hu21 := hΦ 21 (hd ⟨21, .data⟩ (by simp) (by rfl))
      simp only [reduceIte, Nat.reduceEqDiff] at hu21
      rw [q_21] at hu21
      have HG := Lib.hid hG
      clear hΦ hd hG
      first | go_big_move | go_big_op
      exact hK2 _ _ (by first | exact q_22.symm | (rw [q_22]; first | assumption | exact hy)) ⟨hI, HG.out⟩ (fun _ _ _ h => h)
    | 23, ho =>
      simp at ho; subst ho
      have hu22 := hΦ 22 (hd ⟨22, .data⟩ (by simp) (by rfl))
      simp only [reduceIte, Nat.reduceEqDiff] at hu22
      rw [q_22] at hu22
      have HG := Lib.hid hG
      have hna : ¬ L 30 = true := fun h => by have h2 := (hcl.dep 30 23 h (by rfl)); rw [hL] at h2; cases h2
      rw [if_neg hna] at hG
      have hcell := c4 w4 hG
      clear hΦ hd hG
      first | go_big_move | go_big_op
      exact hK2 _ _ (by first | exact q_23.symm | (rw [q_23]; first | assumption | exact hy)) ⟨hI, HG.out⟩ (fun _ _ _ h => h)
    | 24, ho =>
      simp at ho; subst ho
      have HG := Lib.hid hG
      clear hΦ hd hG
      first | go_big_move | go_big_op
      have hnl : L 31 = false := by cases h : L 31 with | false => rfl | true => exact (by rw [(hcl.dep 25 24 (hcl.dep 26 25 (hcl.dep 30 26 (hcl.dep 31 30 h (by rfl)) (by rfl)) (by rfl)) (by rfl))] at hL; cases hL)
      have hy := hI hnl
      exact hK2 _ _ (by first | exact q_24.symm | (rw [q_24]; first | assumption | exact hy)) ⟨hI, HG.out⟩ (fun _ _ _ h => h)
    | 25, ho =>
      simp at ho; subst ho
      have hu24 := hΦ 24 (hd ⟨24, .data⟩ (by simp) (by rfl))
      simp only [reduceIte, Nat.reduceEqDiff] at hu24
      rw [q_24] at hu24
      have HG := Lib.hid hG
      clear hΦ hd hG
      first | go_big_move | go_big_op
      exact hK2 _ _ (by first | exact q_25.symm | (rw [q_25]; first | assumption | exact hy)) ⟨hI, HG.out⟩ (fun _ _ _ h => h)
    | 26, ho =>
      simp at ho; subst ho
      have hu25 := hΦ 25 (hd ⟨25, .data⟩ (by simp) (by rfl))
      simp only [reduceIte, Nat.reduceEqDiff] at hu25
      rw [q_25] at hu25
      have HG := Lib.hid hG
      have hna : ¬ L 30 = true := fun h => by have h2 := (hcl.dep 30 26 h (by rfl)); rw [hL] at h2; cases h2
      rw [if_neg hna] at hG
      have hcell := c5 w4 hG
      clear hΦ hd hG
      first | go_big_move | go_big_op
      exact hK2 _ _ (by first | exact q_26.symm | (rw [q_26]; first | assumption | exact hy)) ⟨hI, HG.out⟩ (fun _ _ _ h => h)
    | 27, ho =>
      simp at ho; subst ho
      have HG := Lib.hid hG
      clear hΦ hd hG
      first | go_big_move | go_big_op
      have hnl : L 31 = false := by cases h : L 31 with | false => rfl | true => exact (by rw [(hcl.dep 28 27 (hcl.dep 29 28 (hcl.dep 30 29 (hcl.dep 31 30 h (by rfl)) (by rfl)) (by rfl)) (by rfl))] at hL; cases hL)
      have hy := hI hnl
      exact hK2 _ _ (by first | exact q_27.symm | (rw [q_27]; first | assumption | exact hy)) ⟨hI, HG.out⟩ (fun _ _ _ h => h)
    | 28, ho =>
      simp at ho; subst ho
      have hu27 := hΦ 27 (hd ⟨27, .data⟩ (by simp) (by rfl))
      simp only [reduceIte, Nat.reduceEqDiff] at hu27
      rw [q_27] at hu27
      have HG := Lib.hid hG
      clear hΦ hd hG
      first | go_big_move | go_big_op
      exact hK2 _ _ (by first | exact q_28.symm | (rw [q_28]; first | assumption | exact hy)) ⟨hI, HG.out⟩ (fun _ _ _ h => h)
    | 29, ho =>
      simp at ho; subst ho
      have hu28 := hΦ 28 (hd ⟨28, .data⟩ (by simp) (by rfl))
      simp only [reduceIte, Nat.reduceEqDiff] at hu28
      rw [q_28] at hu28
      have HG := Lib.hid hG
      have hna : ¬ L 30 = true := fun h => by have h2 := (hcl.dep 30 29 h (by rfl)); rw [hL] at h2; cases h2
      rw [if_neg hna] at hG
      have hcell := c6 w4 hG
      clear hΦ hd hG
      first | go_big_move | go_big_op
      exact hK2 _ _ (by first | exact q_29.symm | (rw [q_29]; first | assumption | exact hy)) ⟨hI, HG.out⟩ (fun _ _ _ h => h)
    | 30, ho =>
      simp at ho; subst ho
      have hu5 := hΦ 5 (hd ⟨5, .data⟩ (by simp) (by rfl))
      simp only [reduceIte, Nat.reduceEqDiff] at hu5
      rw [q_5] at hu5
      have hu8 := hΦ 8 (hd ⟨8, .data⟩ (by simp) (by rfl))
      simp only [reduceIte, Nat.reduceEqDiff] at hu8
      rw [q_8] at hu8
      have hu11 := hΦ 11 (hd ⟨11, .data⟩ (by simp) (by rfl))
      simp only [reduceIte, Nat.reduceEqDiff] at hu11
      rw [q_11] at hu11
      have hu14 := hΦ 14 (hd ⟨14, .data⟩ (by simp) (by rfl))
      simp only [reduceIte, Nat.reduceEqDiff] at hu14
      rw [q_14] at hu14
      have hu20 := hΦ 20 (hd ⟨20, .data⟩ (by simp) (by rfl))
      simp only [reduceIte, Nat.reduceEqDiff] at hu20
      rw [q_20] at hu20
      have hu23 := hΦ 23 (hd ⟨23, .data⟩ (by simp) (by rfl))
      simp only [reduceIte, Nat.reduceEqDiff] at hu23
      rw [q_23] at hu23
      have hu26 := hΦ 26 (hd ⟨26, .data⟩ (by simp) (by rfl))
      simp only [reduceIte, Nat.reduceEqDiff] at hu26
      rw [q_26] at hu26
      have hu29 := hΦ 29 (hd ⟨29, .data⟩ (by simp) (by rfl))
      simp only [reduceIte, Nat.reduceEqDiff] at hu29
      rw [q_29] at hu29
      rw [if_neg (by rw [hL]; decide)] at hG
      subst hG
      clear hΦ hd
      go_big_op
      refine hK2 _ _ q_30.symm ⟨hI, ?_⟩ (fun _ _ _ h => h)
      rw [if_pos (show mark L 30 30 = true from rfl), HXe.out]; try rfl
    | 31, ho =>
      simp at ho; subst ho
      have hu30 := hΦ 30 (hd ⟨30, .data⟩ (by simp) (by rfl))
      simp only [reduceIte, Nat.reduceEqDiff] at hu30
      rw [q_30] at hu30
      have HG := Lib.hid hG
      clear hΦ hd hG
      first | go_big_move | go_big_op
      exact hK2 _ _ (by first | exact q_31.symm | (rw [q_31]; first | assumption | exact hy)) ⟨(fun h => absurd (show (true : Bool) = false from h) (by decide)), HG.out⟩ (fun _ _ _ h => h)
  rintro y w4 hΦ L hall ⟨hI, hG⟩
  rw [if_pos (hall 30 (by decide))] at hG
  subst hG
  have hlast := hΦ 31 (by decide)
  simp only [reduceIte, Nat.reduceEqDiff] at hlast
  rw [q_31] at hlast
  exact HK.out _ _  ⟨rfl, rfl⟩ (KpU.cons (rfl) (KpU.cons (rfl) (KpU.cons (rfl) (KpU.cons (rfl) (KpU.cons (rfl) (KpU.cons (rfl) (KpU.cons (rfl) (KpU.cons (rfl) (KpU.cons (rfl) (KpU.cons (rfl) (KpU.cons (rfl) (KpU.cons (rfl) (KpU.cons (h16.symm) (KpU.cons (h17.symm) (KpU.cons (h18.symm) (KpU.cons (rfl) (KpU.cons (rfl) (KpU.cons (rfl) (KpU.nil _ _))))))))))))))))))) (hlast) (by rw [HXe.out]; exact Bk.new w _ _) (by rw [HXe.out]; exact ((Fr.refl noB w).alloc _).drew)

set_option maxRecDepth 20000 in
set_option maxHeartbeats 1000000 in
theorem sumR34 (g c gv cv i : Nat) (x y : UInt32) (a : Act) (w : World) (K : Exit → Act → World → Prop) (hs : Sz 319 a)
    (h7 : sl a 7 = .slice (some ⟨g, 0, none⟩) 8 c) (h12 : sl a 12 = .slice (some ⟨gv, 0, none⟩) 8 cv) (h19 : sl a 19 = .int .i64 (i : Int)) (hi : i < 8) (hx : w.cell? ⟨g, i, none⟩ = some (.int .i64 (x.toNat : Int))) (hy : w.cell? ⟨gv, i, none⟩ = some (.int .i64 (y.toNat : Int))) (hfz : w.frozen? ⟨g, i, none⟩ = false)
    (hK : ∀ a' w', Sz 319 a' → Kp [0, 1, 4, 5, 7, 8, 9, 10, 11, 12, 13, 14, 15, 16, 17, 18, 19, 278, 279] a a' → w' = w.drew.setCell ⟨g, i, none⟩ (.int .i64 ((x + y).toNat : Int)) → K .normal a' w') :
    (regionOf Tryd.f6 34).wp Tryd.prog K a w := by
  have hK2 : ∀ a' w', Sz 319 a' → KpU [0, 1, 4, 5, 7, 8, 9, 10, 11, 12, 13, 14, 15, 16, 17, 18, 19, 278, 279] (sl a) a' → w' = w.drew.setCell ⟨g, i, none⟩ (.int .i64 ((x + y).toNat : Int)) → K .normal a' w' := hK
  clear hK
  rw [sumFr_of hs]
  clear hs
  generalize sl a = u at *
  clear a
  have HK := Lib.hid hK2
  clear hK2
  conv => arg 2; whnf
  have xlx : (x.toNat : Int) ≤ 4294967295 := by have := x.toNat_lt; omega
  have xly : (y.toNat : Int) ≤ 4294967295 := by have := y.toNat_lt; omega
  obtain ⟨r, hr⟩ : ∃ r, r = x + y := ⟨_, rfl⟩
  have hrv := addw x y
  rw [← hr] at hrv
  have c0 : ∀ w4, w4 = w.drew → w4.cell? ⟨g, i, none⟩ = some (.int .i64 (x.toNat : Int)) := by rintro w4 rfl; exact hx
  have c1 : ∀ w4, w4 = w.drew → w4.cell? ⟨gv, i, none⟩ = some (.int .i64 (y.toNat : Int)) := by rintro w4 rfl; exact hy
  have hfz2 : w.drew.frozen? ⟨g, i, none⟩ = false := hfz
  have hcx : w.drew.cell? ⟨g, i, none⟩ = some (.int .i64 (x.toNat : Int)) := hx
  obtain ⟨wX, hXe⟩ : ∃ z, z = w.drew.setCell ⟨g, i, none⟩ (.int .i64 (r.toNat : Int)) := ⟨_, rfl⟩
  have HXe := Lib.hid hXe
  rw [← hr] at HK
  clear hXe hx hy hfz hr
  simp only [sumFr, h7, h12, h19]
  obtain ⟨V, hV⟩ : ∃ V : Nat → Value, V = (fun jj => match jj with | 0 => .slice (some ⟨g, 0, none⟩) 8 c | 1 => .int .i64 (i : Int) | 2 => .slice (some ⟨g, 0, none⟩) 8 c | 3 => .int .i64 (i : Int) | 4 => .pointer (some ⟨g, i, none⟩) | 5 => .int .i64 (x.toNat : Int) | 6 => .slice (some ⟨gv, 0, none⟩) 8 cv | 7 => .int .i64 (i : Int) | 8 => .pointer (some ⟨gv, i, none⟩) | 9 => .int .i64 (y.toNat : Int) | 10 => .int .i64 ((x.toNat : Int) + (y.toNat : Int)) | 11 => .int .i64 (r.toNat : Int) | 12 => .pointer (some ⟨g, i, none⟩) | _ => undef) := ⟨_, rfl⟩
  have q_0 : V 0 = .slice (some ⟨g, 0, none⟩) 8 c := congrFun hV 0
  have q_1 : V 1 = .int .i64 (i : Int) := congrFun hV 1
  have q_2 : V 2 = .slice (some ⟨g, 0, none⟩) 8 c := congrFun hV 2
  have q_3 : V 3 = .int .i64 (i : Int) := congrFun hV 3
  have q_4 : V 4 = .pointer (some ⟨g, i, none⟩) := congrFun hV 4
  have q_5 : V 5 = .int .i64 (x.toNat : Int) := congrFun hV 5
  have q_6 : V 6 = .slice (some ⟨gv, 0, none⟩) 8 cv := congrFun hV 6
  have q_7 : V 7 = .int .i64 (i : Int) := congrFun hV 7
  have q_8 : V 8 = .pointer (some ⟨gv, i, none⟩) := congrFun hV 8
  have q_9 : V 9 = .int .i64 (y.toNat : Int) := congrFun hV 9
  have q_10 : V 10 = .int .i64 ((x.toNat : Int) + (y.toNat : Int)) := congrFun hV 10
  have q_11 : V 11 = .int .i64 (r.toNat : Int) := congrFun hV 11
  have q_12 : V 12 = .pointer (some ⟨g, i, none⟩) := congrFun hV 12
  clear hV
  refine wp_region_ssac (by kernel_rfl) (by kernel_rfl) (by kernel_rfl)
    (fun y => ⟨List.toArray (u 0 :: u 1 :: u 2 :: u 3 :: u 4 :: u 5 :: u 6 :: .slice (some ⟨g, 0, none⟩) 8 c :: u 8 :: u 9 :: u 10 :: u 11 :: .slice (some ⟨gv, 0, none⟩) 8 cv :: u 13 :: u 14 :: u 15 :: u 16 :: u 17 :: u 18 :: .int .i64 (i : Int) :: u 20 :: u 21 :: u 22 :: u 23 :: u 24 :: u 25 :: u 26 :: u 27 :: u 28 :: u 29 :: u 30 :: u 31 :: u 32 :: u 33 :: u 34 :: u 35 :: u 36 :: u 37 :: u 38 :: u 39 :: u 40 :: u 41 :: u 42 :: u 43 :: u 44 :: u 45 :: u 46 :: u 47 :: u 48 :: u 49 :: u 50 :: u 51 :: u 52 :: u 53 :: u 54 :: u 55 :: u 56 :: u 57 :: u 58 :: u 59 :: u 60 :: u 61 :: u 62 :: u 63 :: u 64 :: u 65 :: u 66 :: u 67 :: u 68 :: u 69 :: u 70 :: u 71 :: u 72 :: u 73 :: u 74 :: u 75 :: u 76 :: u 77 :: u 78 :: u 79 :: u 80 :: u 81 :: u 82 :: u 83 :: u 84 :: u 85 :: u 86 :: u 87 :: u 88 :: u 89 :: u 90 :: u 91 :: u 92 :: u 93 :: u 94 :: u 95 :: u 96 :: u 97 :: u 98 :: u 99 :: u 100 :: u 101 :: u 102 :: u 103 :: u 104 :: u 105 :: u 106 :: u 107 :: u 108 :: u 109 :: u 110 :: u 111 :: u 112 :: u 113 :: u 114 :: u 115 :: u 116 :: u 117 :: u 118 :: u 119 :: u 120 :: u 121 :: u 122 :: u 123 :: u 124 :: u 125 :: u 126 :: u 127 :: u 128 :: u 129 :: u 130 :: u 131 :: u 132 :: u 133 :: u 134 :: u 135 :: u 136 :: u 137 :: u 138 :: u 139 :: u 140 :: u 141 :: u 142 :: u 143 :: u 144 :: u 145 :: u 146 :: u 147 :: u 148 :: u 149 :: u 150 :: u 151 :: u 152 :: u 153 :: u 154 :: u 155 :: u 156 :: u 157 :: u 158 :: u 159 :: u 160 :: u 161 :: u 162 :: u 163 :: u 164 :: u 165 :: u 166 :: u 167 :: u 168 :: u 169 :: u 170 :: u 171 :: u 172 :: u 173 :: u 174 :: u 175 :: u 176 :: u 177 :: u 178 :: u 179 :: u 180 :: u 181 :: u 182 :: u 183 :: u 184 :: u 185 :: u 186 :: u 187 :: u 188 :: u 189 :: u 190 :: u 191 :: u 192 :: u 193 :: u 194 :: u 195 :: u 196 :: u 197 :: u 198 :: u 199 :: u 200 :: u 201 :: u 202 :: u 203 :: u 204 :: u 205 :: u 206 :: u 207 :: u 208 :: u 209 :: u 210 :: u 211 :: u 212 :: u 213 :: u 214 :: u 215 :: u 216 :: u 217 :: u 218 :: u 219 :: u 220 :: u 221 :: u 222 :: u 223 :: u 224 :: u 225 :: u 226 :: u 227 :: u 228 :: u 229 :: u 230 :: u 231 :: u 232 :: u 233 :: u 234 :: u 235 :: u 236 :: u 237 :: u 238 :: u 239 :: u 240 :: u 241 :: u 242 :: u 243 :: u 244 :: u 245 :: u 246 :: u 247 :: u 248 :: u 249 :: u 250 :: u 251 :: u 252 :: u 253 :: u 254 :: u 255 :: u 256 :: u 257 :: u 258 :: u 259 :: u 260 :: u 261 :: u 262 :: u 263 :: u 264 :: u 265 :: u 266 :: u 267 :: u 268 :: u 269 :: u 270 :: u 271 :: u 272 :: u 273 :: u 274 :: u 275 :: u 276 :: u 277 :: u 278 :: u 279 :: u 280 :: u 281 :: y 0 :: y 1 :: y 2 :: y 3 :: y 4 :: y 5 :: y 6 :: y 7 :: y 8 :: y 9 :: y 10 :: y 11 :: y 12 :: u 295 :: u 296 :: u 297 :: u 298 :: u 299 :: u 300 :: u 301 :: u 302 :: u 303 :: u 304 :: u 305 :: u 306 :: u 307 :: u 308 :: u 309 :: u 310 :: u 311 :: u 312 :: u 313 :: u 314 :: u 315 :: u 316 :: u 317 :: u 318 :: []), []⟩)
    (fun j v _ => if j = 13 then True else v = V j)
    (fun L y w4 => True ∧ w4 = if L 13 = true then wX else w.drew) (fun j => (([u 282, u 283, u 284, u 285, u 286, u 287, u 288, u 289, u 290, u 291, u 292, u 293, u 294, undef] : List Value).getD j undef)) ⟨trivial, rfl⟩ ?_ ?_
  · rintro L y w4 i o hcl ⟨hI, hG⟩ hΦ ho hL hd K2 hK2
    match i, ho with
    | 0, ho =>
      simp at ho; subst ho
      have HG := Lib.hid hG
      clear hΦ hd hG
      first | go_big_move | go_big_op
      exact hK2 _ _ (by first | exact q_0.symm | (rw [q_0]; first | assumption | exact hy)) ⟨hI, HG.out⟩ (fun _ _ _ h => h)
    | 1, ho =>
      simp at ho; subst ho
      have HG := Lib.hid hG
      clear hΦ hd hG
      first | go_big_move | go_big_op
      exact hK2 _ _ (by first | exact q_1.symm | (rw [q_1]; first | assumption | exact hy)) ⟨hI, HG.out⟩ (fun _ _ _ h => h)
    | 2, ho =>
      simp at ho; subst ho
      have HG := Lib.hid hG
      clear hΦ hd hG
      first | go_big_move | go_big_op
      exact hK2 _ _ (by first | exact q_2.symm | (rw [q_2]; first | assumption | exact hy)) ⟨hI, HG.out⟩ (fun _ _ _ h => h)
    | 3, ho =>
      simp at ho; subst ho
      have HG := Lib.hid hG
      clear hΦ hd hG
      first | go_big_move | go_big_op
      exact hK2 _ _ (by first | exact q_3.symm | (rw [q_3]; first | assumption | exact hy)) ⟨hI, HG.out⟩ (fun _ _ _ h => h)
    | 4, ho =>
      simp at ho; subst ho
      have hu2 := hΦ 2 (hd ⟨2, .data⟩ (by simp) (by rfl))
      simp only [reduceIte, Nat.reduceEqDiff] at hu2
      rw [q_2] at hu2
      have hu3 := hΦ 3 (hd ⟨3, .data⟩ (by simp) (by rfl))
      simp only [reduceIte, Nat.reduceEqDiff] at hu3
      rw [q_3] at hu3
      have HG := Lib.hid hG
      clear hΦ hd hG
      first | go_big_move | go_big_op
      exact hK2 _ _ (by first | exact q_4.symm | (rw [q_4]; first | assumption | exact hy)) ⟨hI, HG.out⟩ (fun _ _ _ h => h)
    | 5, ho =>
      simp at ho; subst ho
      have hu4 := hΦ 4 (hd ⟨4, .data⟩ (by simp) (by rfl))
      simp only [reduceIte, Nat.reduceEqDiff] at hu4
      rw [q_4] at hu4
      have HG := Lib.hid hG
      have hna : ¬ L 13 = true := fun h => by have h2 := (hcl.dep 10 5 (hcl.dep 11 10 (hcl.dep 13 11 h (by rfl)) (by rfl)) (by rfl)); rw [hL] at h2; cases h2
      rw [if_neg hna] at hG
      have hcell := c0 w4 hG
      clear hΦ hd hG
      first | go_big_move | go_big_op
      exact hK2 _ _ (by first | exact q_5.symm | (rw [q_5]; first | assumption | exact hy)) ⟨hI, HG.out⟩ (fun _ _ _ h => h)
    | 6, ho =>
      simp at ho; subst ho
      have HG := Lib.hid hG
      clear hΦ hd hG
      first | go_big_move | go_big_op
      exact hK2 _ _ (by first | exact q_6.symm | (rw [q_6]; first | assumption | exact hy)) ⟨hI, HG.out⟩ (fun _ _ _ h => h)
    | 7, ho =>
      simp at ho; subst ho
      have HG := Lib.hid hG
      clear hΦ hd hG
      first | go_big_move | go_big_op
      exact hK2 _ _ (by first | exact q_7.symm | (rw [q_7]; first | assumption | exact hy)) ⟨hI, HG.out⟩ (fun _ _ _ h => h)
    | 8, ho =>
      simp at ho; subst ho
      have hu6 := hΦ 6 (hd ⟨6, .data⟩ (by simp) (by rfl))
      simp only [reduceIte, Nat.reduceEqDiff] at hu6
      rw [q_6] at hu6
      have hu7 := hΦ 7 (hd ⟨7, .data⟩ (by simp) (by rfl))
      simp only [reduceIte, Nat.reduceEqDiff] at hu7
      rw [q_7] at hu7
      have HG := Lib.hid hG
      clear hΦ hd hG
      first | go_big_move | go_big_op
      exact hK2 _ _ (by first | exact q_8.symm | (rw [q_8]; first | assumption | exact hy)) ⟨hI, HG.out⟩ (fun _ _ _ h => h)
    | 9, ho =>
      simp at ho; subst ho
      have hu8 := hΦ 8 (hd ⟨8, .data⟩ (by simp) (by rfl))
      simp only [reduceIte, Nat.reduceEqDiff] at hu8
      rw [q_8] at hu8
      have HG := Lib.hid hG
      have hna : ¬ L 13 = true := fun h => by have h2 := (hcl.dep 10 9 (hcl.dep 11 10 (hcl.dep 13 11 h (by rfl)) (by rfl)) (by rfl)); rw [hL] at h2; cases h2
      rw [if_neg hna] at hG
      have hcell := c1 w4 hG
      clear hΦ hd hG
      first | go_big_move | go_big_op
      exact hK2 _ _ (by first | exact q_9.symm | (rw [q_9]; first | assumption | exact hy)) ⟨hI, HG.out⟩ (fun _ _ _ h => h)
    | 10, ho =>
      simp at ho; subst ho
      have hu5 := hΦ 5 (hd ⟨5, .data⟩ (by simp) (by rfl))
      simp only [reduceIte, Nat.reduceEqDiff] at hu5
      rw [q_5] at hu5
      have hu9 := hΦ 9 (hd ⟨9, .data⟩ (by simp) (by rfl))
      simp only [reduceIte, Nat.reduceEqDiff] at hu9
      rw [q_9] at hu9
      have HG := Lib.hid hG
      clear hΦ hd hG
      first | go_big_move | go_big_op
      exact hK2 _ _ (by first | exact q_10.symm | (rw [q_10]; first | assumption | exact hy)) ⟨hI, HG.out⟩ (fun _ _ _ h => h)
    | 11, ho =>
      simp at ho; subst ho
      have hu10 := hΦ 10 (hd ⟨10, .data⟩ (by simp) (by rfl))
      simp only [reduceIte, Nat.reduceEqDiff] at hu10
      rw [q_10] at hu10
      have HG := Lib.hid hG
      clear hΦ hd hG
      first | go_big_move | go_big_op
      exact hK2 _ _ (by first | (rw [q_11]; exact congrArg (Value.int IntKind.i64) hrv) | exact q_11.symm | (rw [q_11]; first | assumption | exact hy)) ⟨hI, HG.out⟩ (fun _ _ _ h => h)
    | 12, ho =>
      simp at ho; subst ho
      have hu0 := hΦ 0 (hd ⟨0, .data⟩ (by simp) (by rfl))
      simp only [reduceIte, Nat.reduceEqDiff] at hu0
      rw [q_0] at hu0
      have hu1 := hΦ 1 (hd ⟨1, .data⟩ (by simp) (by rfl))
      simp only [reduceIte, Nat.reduceEqDiff] at hu1
      rw [q_1] at hu1
      have HG := Lib.hid hG
      clear hΦ hd hG
      first | go_big_move | go_big_op
      exact hK2 _ _ (by first | exact q_12.symm | (rw [q_12]; first | assumption | exact hy)) ⟨hI, HG.out⟩ (fun _ _ _ h => h)
    | 13, ho =>
      simp at ho; subst ho
      have hu11 := hΦ 11 (hd ⟨11, .data⟩ (by simp) (by rfl))
      simp only [reduceIte, Nat.reduceEqDiff] at hu11
      rw [q_11] at hu11
      have hu12 := hΦ 12 (hd ⟨12, .data⟩ (by simp) (by rfl))
      simp only [reduceIte, Nat.reduceEqDiff] at hu12
      rw [q_12] at hu12
      rw [if_neg (by rw [hL]; decide)] at hG
      subst hG
      clear hΦ hd
      go_big_op
      refine hK2 undef _ trivial ⟨hI, ?_⟩ (fun _ _ _ h => h)
      rw [if_pos (show mark L 13 13 = true from rfl), HXe.out]; try rfl
  rintro y w4 hΦ L hall ⟨hI, hG⟩
  rw [if_pos (hall 13 (by decide))] at hG
  subst hG
  exact HK.out _ _  ⟨rfl, rfl⟩ (KpU.cons (rfl) (KpU.cons (rfl) (KpU.cons (rfl) (KpU.cons (rfl) (KpU.cons (h7.symm) (KpU.cons (rfl) (KpU.cons (rfl) (KpU.cons (rfl) (KpU.cons (rfl) (KpU.cons (h12.symm) (KpU.cons (rfl) (KpU.cons (rfl) (KpU.cons (rfl) (KpU.cons (rfl) (KpU.cons (rfl) (KpU.cons (rfl) (KpU.cons (h19.symm) (KpU.cons (rfl) (KpU.cons (rfl) (KpU.nil _ _))))))))))))))))))))  HXe.out

set_option maxRecDepth 20000 in
set_option maxHeartbeats 1000000 in
theorem sumR10 (B : List UInt8) (a : Act) (w : World) (K : Exit → Act → World → Prop) (hs : Sz 319 a)
    (h1 : sl a 1 = .string (bs B)) (hB : 0 < B.length)
    (hK : ∀ a' w', Sz 319 a' → Kp [0, 1, 4, 5, 7, 8, 9, 10, 11, 12, 13, 14, 15, 16, 17, 18, 19, 278, 279] a a' → sl a' 53 = .bool true → Fr noB w w' → K .normal a' w') :
    (regionOf Tryd.f6 10).wp Tryd.prog K a w := by
  have hK2 : ∀ a' w', Sz 319 a' → KpU [0, 1, 4, 5, 7, 8, 9, 10, 11, 12, 13, 14, 15, 16, 17, 18, 19, 278, 279] (sl a) a' → sl a' 53 = .bool true → Fr noB w w' → K .normal a' w' := hK
  clear hK
  rw [sumFr_of hs]
  clear hs
  generalize sl a = u at *
  clear a
  have HK := Lib.hid hK2
  clear hK2
  conv => arg 2; whnf
  have hne : ¬ bs B = ⟨#[]⟩ := fun h => by have h2 := congrArg ByteArray.size h; rw [bs_size] at h2; have h3 : B.length = 0 := h2; omega
  simp only [sumFr, h1]
  go_wp2_with fail
  exact HK.out _ _  ⟨rfl, rfl⟩ (KpU.cons (rfl) (KpU.cons (h1.symm) (KpU.cons (rfl) (KpU.cons (rfl) (KpU.cons (rfl) (KpU.cons (rfl) (KpU.cons (rfl) (KpU.cons (rfl) (KpU.cons (rfl) (KpU.cons (rfl) (KpU.cons (rfl) (KpU.cons (rfl) (KpU.cons (rfl) (KpU.cons (rfl) (KpU.cons (rfl) (KpU.cons (rfl) (KpU.cons (rfl) (KpU.cons (rfl) (KpU.cons (rfl) (KpU.nil _ _)))))))))))))))))))) (congrArg Value.bool (by simp [bs_toList]; rintro rfl; simp at hB)) (Fr.refl _ _)

set_option maxRecDepth 20000 in
set_option maxHeartbeats 1000000 in
theorem sumR10n  (a : Act) (w : World) (K : Exit → Act → World → Prop) (hs : Sz 319 a)
    (h1 : sl a 1 = .string (bs [])) 
    (hK : ∀ a' w', Sz 319 a' → Kp [0, 1, 4, 5, 7, 8, 9, 10, 11, 12, 13, 14, 15, 16, 17, 18, 19, 278, 279] a a' → sl a' 53 = .bool false → Fr noB w w' → K .normal a' w') :
    (regionOf Tryd.f6 10).wp Tryd.prog K a w := by
  have hK2 : ∀ a' w', Sz 319 a' → KpU [0, 1, 4, 5, 7, 8, 9, 10, 11, 12, 13, 14, 15, 16, 17, 18, 19, 278, 279] (sl a) a' → sl a' 53 = .bool false → Fr noB w w' → K .normal a' w' := hK
  clear hK
  rw [sumFr_of hs]
  clear hs
  generalize sl a = u at *
  clear a
  have HK := Lib.hid hK2
  clear hK2
  conv => arg 2; whnf
  have hnil : bs ([] : List UInt8) = ⟨#[]⟩ := rfl
  rw [hnil] at h1
  simp only [sumFr, h1]
  go_wp2_with fail
  exact HK.out _ _  ⟨rfl, rfl⟩ (KpU.cons (rfl) (KpU.cons (h1.symm) (KpU.cons (rfl) (KpU.cons (rfl) (KpU.cons (rfl) (KpU.cons (rfl) (KpU.cons (rfl) (KpU.cons (rfl) (KpU.cons (rfl) (KpU.cons (rfl) (KpU.cons (rfl) (KpU.cons (rfl) (KpU.cons (rfl) (KpU.cons (rfl) (KpU.cons (rfl) (KpU.cons (rfl) (KpU.cons (rfl) (KpU.cons (rfl) (KpU.cons (rfl) (KpU.nil _ _)))))))))))))))))))) (congrArg Value.bool (by simp)) (Fr.refl _ _)

end Go.Proofs.YtcbkaiakdhiloaaDoor
