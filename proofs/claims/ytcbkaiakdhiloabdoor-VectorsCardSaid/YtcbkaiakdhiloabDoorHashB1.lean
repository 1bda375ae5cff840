/- The program's block: its regions, each a text of its own. -/
import Derived.Test.YtcbkaiakdhiloabDoorHashR
import Derived.Test.YtcbkaiakdhiloabDoorLp
import Derived.Test.YtcbkaiakdhiloabDoorRegU
import Derived.BigQuiet
set_option linter.unusedSimpArgs false
set_option linter.unusedVariables false
namespace Go.Proofs.YtcbkaiakdhiloabDoor
open Go.RowKit Go.Proofs

def blkFr (u : Nat → Value) : Act := ⟨#[u 0, u 1, u 2, u 3, u 4, u 5, u 6, u 7, u 8, u 9, u 10, u 11, u 12, u 13, u 14, u 15, u 16, u 17, u 18, u 19, u 20, u 21, u 22, u 23, u 24, u 25, u 26, u 27, u 28, u 29, u 30, u 31, u 32, u 33, u 34, u 35, u 36, u 37, u 38, u 39, u 40, u 41, u 42, u 43, u 44, u 45, u 46, u 47, u 48, u 49, u 50, u 51, u 52, u 53, u 54, u 55, u 56, u 57, u 58, u 59, u 60, u 61, u 62, u 63, u 64, u 65, u 66, u 67, u 68, u 69, u 70, u 71, u 72, u 73, u 74, u 75, u 76, u 77, u 78, u 79, u 80, u 81, u 82, u 83, u 84, u 85, u 86, u 87, u 88, u 89, u 90, u 91, u 92, u 93, u 94, u 95, u 96, u 97, u 98, u 99, u 100, u 101, u 102, u 103, u 104, u 105, u 106, u 107, u 108, u 109, u 110, u 111, u 112, u 113, u 114, u 115, u 116, u 117, u 118, u 119, u 120, u 121, u 122, u 123, u 124, u 125, u 126, u 127, u 128, u 129, u 130, u 131, u 132, u 133, u 134, u 135, u 136, u 137, u 138, u 139, u 140, u 141, u 142, u 143, u 144, u 145, u 146, u 147, u 148, u 149, u 150, u 151, u 152, u 153, u 154, u 155, u 156, u 157, u 158, u 159, u 160, u 161, u 162, u 163, u 164, u 165, u 166, u 167, u 168, u 169, u 170, u 171, u 172, u 173, u 174, u 175, u 176, u 177, u 178, u 179, u 180, u 181, u 182, u 183, u 184, u 185, u 186, u 187, u 188, u 189, u 190, u 191, u 192, u 193, u 194], []⟩
set_option maxRecDepth 100000 in
theorem blkFr_eq (u : Nat → Value) : blkFr u = frN 195 u := rfl
theorem blkFr_of {a : Act} (h : Sz 195 a) : a = blkFr (sl a) := h.eq.trans (blkFr_eq _).symm
set_option maxRecDepth 100000 in
theorem blkFr_sz (u : Nat → Value) : Sz 195 (blkFr u) := ⟨rfl, rfl⟩

theorem wp_copy_run {P : Program} {w : World} {o : Oper} {a : Act} {K : Act → World → Prop} {Q : Exit → Act → World → Prop} (s x : Operand) (t u : TypeId)
    (ho : o.op = .call { callee := .builtin .copy, args := #[s, x], argTypes := #[t, u] }) {v y v' : Value} {w' : World}
    (hrun : (Builtin.copy_ #[t, u] o.type #[v, y]).run P w = .ok v' w') (hs : a.eval s = v) (hx : a.eval x = y) (h : K (a.put o.dst v') w') : o.wp P a w K Q := by
  unfold Oper.wp execOp
  simp only [ho, resolve, invoke, builtin, Sem.run_bind, Sem.run_pure, Result.andThen_ok, List.map_toArray, List.map_cons, List.map_nil, hs, hx, hrun]
  exact h
theorem wpList_copy_run {P : Program} {w : World} {ops : Array Oper} {rest : List Oper} {o : Oper} {a : Act} {Q : Exit → Act → World → Prop} (hgd : o.guard = none) (s x : Operand) (t u : TypeId)
    (ho : o.op = .call { callee := .builtin .copy, args := #[s, x], argTypes := #[t, u] }) {v y v' : Value} {w' : World}
    (hrun : (Builtin.copy_ #[t, u] o.type #[v, y]).run P w = .ok v' w') (hs : a.eval s = v) (hx : a.eval x = y) (h : wpList P ops Q rest (a.put o.dst v') w') : wpList P ops Q (o :: rest) a w :=
  wpList_plain hgd fun K hK => wp_copy_run s x t u ho hrun hs hx (hK _ _ h)

def u32s (l : List UInt32) : List Value := l.map fun x => Value.int .u32 (x.toNat : Int)
theorem u32s_length (l : List UInt32) : (u32s l).length = l.length := by simp [u32s]
theorem u32s_get (l : List UInt32) (k : Nat) (x : UInt32) (h : l[k]? = some x) : (u32s l)[k]? = some (.int .u32 (x.toNat : Int)) := by simp [u32s, h]
theorem u32s_set (l : List UInt32) (k : Nat) (x : UInt32) : ((u32s l).toArray).setIfInBounds k (.int .u32 (x.toNat : Int)) = (u32s (l.set k x)).toArray := by simp [u32s, List.map_set]
/-- a block that is a row of words -/
def UB (w : World) (g : Nat) (t : TypeId) (l : List UInt32) : Prop := Bk w g t (u32s l).toArray
theorem UB.get {w : World} {g : Nat} {t : TypeId} {l : List UInt32} (h : UB w g t l) (k : Nat) (x : UInt32) (hx : l[k]? = some x) : w.cell? ⟨g, k, none⟩ = some (.int .u32 (x.toNat : Int)) := by
  have h1 := Bk.cell h k
  rw [h1]; simpa using u32s_get l k x hx
theorem UB.set {w : World} {g : Nat} {t : TypeId} {l : List UInt32} (h : UB w g t l) (k : Nat) (x : UInt32) : UB (w.setCell ⟨g, k, none⟩ (.int .u32 (x.toNat : Int))) g t (l.set k x) := by
  have h1 := Bk.set h k (.int .u32 (x.toNat : Int))
  rw [u32s_set] at h1; exact h1
/-- a row that can be read as words -/
def RU (w : World) (g : Nat) (l : List UInt32) : Prop := g < w.heap.size ∧ ∀ (k : Nat) (x : UInt32), l[k]? = some x → w.cell? ⟨g, k, none⟩ = some (.int .u32 (x.toNat : Int))
theorem UB.ru {w : World} {g : Nat} {t : TypeId} {l : List UInt32} (h : UB w g t l) : RU w g l := ⟨Bk.lt h, fun k x hx => h.get k x hx⟩
theorem RU.keep {S : Nat → Prop} {w w' : World} {g : Nat} {l : List UInt32} (h : RU w g l) (hf : Fr S w w') (hg : ¬ S g) : RU w' g l :=
  ⟨Nat.lt_of_lt_of_le h.1 hf.size, fun k x hx => (hf.cell (a := ⟨g, k, none⟩) h.1 hg).trans (h.2 k x hx)⟩

set_option maxRecDepth 20000 in
set_option maxHeartbeats 1000000 in
theorem blkR1  (a : Act) (w : World) (K : Exit → Act → World → Prop) (hs : Sz 195 a)
     
    (hK : ∀ a' w', Sz 195 a' → Kp [0, 1, 4, 5, 6, 7, 8, 9, 10, 11, 12, 13, 14, 15, 16, 17, 104, 178] a a' → sl a' 18 = .int .i64 ((0 : Nat) : Int) → Fr noB w w' → K .normal a' w') :
    (regionOf Tryd.f63 1).wp Tryd.prog K a w := by
  have hK2 : ∀ a' w', Sz 195 a' → KpU [0, 1, 4, 5, 6, 7, 8, 9, 10, 11, 12, 13, 14, 15, 16, 17, 104, 178] (sl a) a' → sl a' 18 = .int .i64 ((0 : Nat) : Int) → Fr noB w w' → K .normal a' w' := hK
  clear hK
  rw [blkFr_of hs]
  clear hs
  generalize sl a = u at *
  clear a
  have HK := Lib.hid hK2
  clear hK2
  conv => arg 2; whnf
  simp only [blkFr]
  go_wp2_with fail
  exact HK.out _ _  ⟨rfl, rfl⟩ (KpU.cons (rfl) (KpU.cons (rfl) (KpU.cons (rfl) (KpU.cons (rfl) (KpU.cons (rfl) (KpU.cons (rfl) (KpU.cons (rfl) (KpU.cons (rfl) (KpU.cons (rfl) (KpU.cons (rfl) (KpU.cons (rfl) (KpU.cons (rfl) (KpU.cons (rfl) (KpU.cons (rfl) (KpU.cons (rfl) (KpU.cons (rfl) (KpU.cons (rfl) (KpU.cons (rfl) (KpU.nil _ _))))))))))))))))))) (rfl) (Fr.refl _ _)

set_option maxRecDepth 20000 in
set_option maxHeartbeats 1000000 in
theorem blkR2 (i : Nat) (a : Act) (w : World) (K : Exit → Act → World → Prop) (hs : Sz 195 a)
    (h18 : sl a 18 = .int .i64 (i : Int)) (hi : i ≤ 16)
    (hK : ∀ a' w', Sz 195 a' → Kp [0, 1, 4, 5, 6, 7, 8, 9, 10, 11, 12, 13, 14, 15, 16, 17, 18, 104, 178] a a' → sl a' 19 = .bool (decide (i < 16)) → Fr noB w w' → K .normal a' w') :
    (regionOf Tryd.f63 2).wp Tryd.prog K a w := by
  have hK2 : ∀ a' w', Sz 195 a' → KpU [0, 1, 4, 5, 6, 7, 8, 9, 10, 11, 12, 13, 14, 15, 16, 17, 18, 104, 178] (sl a) a' → sl a' 19 = .bool (decide (i < 16)) → Fr noB w w' → K .normal a' w' := hK
  clear hK
  rw [blkFr_of hs]
  clear hs
  generalize sl a = u at *
  clear a
  have HK := Lib.hid hK2
  clear hK2
  conv => arg 2; whnf
  simp only [blkFr, h18]
  go_wp2_with fail
  exact HK.out _ _  ⟨rfl, rfl⟩ (KpU.cons (rfl) (KpU.cons (rfl) (KpU.cons (rfl) (KpU.cons (rfl) (KpU.cons (rfl) (KpU.cons (rfl) (KpU.cons (rfl) (KpU.cons (rfl) (KpU.cons (rfl) (KpU.cons (rfl) (KpU.cons (rfl) (KpU.cons (rfl) (KpU.cons (rfl) (KpU.cons (rfl) (KpU.cons (rfl) (KpU.cons (rfl) (KpU.cons (h18.symm) (KpU.cons (rfl) (KpU.cons (rfl) (KpU.nil _ _)))))))))))))))))))) (congrArg Value.bool (decide_eq_decide.2 (by omega))) (Fr.refl _ _)

set_option maxRecDepth 20000 in
set_option maxHeartbeats 1000000 in
theorem blkR3 (i : Nat) (a : Act) (w : World) (K : Exit → Act → World → Prop) (hs : Sz 195 a)
    (h18 : sl a 18 = .int .i64 (i : Int)) 
    (hK : ∀ a' w', Sz 195 a' → Kp [0, 1, 4, 6, 7, 8, 9, 10, 11, 12, 13, 14, 15, 16, 17, 18, 104, 178] a a' → sl a' 5 = .int .i64 (i : Int) → Fr noB w w' → K .normal a' w') :
    (regionOf Tryd.f63 3).wp Tryd.prog K a w := by
  have hK2 : ∀ a' w', Sz 195 a' → KpU [0, 1, 4, 6, 7, 8, 9, 10, 11, 12, 13, 14, 15, 16, 17, 18, 104, 178] (sl a) a' → sl a' 5 = .int .i64 (i : Int) → Fr noB w w' → K .normal a' w' := hK
  clear hK
  rw [blkFr_of hs]
  clear hs
  generalize sl a = u at *
  clear a
  have HK := Lib.hid hK2
  clear hK2
  conv => arg 2; whnf
  simp only [blkFr, h18]
  go_wp2_with fail
  exact HK.out _ _  ⟨rfl, rfl⟩ (KpU.cons (rfl) (KpU.cons (rfl) (KpU.cons (rfl) (KpU.cons (rfl) (KpU.cons (rfl) (KpU.cons (rfl) (KpU.cons (rfl) (KpU.cons (rfl) (KpU.cons (rfl) (KpU.cons (rfl) (KpU.cons (rfl) (KpU.cons (rfl) (KpU.cons (rfl) (KpU.cons (rfl) (KpU.cons (rfl) (KpU.cons (h18.symm) (KpU.cons (rfl) (KpU.cons (rfl) (KpU.nil _ _))))))))))))))))))) (rfl) (Fr.refl _ _)

set_option maxRecDepth 20000 in
set_option maxHeartbeats 1000000 in
theorem blkR5 (i : Nat) (a : Act) (w : World) (K : Exit → Act → World → Prop) (hs : Sz 195 a)
    (h18 : sl a 18 = .int .i64 (i : Int)) (hi : i ≤ 16)
    (hK : ∀ a' w', Sz 195 a' → Kp [0, 1, 4, 5, 6, 7, 8, 9, 10, 11, 12, 13, 14, 15, 16, 17, 104, 178] a a' → sl a' 18 = .int .i64 ((i + 1 : Nat) : Int) → Fr noB w w' → K .normal a' w') :
    (regionOf Tryd.f63 5).wp Tryd.prog K a w := by
  have hK2 : ∀ a' w', Sz 195 a' → KpU [0, 1, 4, 5, 6, 7, 8, 9, 10, 11, 12, 13, 14, 15, 16, 17, 104, 178] (sl a) a' → sl a' 18 = .int .i64 ((i + 1 : Nat) : Int) → Fr noB w w' → K .normal a' w' := hK
  clear hK
  rw [blkFr_of hs]
  clear hs
  generalize sl a = u at *
  clear a
  have HK := Lib.hid hK2
  clear hK2
  conv => arg 2; whnf
  simp only [blkFr, h18]
  clear h18
  go_wp2_with fail
  exact HK.out _ _  ⟨rfl, rfl⟩ (KpU.cons (rfl) (KpU.cons (rfl) (KpU.cons (rfl) (KpU.cons (rfl) (KpU.cons (rfl) (KpU.cons (rfl) (KpU.cons (rfl) (KpU.cons (rfl) (KpU.cons (rfl) (KpU.cons (rfl) (KpU.cons (rfl) (KpU.cons (rfl) (KpU.cons (rfl) (KpU.cons (rfl) (KpU.cons (rfl) (KpU.cons (rfl) (KpU.cons (rfl) (KpU.cons (rfl) (KpU.nil _ _))))))))))))))))))) (by simp only [sl]; rfl) (Fr.refl _ _)

set_option maxRecDepth 20000 in
set_option maxHeartbeats 1000000 in
theorem blkR6  (a : Act) (w : World) (K : Exit → Act → World → Prop) (hs : Sz 195 a)
     
    (hK : ∀ a' w', Sz 195 a' → Kp [0, 1, 4, 5, 7, 8, 9, 10, 11, 12, 13, 14, 15, 16, 17, 18, 104, 178] a a' → sl a' 6 = .int .i64 ((16 : Nat) : Int) → Fr noB w w' → K .normal a' w') :
    (regionOf Tryd.f63 6).wp Tryd.prog K a w := by
  have hK2 : ∀ a' w', Sz 195 a' → KpU [0, 1, 4, 5, 7, 8, 9, 10, 11, 12, 13, 14, 15, 16, 17, 18, 104, 178] (sl a) a' → sl a' 6 = .int .i64 ((16 : Nat) : Int) → Fr noB w w' → K .normal a' w' := hK
  clear hK
  rw [blkFr_of hs]
  clear hs
  generalize sl a = u at *
  clear a
  have HK := Lib.hid hK2
  clear hK2
  conv => arg 2; whnf
  simp only [blkFr]
  go_wp2_with fail
  exact HK.out _ _  ⟨rfl, rfl⟩ (KpU.cons (rfl) (KpU.cons (rfl) (KpU.cons (rfl) (KpU.cons (rfl) (KpU.cons (rfl) (KpU.cons (rfl) (KpU.cons (rfl) (KpU.cons (rfl) (KpU.cons (rfl) (KpU.cons (rfl) (KpU.cons (rfl) (KpU.cons (rfl) (KpU.cons (rfl) (KpU.cons (rfl) (KpU.cons (rfl) (KpU.cons (rfl) (KpU.cons (rfl) (KpU.cons (rfl) (KpU.nil _ _))))))))))))))))))) (rfl) (Fr.refl _ _)

set_option maxRecDepth 20000 in
set_option maxHeartbeats 1000000 in
theorem blkR7 (i : Nat) (a : Act) (w : World) (K : Exit → Act → World → Prop) (hs : Sz 195 a)
    (h6 : sl a 6 = .int .i64 (i : Int)) (hi : i ≤ 64)
    (hK : ∀ a' w', Sz 195 a' → Kp [0, 1, 4, 5, 6, 7, 8, 9, 10, 11, 12, 13, 14, 15, 16, 17, 18, 104, 178] a a' → sl a' 58 = .bool (decide (i < 64)) → Fr noB w w' → K .normal a' w') :
    (regionOf Tryd.f63 7).wp Tryd.prog K a w := by
  have hK2 : ∀ a' w', Sz 195 a' → KpU [0, 1, 4, 5, 6, 7, 8, 9, 10, 11, 12, 13, 14, 15, 16, 17, 18, 104, 178] (sl a) a' → sl a' 58 = .bool (decide (i < 64)) → Fr noB w w' → K .normal a' w' := hK
  clear hK
  rw [blkFr_of hs]
  clear hs
  generalize sl a = u at *
  clear a
  have HK := Lib.hid hK2
  clear hK2
  conv => arg 2; whnf
  simp only [blkFr, h6]
  go_wp2_with fail
  exact HK.out _ _  ⟨rfl, rfl⟩ (KpU.cons (rfl) (KpU.cons (rfl) (KpU.cons (rfl) (KpU.cons (rfl) (KpU.cons (h6.symm) (KpU.cons (rfl) (KpU.cons (rfl) (KpU.cons (rfl) (KpU.cons (rfl) (KpU.cons (rfl) (KpU.cons (rfl) (KpU.cons (rfl) (KpU.cons (rfl) (KpU.cons (rfl) (KpU.cons (rfl) (KpU.cons (rfl) (KpU.cons (rfl) (KpU.cons (rfl) (KpU.cons (rfl) (KpU.nil _ _)))))))))))))))))))) (congrArg Value.bool (decide_eq_decide.2 (by omega))) (Fr.refl _ _)

set_option maxRecDepth 20000 in
set_option maxHeartbeats 1000000 in
theorem blkR8 (i : Nat) (a : Act) (w : World) (K : Exit → Act → World → Prop) (hs : Sz 195 a)
    (h6 : sl a 6 = .int .i64 (i : Int)) (hi : i ≤ 64)
    (hK : ∀ a' w', Sz 195 a' → Kp [0, 1, 4, 5, 7, 8, 9, 10, 11, 12, 13, 14, 15, 16, 17, 18, 104, 178] a a' → sl a' 6 = .int .i64 ((i + 1 : Nat) : Int) → Fr noB w w' → K .normal a' w') :
    (regionOf Tryd.f63 8).wp Tryd.prog K a w := by
  have hK2 : ∀ a' w', Sz 195 a' → KpU [0, 1, 4, 5, 7, 8, 9, 10, 11, 12, 13, 14, 15, 16, 17, 18, 104, 178] (sl a) a' → sl a' 6 = .int .i64 ((i + 1 : Nat) : Int) → Fr noB w w' → K .normal a' w' := hK
  clear hK
  rw [blkFr_of hs]
  clear hs
  generalize sl a = u at *
  clear a
  have HK := Lib.hid hK2
  clear hK2
  conv => arg 2; whnf
  simp only [blkFr, h6]
  clear h6
  go_wp2_with fail
  exact HK.out _ _  ⟨rfl, rfl⟩ (KpU.cons (rfl) (KpU.cons (rfl) (KpU.cons (rfl) (KpU.cons (rfl) (KpU.cons (rfl) (KpU.cons (rfl) (KpU.cons (rfl) (KpU.cons (rfl) (KpU.cons (rfl) (KpU.cons (rfl) (KpU.cons (rfl) (KpU.cons (rfl) (KpU.cons (rfl) (KpU.cons (rfl) (KpU.cons (rfl) (KpU.cons (rfl) (KpU.cons (rfl) (KpU.cons (rfl) (KpU.nil _ _))))))))))))))))))) (by simp only [sl]; rfl) (Fr.refl _ _)

set_option maxRecDepth 20000 in
set_option maxHeartbeats 1000000 in
theorem blkR14  (a : Act) (w : World) (K : Exit → Act → World → Prop) (hs : Sz 195 a)
     
    (hK : ∀ a' w', Sz 195 a' → Kp [0, 1, 4, 5, 6, 7, 8, 9, 10, 11, 12, 13, 14, 15, 16, 17, 18, 178] a a' → sl a' 104 = .int .i64 ((0 : Nat) : Int) → Fr noB w w' → K .normal a' w') :
    (regionOf Tryd.f63 14).wp Tryd.prog K a w := by
  have hK2 : ∀ a' w', Sz 195 a' → KpU [0, 1, 4, 5, 6, 7, 8, 9, 10, 11, 12, 13, 14, 15, 16, 17, 18, 178] (sl a) a' → sl a' 104 = .int .i64 ((0 : Nat) : Int) → Fr noB w w' → K .normal a' w' := hK
  clear hK
  rw [blkFr_of hs]
  clear hs
  generalize sl a = u at *
  clear a
  have HK := Lib.hid hK2
  clear hK2
  conv => arg 2; whnf
  simp only [blkFr]
  go_wp2_with fail
  exact HK.out _ _  ⟨rfl, rfl⟩ (KpU.cons (rfl) (KpU.cons (rfl) (KpU.cons (rfl) (KpU.cons (rfl) (KpU.cons (rfl) (KpU.cons (rfl) (KpU.cons (rfl) (KpU.cons (rfl) (KpU.cons (rfl) (KpU.cons (rfl) (KpU.cons (rfl) (KpU.cons (rfl) (KpU.cons (rfl) (KpU.cons (rfl) (KpU.cons (rfl) (KpU.cons (rfl) (KpU.cons (rfl) (KpU.cons (rfl) (KpU.nil _ _))))))))))))))))))) (rfl) (Fr.refl _ _)

set_option maxRecDepth 20000 in
set_option maxHeartbeats 1000000 in
theorem blkR15 (i : Nat) (a : Act) (w : World) (K : Exit → Act → World → Prop) (hs : Sz 195 a)
    (h104 : sl a 104 = .int .i64 (i : Int)) (hi : i ≤ 64)
    (hK : ∀ a' w', Sz 195 a' → Kp [0, 1, 4, 5, 6, 7, 8, 9, 10, 11, 12, 13, 14, 15, 16, 17, 18, 104, 178] a a' → sl a' 105 = .bool (decide (i < 64)) → Fr noB w w' → K .normal a' w') :
    (regionOf Tryd.f63 15).wp Tryd.prog K a w := by
  have hK2 : ∀ a' w', Sz 195 a' → KpU [0, 1, 4, 5, 6, 7, 8, 9, 10, 11, 12, 13, 14, 15, 16, 17, 18, 104, 178] (sl a) a' → sl a' 105 = .bool (decide (i < 64)) → Fr noB w w' → K .normal a' w' := hK
  clear hK
  rw [blkFr_of hs]
  clear hs
  generalize sl a = u at *
  clear a
  have HK := Lib.hid hK2
  clear hK2
  conv => arg 2; whnf
  simp only [blkFr, h104]
  go_wp2_with fail
  exact HK.out _ _  ⟨rfl, rfl⟩ (KpU.cons (rfl) (KpU.cons (rfl) (KpU.cons (rfl) (KpU.cons (rfl) (KpU.cons (rfl) (KpU.cons (rfl) (KpU.cons (rfl) (KpU.cons (rfl) (KpU.cons (rfl) (KpU.cons (rfl) (KpU.cons (rfl) (KpU.cons (rfl) (KpU.cons (rfl) (KpU.cons (rfl) (KpU.cons (rfl) (KpU.cons (rfl) (KpU.cons (rfl) (KpU.cons (h104.symm) (KpU.cons (rfl) (KpU.nil _ _)))))))))))))))))))) (congrArg Value.bool (decide_eq_decide.2 (by omega))) (Fr.refl _ _)

set_option maxRecDepth 20000 in
set_option maxHeartbeats 1000000 in
theorem blkR16 (i : Nat) (a : Act) (w : World) (K : Exit → Act → World → Prop) (hs : Sz 195 a)
    (h104 : sl a 104 = .int .i64 (i : Int)) 
    (hK : ∀ a' w', Sz 195 a' → Kp [0, 1, 4, 5, 6, 7, 8, 9, 10, 11, 13, 14, 15, 16, 17, 18, 104, 178] a a' → sl a' 12 = .int .i64 (i : Int) → Fr noB w w' → K .normal a' w') :
    (regionOf Tryd.f63 16).wp Tryd.prog K a w := by
  have hK2 : ∀ a' w', Sz 195 a' → KpU [0, 1, 4, 5, 6, 7, 8, 9, 10, 11, 13, 14, 15, 16, 17, 18, 104, 178] (sl a) a' → sl a' 12 = .int .i64 (i : Int) → Fr noB w w' → K .normal a' w' := hK
  clear hK
  rw [blkFr_of hs]
  clear hs
  generalize sl a = u at *
  clear a
  have HK := Lib.hid hK2
  clear hK2
  conv => arg 2; whnf
  simp only [blkFr, h104]
  go_wp2_with fail
  exact HK.out _ _  ⟨rfl, rfl⟩ (KpU.cons (rfl) (KpU.cons (rfl) (KpU.cons (rfl) (KpU.cons (rfl) (KpU.cons (rfl) (KpU.cons (rfl) (KpU.cons (rfl) (KpU.cons (rfl) (KpU.cons (rfl) (KpU.cons (rfl) (KpU.cons (rfl) (KpU.cons (rfl) (KpU.cons (rfl) (KpU.cons (rfl) (KpU.cons (rfl) (KpU.cons (rfl) (KpU.cons (h104.symm) (KpU.cons (rfl) (KpU.nil _ _))))))))))))))))))) (rfl) (Fr.refl _ _)

set_option maxRecDepth 20000 in
set_option maxHeartbeats 1000000 in
theorem blkR23 (i : Nat) (a : Act) (w : World) (K : Exit → Act → World → Prop) (hs : Sz 195 a)
    (h104 : sl a 104 = .int .i64 (i : Int)) (hi : i ≤ 64)
    (hK : ∀ a' w', Sz 195 a' → Kp [0, 1, 4, 5, 6, 7, 8, 9, 10, 11, 12, 13, 14, 15, 16, 17, 18, 178] a a' → sl a' 104 = .int .i64 ((i + 1 : Nat) : Int) → Fr noB w w' → K .normal a' w') :
    (regionOf Tryd.f63 23).wp Tryd.prog K a w := by
  have hK2 : ∀ a' w', Sz 195 a' → KpU [0, 1, 4, 5, 6, 7, 8, 9, 10, 11, 12, 13, 14, 15, 16, 17, 18, 178] (sl a) a' → sl a' 104 = .int .i64 ((i + 1 : Nat) : Int) → Fr noB w w' → K .normal a' w' := hK
  clear hK
  rw [blkFr_of hs]
  clear hs
  generalize sl a = u at *
  clear a
  have HK := Lib.hid hK2
  clear hK2
  conv => arg 2; whnf
  simp only [blkFr, h104]
  clear h104
  go_wp2_with fail
  exact HK.out _ _  ⟨rfl, rfl⟩ (KpU.cons (rfl) (KpU.cons (rfl) (KpU.cons (rfl) (KpU.cons (rfl) (KpU.cons (rfl) (KpU.cons (rfl) (KpU.cons (rfl) (KpU.cons (rfl) (KpU.cons (rfl) (KpU.cons (rfl) (KpU.cons (rfl) (KpU.cons (rfl) (KpU.cons (rfl) (KpU.cons (rfl) (KpU.cons (rfl) (KpU.cons (rfl) (KpU.cons (rfl) (KpU.cons (rfl) (KpU.nil _ _))))))))))))))))))) (by simp only [sl]; rfl) (Fr.refl _ _)

set_option maxRecDepth 20000 in
set_option maxHeartbeats 1000000 in
theorem blkR24  (a : Act) (w : World) (K : Exit → Act → World → Prop) (hs : Sz 195 a)
     
    (hK : ∀ a' w', Sz 195 a' → Kp [0, 1, 4, 5, 6, 7, 8, 9, 10, 11, 12, 13, 14, 15, 16, 17, 18, 104] a a' → sl a' 178 = .int .i64 ((0 : Nat) : Int) → Fr noB w w' → K .normal a' w') :
    (regionOf Tryd.f63 24).wp Tryd.prog K a w := by
  have hK2 : ∀ a' w', Sz 195 a' → KpU [0, 1, 4, 5, 6, 7, 8, 9, 10, 11, 12, 13, 14, 15, 16, 17, 18, 104] (sl a) a' → sl a' 178 = .int .i64 ((0 : Nat) : Int) → Fr noB w w' → K .normal a' w' := hK
  clear hK
  rw [blkFr_of hs]
  clear hs
  generalize sl a = u at *
  clear a
  have HK := Lib.hid hK2
  clear hK2
  conv => arg 2; whnf
  simp only [blkFr]
  go_wp2_with fail
  exact HK.out _ _  ⟨rfl, rfl⟩ (KpU.cons (rfl) (KpU.cons (rfl) (KpU.cons (rfl) (KpU.cons (rfl) (KpU.cons (rfl) (KpU.cons (rfl) (KpU.cons (rfl) (KpU.cons (rfl) (KpU.cons (rfl) (KpU.cons (rfl) (KpU.cons (rfl) (KpU.cons (rfl) (KpU.cons (rfl) (KpU.cons (rfl) (KpU.cons (rfl) (KpU.cons (rfl) (KpU.cons (rfl) (KpU.cons (rfl) (KpU.nil _ _))))))))))))))))))) (rfl) (Fr.refl _ _)

set_option maxRecDepth 20000 in
set_option maxHeartbeats 1000000 in
theorem blkR25 (i : Nat) (a : Act) (w : World) (K : Exit → Act → World → Prop) (hs : Sz 195 a)
    (h178 : sl a 178 = .int .i64 (i : Int)) (hi : i ≤ 8)
    (hK : ∀ a' w', Sz 195 a' → Kp [0, 1, 4, 5, 6, 7, 8, 9, 10, 11, 12, 13, 14, 15, 16, 17, 18, 104, 178] a a' → sl a' 179 = .bool (decide (i < 8)) → Fr noB w w' → K .normal a' w') :
    (regionOf Tryd.f63 25).wp Tryd.prog K a w := by
  have hK2 : ∀ a' w', Sz 195 a' → KpU [0, 1, 4, 5, 6, 7, 8, 9, 10, 11, 12, 13, 14, 15, 16, 17, 18, 104, 178] (sl a) a' → sl a' 179 = .bool (decide (i < 8)) → Fr noB w w' → K .normal a' w' := hK
  clear hK
  rw [blkFr_of hs]
  clear hs
  generalize sl a = u at *
  clear a
  have HK := Lib.hid hK2
  clear hK2
  conv => arg 2; whnf
  simp only [blkFr, h178]
  go_wp2_with fail
  exact HK.out _ _  ⟨rfl, rfl⟩ (KpU.cons (rfl) (KpU.cons (rfl) (KpU.cons (rfl) (KpU.cons (rfl) (KpU.cons (rfl) (KpU.cons (rfl) (KpU.cons (rfl) (KpU.cons (rfl) (KpU.cons (rfl) (KpU.cons (rfl) (KpU.cons (rfl) (KpU.cons (rfl) (KpU.cons (rfl) (KpU.cons (rfl) (KpU.cons (rfl) (KpU.cons (rfl) (KpU.cons (rfl) (KpU.cons (rfl) (KpU.cons (h178.symm) (KpU.nil _ _)))))))))))))))))))) (congrArg Value.bool (decide_eq_decide.2 (by omega))) (Fr.refl _ _)

set_option maxRecDepth 20000 in
set_option maxHeartbeats 1000000 in
theorem blkR26 (i : Nat) (a : Act) (w : World) (K : Exit → Act → World → Prop) (hs : Sz 195 a)
    (h178 : sl a 178 = .int .i64 (i : Int)) 
    (hK : ∀ a' w', Sz 195 a' → Kp [0, 1, 4, 5, 6, 7, 8, 9, 10, 11, 12, 13, 14, 15, 16, 18, 104, 178] a a' → sl a' 17 = .int .i64 (i : Int) → Fr noB w w' → K .normal a' w') :
    (regionOf Tryd.f63 26).wp Tryd.prog K a w := by
  have hK2 : ∀ a' w', Sz 195 a' → KpU [0, 1, 4, 5, 6, 7, 8, 9, 10, 11, 12, 13, 14, 15, 16, 18, 104, 178] (sl a) a' → sl a' 17 = .int .i64 (i : Int) → Fr noB w w' → K .normal a' w' := hK
  clear hK
  rw [blkFr_of hs]
  clear hs
  generalize sl a = u at *
  clear a
  have HK := Lib.hid hK2
  clear hK2
  conv => arg 2; whnf
  simp only [blkFr, h178]
  go_wp2_with fail
  exact HK.out _ _  ⟨rfl, rfl⟩ (KpU.cons (rfl) (KpU.cons (rfl) (KpU.cons (rfl) (KpU.cons (rfl) (KpU.cons (rfl) (KpU.cons (rfl) (KpU.cons (rfl) (KpU.cons (rfl) (KpU.cons (rfl) (KpU.cons (rfl) (KpU.cons (rfl) (KpU.cons (rfl) (KpU.cons (rfl) (KpU.cons (rfl) (KpU.cons (rfl) (KpU.cons (rfl) (KpU.cons (rfl) (KpU.cons (h178.symm) (KpU.nil _ _))))))))))))))))))) (rfl) (Fr.refl _ _)

set_option maxRecDepth 20000 in
set_option maxHeartbeats 1000000 in
theorem blkR28 (i : Nat) (a : Act) (w : World) (K : Exit → Act → World → Prop) (hs : Sz 195 a)
    (h178 : sl a 178 = .int .i64 (i : Int)) (hi : i ≤ 8)
    (hK : ∀ a' w', Sz 195 a' → Kp [0, 1, 4, 5, 6, 7, 8, 9, 10, 11, 12, 13, 14, 15, 16, 17, 18, 104] a a' → sl a' 178 = .int .i64 ((i + 1 : Nat) : Int) → Fr noB w w' → K .normal a' w') :
    (regionOf Tryd.f63 28).wp Tryd.prog K a w := by
  have hK2 : ∀ a' w', Sz 195 a' → KpU [0, 1, 4, 5, 6, 7, 8, 9, 10, 11, 12, 13, 14, 15, 16, 17, 18, 104] (sl a) a' → sl a' 178 = .int .i64 ((i + 1 : Nat) : Int) → Fr noB w w' → K .normal a' w' := hK
  clear hK
  rw [blkFr_of hs]
  clear hs
  generalize sl a = u at *
  clear a
  have HK := Lib.hid hK2
  clear hK2
  conv => arg 2; whnf
  simp only [blkFr, h178]
  clear h178
  go_wp2_with fail
  exact HK.out _ _  ⟨rfl, rfl⟩ (KpU.cons (rfl) (KpU.cons (rfl) (KpU.cons (rfl) (KpU.cons (rfl) (KpU.cons (rfl) (KpU.cons (rfl) (KpU.cons (rfl) (KpU.cons (rfl) (KpU.cons (rfl) (KpU.cons (rfl) (KpU.cons (rfl) (KpU.cons (rfl) (KpU.cons (rfl) (KpU.cons (rfl) (KpU.cons (rfl) (KpU.cons (rfl) (KpU.cons (rfl) (KpU.cons (rfl) (KpU.nil _ _))))))))))))))))))) (by simp only [sl]; rfl) (Fr.refl _ _)

set_option maxRecDepth 20000 in
set_option maxHeartbeats 1000000 in
theorem blkR9 (i gw : Nat) (x y : UInt32) (a : Act) (w : World) (K : Exit → Act → World → Prop) (hs : Sz 195 a)
    (h4 : sl a 4 = .pointer (some ⟨gw, 0, none⟩)) (h6 : sl a 6 = .int .i64 (i : Int)) (hi : 16 ≤ i) (hi2 : i < 64) (hx : w.cell? ⟨gw, i - 15, none⟩ = some (.int .u32 (x.toNat : Int))) (hy : w.cell? ⟨gw, i - 2, none⟩ = some (.int .u32 (y.toNat : Int)))
    (hK : ∀ a' w', Sz 195 a' → Kp [0, 1, 4, 5, 6, 9, 10, 11, 12, 13, 14, 15, 16, 17, 18, 104, 178] a a' → sl a' 7 = .int .u32 (x.toNat : Int) → sl a' 8 = .int .u32 (y.toNat : Int) → Fr noB w w' → K .normal a' w') :
    (regionOf Tryd.f63 9).wp Tryd.prog K a w := by
  have hK2 : ∀ a' w', Sz 195 a' → KpU [0, 1, 4, 5, 6, 9, 10, 11, 12, 13, 14, 15, 16, 17, 18, 104, 178] (sl a) a' → sl a' 7 = .int .u32 (x.toNat : Int) → sl a' 8 = .int .u32 (y.toNat : Int) → Fr noB w w' → K .normal a' w' := hK
  clear hK
  rw [blkFr_of hs]
  clear hs
  generalize sl a = u at *
  clear a
  have HK := Lib.hid hK2
  clear hK2
  conv => arg 2; whnf
  obtain ⟨j, hj⟩ : ∃ j, j = i - 15 := ⟨_, rfl⟩
  obtain ⟨k, hk⟩ : ∃ k, k = i - 2 := ⟨_, rfl⟩
  rw [← hj] at hx
  rw [← hk] at hy
  have q0 : (i : Int) - 15 = (j : Int) := by omega
  have q1 : j < 64 := by omega
  have q2 : (i : Int) - 2 = (k : Int) := by omega
  have q3 : k < 64 := by omega
  clear hj hk hi
  simp only [blkFr, h4, h6]
  go_quiet (fail)
  exact HK.out _ _  ⟨rfl, rfl⟩ (KpU.cons (rfl) (KpU.cons (rfl) (KpU.cons (h4.symm) (KpU.cons (rfl) (KpU.cons (h6.symm) (KpU.cons (rfl) (KpU.cons (rfl) (KpU.cons (rfl) (KpU.cons (rfl) (KpU.cons (rfl) (KpU.cons (rfl) (KpU.cons (rfl) (KpU.cons (rfl) (KpU.cons (rfl) (KpU.cons (rfl) (KpU.cons (rfl) (KpU.cons (rfl) (KpU.nil _ _)))))))))))))))))) (rfl) (rfl) ((Fr.refl _ _).drewN _)

set_option maxRecDepth 20000 in
set_option maxHeartbeats 1000000 in
theorem blkR10 (x : UInt32) (a : Act) (w : World) (K : Exit → Act → World → Prop) (hs : Sz 195 a)
    (h7 : sl a 7 = .int .u32 (x.toNat : Int)) 
    (hK : ∀ a' w', Sz 195 a' → Kp [0, 1, 4, 5, 6, 7, 8, 10, 11, 12, 13, 14, 15, 16, 17, 18, 104, 178] a a' → sl a' 9 = .int .u32 ((sg0 x).toNat : Int) → Fr noB w w' → K .normal a' w') :
    (regionOf Tryd.f63 10).wp Tryd.prog K a w := by
  have hK2 : ∀ a' w', Sz 195 a' → KpU [0, 1, 4, 5, 6, 7, 8, 10, 11, 12, 13, 14, 15, 16, 17, 18, 104, 178] (sl a) a' → sl a' 9 = .int .u32 ((sg0 x).toNat : Int) → Fr noB w w' → K .normal a' w' := hK
  clear hK
  rw [blkFr_of hs]
  clear hs
  generalize sl a = u at *
  clear a
  have HK := Lib.hid hK2
  clear hK2
  conv => arg 2; whnf
  have xlx : (x.toNat : Int) ≤ 4294967295 := by have := x.toNat_lt; omega
  simp only [blkFr, h7]
  go_wp2_with (go_at_call 71; refine (rotC _ _ _ (by decide)).mono ?_; rintro e w1 ⟨rfl, rfl⟩)
  exact HK.out _ _  ⟨rfl, rfl⟩ (KpU.cons (rfl) (KpU.cons (rfl) (KpU.cons (rfl) (KpU.cons (rfl) (KpU.cons (rfl) (KpU.cons (h7.symm) (KpU.cons (rfl) (KpU.cons (rfl) (KpU.cons (rfl) (KpU.cons (rfl) (KpU.cons (rfl) (KpU.cons (rfl) (KpU.cons (rfl) (KpU.cons (rfl) (KpU.cons (rfl) (KpU.cons (rfl) (KpU.cons (rfl) (KpU.cons (rfl) (KpU.nil _ _))))))))))))))))))) (congrArg (fun v => Value.int .u32 v) (sg0W x)) (Fr.refl _ _)

set_option maxRecDepth 20000 in
set_option maxHeartbeats 1000000 in
theorem blkR11 (x : UInt32) (a : Act) (w : World) (K : Exit → Act → World → Prop) (hs : Sz 195 a)
    (h8 : sl a 8 = .int .u32 (x.toNat : Int)) 
    (hK : ∀ a' w', Sz 195 a' → Kp [0, 1, 4, 5, 6, 7, 8, 9, 11, 12, 13, 14, 15, 16, 17, 18, 104, 178] a a' → sl a' 10 = .int .u32 ((sg1 x).toNat : Int) → Fr noB w w' → K .normal a' w') :
    (regionOf Tryd.f63 11).wp Tryd.prog K a w := by
  have hK2 : ∀ a' w', Sz 195 a' → KpU [0, 1, 4, 5, 6, 7, 8, 9, 11, 12, 13, 14, 15, 16, 17, 18, 104, 178] (sl a) a' → sl a' 10 = .int .u32 ((sg1 x).toNat : Int) → Fr noB w w' → K .normal a' w' := hK
  clear hK
  rw [blkFr_of hs]
  clear hs
  generalize sl a = u at *
  clear a
  have HK := Lib.hid hK2
  clear hK2
  conv => arg 2; whnf
  have xlx : (x.toNat : Int) ≤ 4294967295 := by have := x.toNat_lt; omega
  simp only [blkFr, h8]
  go_wp2_with (go_at_call 71; refine (rotC _ _ _ (by decide)).mono ?_; rintro e w1 ⟨rfl, rfl⟩)
  exact HK.out _ _  ⟨rfl, rfl⟩ (KpU.cons (rfl) (KpU.cons (rfl) (KpU.cons (rfl) (KpU.cons (rfl) (KpU.cons (rfl) (KpU.cons (rfl) (KpU.cons (h8.symm) (KpU.cons (rfl) (KpU.cons (rfl) (KpU.cons (rfl) (KpU.cons (rfl) (KpU.cons (rfl) (KpU.cons (rfl) (KpU.cons (rfl) (KpU.cons (rfl) (KpU.cons (rfl) (KpU.cons (rfl) (KpU.cons (rfl) (KpU.nil _ _))))))))))))))))))) (congrArg (fun v => Value.int .u32 v) (sg1W x)) (Fr.refl _ _)

set_option maxRecDepth 20000 in
set_option maxHeartbeats 1000000 in
theorem blkR17 (gh : Nat) (x y : UInt32) (a : Act) (w : World) (K : Exit → Act → World → Prop) (hs : Sz 195 a)
    (h11 : sl a 11 = .pointer (some ⟨gh, 0, none⟩)) (hx : w.cell? ⟨gh, 4, none⟩ = some (.int .u32 (x.toNat : Int))) (hy : w.cell? ⟨gh, 0, none⟩ = some (.int .u32 (y.toNat : Int)))
    (hK : ∀ a' w', Sz 195 a' → Kp [0, 1, 4, 5, 6, 7, 8, 9, 10, 11, 12, 15, 16, 17, 18, 104, 178] a a' → sl a' 13 = .int .u32 (x.toNat : Int) → sl a' 14 = .int .u32 (y.toNat : Int) → Fr noB w w' → K .normal a' w') :
    (regionOf Tryd.f63 17).wp Tryd.prog K a w := by
  have hK2 : ∀ a' w', Sz 195 a' → KpU [0, 1, 4, 5, 6, 7, 8, 9, 10, 11, 12, 15, 16, 17, 18, 104, 178] (sl a) a' → sl a' 13 = .int .u32 (x.toNat : Int) → sl a' 14 = .int .u32 (y.toNat : Int) → Fr noB w w' → K .normal a' w' := hK
  clear hK
  rw [blkFr_of hs]
  clear hs
  generalize sl a = u at *
  clear a
  have HK := Lib.hid hK2
  clear hK2
  conv => arg 2; whnf
  simp only [blkFr, h11]
  go_quiet (fail)
  exact HK.out _ _  ⟨rfl, rfl⟩ (KpU.cons (rfl) (KpU.cons (rfl) (KpU.cons (rfl) (KpU.cons (rfl) (KpU.cons (rfl) (KpU.cons (rfl) (KpU.cons (rfl) (KpU.cons (rfl) (KpU.cons (rfl) (KpU.cons (h11.symm) (KpU.cons (rfl) (KpU.cons (rfl) (KpU.cons (rfl) (KpU.cons (rfl) (KpU.cons (rfl) (KpU.cons (rfl) (KpU.cons (rfl) (KpU.nil _ _)))))))))))))))))) (rfl) (rfl) ((Fr.refl _ _).drewN _)

end Go.Proofs.YtcbkaiakdhiloabDoor
