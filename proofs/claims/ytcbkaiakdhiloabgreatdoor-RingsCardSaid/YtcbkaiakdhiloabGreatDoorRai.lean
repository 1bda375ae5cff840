/- Parts of the walk; written by programs, merged. -/
import Derived.Test.YtcbkaiakdhiloabGreatDoorRah
import Derived.Laws.RangeString
import Derived.Lib.OthersKept
set_option linter.unusedSimpArgs false
set_option linter.unusedVariables false
set_option maxRecDepth 20000
set_option maxHeartbeats 8000000
namespace Go.Proofs.YtcbkaiakdhiloabGreatDoor
open Go.RowKit Go.Proofs
attribute [local go_sem] bs_size bs_append bs_extract bs_toList
structure CfgI where
  card : Mac
  name : List UInt8
  cap : Int
  digest : List UInt8
  block : Int
  window : Int
  rx : Int
  tx : Int
def cfgC (c : CfgI) : Array Value := #[.int .u8 (c.card.1.toNat : Int), .int .u8 (c.card.2.1.toNat : Int), .int .u8 (c.card.2.2.1.toNat : Int), .int .u8 (c.card.2.2.2.1.toNat : Int), .int .u8 (c.card.2.2.2.2.1.toNat : Int), .int .u8 (c.card.2.2.2.2.2.toNat : Int), .string (bs c.name), .int .i64 c.cap, .string (bs c.digest), .int .i64 c.block, .int .i64 c.window, .int .i64 c.rx, .int .i64 c.tx]
def CfgI.Ok1 (c : CfgI) : Prop := 1 ≤ c.name.length ∧ c.name.length ≤ 20 ∧ c.digest.length = 32
def CfgI.Ok2 (c : CfgI) : Prop := (1 ≤ c.cap ∧ c.cap ≤ 600000) ∧ (8 ≤ c.block ∧ c.block ≤ 1024) ∧ (1 ≤ c.window ∧ c.window ≤ 8) ∧ (1 ≤ c.rx ∧ c.rx ≤ 16) ∧ (1 ≤ c.tx ∧ c.tx ≤ 16)
instance (c : CfgI) : Decidable c.Ok1 := by unfold CfgI.Ok1; infer_instance
instance (c : CfgI) : Decidable c.Ok2 := by unfold CfgI.Ok2; infer_instance
def CfgI.Ok (c : CfgI) : Prop := c.Ok1 ∧ c.name.all chrOk = true ∧ c.Ok2 ∧ c.card ≠ zMac ∧ c.card.1.toNat % 2 ≠ 1
instance (c : CfgI) : Decidable c.Ok := by unfold CfgI.Ok; infer_instance
def CfgI.cfg (c : CfgI) : CfgD := ⟨c.card, c.name, c.cap.toNat, c.digest, c.block.toNat, c.window.toNat, c.rx.toNat, c.tx.toNat⟩
def stNew (c : CfgI) : St := ⟨c.cfg, [], [], 0, 0, 0, 0, 0, [], 0, 0, 0, 0, 0, 0, 0, 0, 0, 0, 0, 0, 0, 0, 0, 0, 0, 0, 0, 0, 0, 0, [], []⟩
theorem slotInfo : (Tryz.prog.info? 218).map (fun i => (i.zero, i.size, i.bytes)) = some (some (.agg #[.bool false, .string ⟨#[]⟩]), 2, 24) := by kernel_rfl
theorem made_two (n k : Nat) (h : k < n) : (madeCells #[.bool false, .string ⟨#[]⟩] (n * 2))[k * 2]? = some (.bool false) ∧ (madeCells #[.bool false, .string ⟨#[]⟩] (n * 2))[k * 2 + 1]? = some (.string ⟨#[]⟩) := by
  unfold madeCells
  constructor
  · rw [Array.getElem?_map, Array.getElem?_range, if_pos (by omega)]
    have : k * 2 % 2 = 0 := by omega
    simp [this]
  · rw [Array.getElem?_map, Array.getElem?_range, if_pos (by omega)]
    have : (k * 2 + 1) % 2 = 1 := by omega
    simp [this]
theorem ringNew (n : Nat) (w : World) (h1 : 1 ≤ n) (h2 : n ≤ 16) :
    Calls Tryz.prog 39 #[.int .i64 (n : Int)] w fun e w' => ∃ r g, e = .returned (.pointer (some ⟨r, 0, none⟩)) ∧ RingAt w' r g n [] ∧ Fr noB w w' ∧ w.heap.size ≤ r ∧ w.heap.size ≤ g ∧ r ≠ g := by
  obtain ⟨i, hi, hz, hs, hb⟩ := info_parts slotInfo
  have hrun := run_make (P := Tryz.prog) (w := w) 150 218 i _ Tryz.underlying150 hi hz .i64 .i64 (n : Int) (n : Int) (by omega) (by omega) (by rw [hb]; omega) (by omega)
  rw [Int.toNat_natCast, hs] at hrun
  have hcs : (Value.agg #[.bool false, .string ⟨#[]⟩]).cells = #[.bool false, .string ⟨#[]⟩] := rfl
  rw [hcs] at hrun
  have hat := made_two n
  have hsz := size_madeCells #[.bool false, .string ⟨#[]⟩] (n * 2)
  generalize madeCells #[.bool false, .string ⟨#[]⟩] (n * 2) = cs at *
  have hB := (Bk.new w 218 cs).alloc (.cells #[.slice (some ⟨w.heap.size, 0, none⟩) n n, .int .i64 0, .int .i64 0] 152)
  have hR := Bk.new (w.alloc (.cells cs 218)) 152 #[.slice (some ⟨w.heap.size, 0, none⟩) n n, .int .i64 0, .int .i64 0]
  have hF : Fr noB w ((w.alloc (.cells cs 218)).alloc (.cells #[.slice (some ⟨w.heap.size, 0, none⟩) n n, .int .i64 0, .int .i64 0] 152)) := ((Fr.refl _ _).alloc _).alloc _
  have hsz1 : (w.alloc (.cells cs 218)).heap.size = w.heap.size + 1 := by simp
  clear hcs hi hz hs hb
  have Hat := Lib.hid hat
  clear hat
  go_enter Tryz.func39, Tryz.ntmps39
  go_wp2_with fail
  go_ret
  rw [hsz1] at hR
  refine ⟨w.heap.size + 1, w.heap.size, rfl, ⟨0, cs, ?_, hB, hsz, h1, Nat.zero_le _, by omega, ?_⟩, hF, by omega, by omega, by omega⟩
  · rw [show (0 + ([] : List (List UInt8)).length) % n = 0 by simp]; exact hR
  · refine ⟨fun k f hf => by simp at hf, fun k _ hk => ?_⟩
    rw [Nat.zero_add, Nat.mod_eq_of_lt hk]
    exact ⟨(Hat.out k hk).1, _, (Hat.out k hk).2⟩
theorem RingAt.lt {w : World} {r g n : Nat} {q : List (List UInt8)} (h : RingAt w r g n q) : r < w.heap.size ∧ g < w.heap.size := by obtain ⟨i, cs, a, b, _⟩ := h; exact ⟨a.lt, b.lt⟩
theorem dec_size (s : ByteArray) (i : Nat) : 1 ≤ (Utf8.decode s i).2 := by
  unfold Utf8.decode
  dsimp only
  repeat' split
  all_goals simp
theorem dec_bad (s : ByteArray) (i : Nat) (h : i < s.size) (hb : 128 ≤ (s[i]'h).toNat) : 128 ≤ (Utf8.decode s i).1 := by
  have e : s.get! (i + 0) = s[i]'h := by
    show s.get! i = _
    simp [ByteArray.get!, getElem!_pos, h]
    rfl
  have hb' : 128 ≤ (s.get! (i + 0)).toNat := by rw [e]; exact hb
  unfold Utf8.decode
  dsimp only
  rw [if_neg (by omega)]
  repeat' split
  all_goals (simp [Utf8.runeError] at *; try omega)
def nvwF (u : Nat → Value) : Act := ⟨#[u 0, u 1, u 2, u 3, u 4, u 5, u 6, u 7, u 8, u 9, u 10, u 11, u 12, u 13, u 14, u 15, u 16, u 17, u 18, u 19, u 20, u 21, u 22, u 23, u 24, u 25, u 26, u 27, u 28, u 29, u 30, u 31, u 32, u 33, u 34, u 35, u 36, u 37, u 38, u 39, u 40, u 41, u 42, u 43, u 44, u 45, u 46, u 47, u 48, u 49, u 50, u 51, u 52, u 53, u 54, u 55, u 56, u 57, u 58, u 59, u 60, u 61, u 62, u 63, u 64, u 65, u 66, u 67, u 68, u 69, u 70, u 71, u 72, u 73, u 74, u 75, u 76, u 77, u 78, u 79, u 80, u 81, u 82, u 83, u 84, u 85, u 86, u 87, u 88, u 89, u 90, u 91, u 92, u 93, u 94, u 95, u 96, u 97, u 98, u 99, u 100, u 101, u 102, u 103, u 104, u 105, u 106], []⟩
set_option maxRecDepth 100000 in
theorem nvwF_eq (u : Nat → Value) : nvwF u = frN 107 u := rfl
theorem nvwF_of {a : Act} (h : Sz 107 a) : a = nvwF (sl a) := h.eq.trans (nvwF_eq _).symm
theorem nvwR0 (c : CfgI) (a : Act) (w : World) (K : Exit → Act → World → Prop) (hs : Sz 107 a)
    (h0 : sl a 0 = .agg (cfgC c)) 
    (hK : ∀ a' w', Sz 107 a' → Kp [4, 6, 8, 9, 28, 29, 56, 57, 58] a a' → sl a' 1 = .pointer (some ⟨w.heap.size, 0, none⟩) → Fr noB w w' → Bk w' w.heap.size 48 (cfgC c) → K .normal a' w') :
    (regionOf Tryz.f18 0).wp Tryz.prog K a w := by
  unfold Kp at hK; rw [nvwF_of hs]; clear hs; generalize sl a = u at *; clear a; have HK := Lib.hid hK; clear hK; conv => arg 2; whnf
  simp only [nvwF, h0]
  unfold cfgC
  go_wp2_with fail
  exact HK.out _ _  ⟨rfl, rfl⟩ (Kc rfl (Kc rfl (Kc rfl (Kc rfl (Kc rfl (Kc rfl (Kc rfl (Kc rfl (Kc rfl (Kn _ _)))))))))) (rfl) ((Fr.refl _ _).alloc _) (Bk.new _ _ _)
theorem nvwR1a (c : CfgI) (g : Nat) (a : Act) (w : World) (K : Exit → Act → World → Prop) (hs : Sz 107 a)
    (h1 : sl a 1 = .pointer (some ⟨g, 0, none⟩)) (hG : Bk w g 48 (cfgC c)) (q1 : (c.name.length : Int) < 1)
    (hK : ∀ a' w', Sz 107 a' → Kp [1, 6, 8, 9, 28, 29, 56, 57, 58] a a' → sl a' 4 = .bool false → w' = w → K .normal a' w') :
    (regionOf Tryz.f18 1).wp Tryz.prog K a w := by
  unfold Kp at hK; rw [nvwF_of hs]; clear hs; generalize sl a = u at *; clear a; have HK := Lib.hid hK; clear hK; conv => arg 2; whnf
  simp only [nvwF, h1]
  have hGc := hG.cells
  unfold cfgC at hGc
  go_wp2_with fail
  exact HK.out _ _  ⟨rfl, rfl⟩ (Kc h1.symm (Kc rfl (Kc rfl (Kc rfl (Kc rfl (Kc rfl (Kc rfl (Kc rfl (Kc rfl (Kn _ _)))))))))) (rfl) rfl
theorem nvwR1b (c : CfgI) (g : Nat) (a : Act) (w : World) (K : Exit → Act → World → Prop) (hs : Sz 107 a)
    (h1 : sl a 1 = .pointer (some ⟨g, 0, none⟩)) (hG : Bk w g 48 (cfgC c)) (q1 : ¬ (c.name.length : Int) < 1) (q2 : (20 : Int) < (c.name.length : Int))
    (hK : ∀ a' w', Sz 107 a' → Kp [1, 6, 8, 9, 28, 29, 56, 57, 58] a a' → sl a' 4 = .bool false → w' = w → K .normal a' w') :
    (regionOf Tryz.f18 1).wp Tryz.prog K a w := by
  unfold Kp at hK; rw [nvwF_of hs]; clear hs; generalize sl a = u at *; clear a; have HK := Lib.hid hK; clear hK; conv => arg 2; whnf
  simp only [nvwF, h1]
  have hGc := hG.cells
  unfold cfgC at hGc
  go_wp2_with fail
  exact HK.out _ _  ⟨rfl, rfl⟩ (Kc h1.symm (Kc rfl (Kc rfl (Kc rfl (Kc rfl (Kc rfl (Kc rfl (Kc rfl (Kc rfl (Kn _ _)))))))))) (rfl) rfl
theorem nvwR1c (c : CfgI) (g : Nat) (b : Bool) (a : Act) (w : World) (K : Exit → Act → World → Prop) (hs : Sz 107 a)
    (h1 : sl a 1 = .pointer (some ⟨g, 0, none⟩)) (hG : Bk w g 48 (cfgC c)) (q1 : ¬ (c.name.length : Int) < 1) (q2 : ¬ (20 : Int) < (c.name.length : Int)) (hb : ((c.digest.length : Int) == 32) = b)
    (hK : ∀ a' w', Sz 107 a' → Kp [1, 6, 8, 9, 28, 29, 56, 57, 58] a a' → sl a' 4 = .bool b → w' = w → K .normal a' w') :
    (regionOf Tryz.f18 1).wp Tryz.prog K a w := by
  unfold Kp at hK; rw [nvwF_of hs]; clear hs; generalize sl a = u at *; clear a; have HK := Lib.hid hK; clear hK; conv => arg 2; whnf
  simp only [nvwF, h1]
  have hGc := hG.cells
  unfold cfgC at hGc
  go_wp2_with fail
  exact HK.out _ _  ⟨rfl, rfl⟩ (Kc h1.symm (Kc rfl (Kc rfl (Kc rfl (Kc rfl (Kc rfl (Kc rfl (Kc rfl (Kc rfl (Kn _ _)))))))))) (rfl) rfl
theorem nvwR2 (c : CfgI) (g : Nat) (a : Act) (w : World) (K : Exit → Act → World → Prop) (hs : Sz 107 a)
    (h1 : sl a 1 = .pointer (some ⟨g, 0, none⟩)) (hG : Bk w g 48 (cfgC c))
    (hK : ∀ a' w', Sz 107 a' → Kp [1, 4, 6, 8, 9, 29, 56, 57, 58] a a' → sl a' 28 = .pointer (some ⟨w.heap.size, 0, none⟩) → w' = w.iter (bs c.name) 0 → K .normal a' w') :
    (regionOf Tryz.f18 2).wp Tryz.prog K a w := by
  unfold Kp at hK; rw [nvwF_of hs]; clear hs; generalize sl a = u at *; clear a; have HK := Lib.hid hK; clear hK; conv => arg 2; whnf
  simp only [nvwF, h1]
  have hGc := hG.cells
  unfold cfgC at hGc
  go_wp2_with fail
  exact HK.out _ _  ⟨rfl, rfl⟩ (Kc h1.symm (Kc rfl (Kc rfl (Kc rfl (Kc rfl (Kc rfl (Kc rfl (Kc rfl (Kc rfl (Kn _ _)))))))))) (rfl) rfl
theorem nvwR3a (k pos : Nat) (s : ByteArray) (a : Act) (w : World) (K : Exit → Act → World → Prop) (hs : Sz 107 a)
    (h28 : sl a 28 = .pointer (some ⟨k, 0, none⟩)) (hk : w.heap[k]? = some (.stringIter s pos)) (hp : pos < s.size)
    (hK : ∀ a' w', Sz 107 a' → Kp [1, 4, 6, 8, 9, 28, 56, 57, 58] a a' → sl a' 29 = .tuple #[.bool true, .int .i64 (pos : Int), .int .i32 ((Utf8.decode s pos).1 : Int)] → sl a' 30 = .bool true → w' = w.iterAt k s (pos + (Utf8.decode s pos).2) → K .normal a' w') :
    (regionOf Tryz.f18 3).wp Tryz.prog K a w := by
  unfold Kp at hK; rw [nvwF_of hs]; clear hs; generalize sl a = u at *; clear a; have HK := Lib.hid hK; clear hK; conv => arg 2; whnf
  simp only [nvwF, h28]
  have hnx := fun ty => Lib.run_next_any_at (P := Tryz.prog) w k s pos ty hk hp
  clear hk hp
  go_wp2_with fail
  exact HK.out _ _  ⟨rfl, rfl⟩ (Kc rfl (Kc rfl (Kc rfl (Kc rfl (Kc rfl (Kc h28.symm (Kc rfl (Kc rfl (Kc rfl (Kn _ _)))))))))) (rfl) (rfl) rfl
theorem nvwR3b (k pos : Nat) (s : ByteArray) (a : Act) (w : World) (K : Exit → Act → World → Prop) (hs : Sz 107 a)
    (h28 : sl a 28 = .pointer (some ⟨k, 0, none⟩)) (hk : w.heap[k]? = some (.stringIter s pos)) (hp : ¬ pos < s.size)
    (hK : ∀ a' w', Sz 107 a' → Kp [1, 4, 6, 8, 9, 28, 56, 57, 58] a a' → sl a' 30 = .bool false → w' = w → K .normal a' w') :
    (regionOf Tryz.f18 3).wp Tryz.prog K a w := by
  unfold Kp at hK; rw [nvwF_of hs]; clear hs; generalize sl a = u at *; clear a; have HK := Lib.hid hK; clear hK; conv => arg 2; whnf
  simp only [nvwF, h28]
  have hnx := fun ty => Lib.run_next_end_at (P := Tryz.prog) w k s pos ty hk hp
  clear hk hp
  go_wp2_with fail
  exact HK.out _ _  ⟨rfl, rfl⟩ (Kc rfl (Kc rfl (Kc rfl (Kc rfl (Kc rfl (Kc h28.symm (Kc rfl (Kc rfl (Kc rfl (Kn _ _)))))))))) (rfl) rfl
theorem nvwR4 (x y : Value) (r : Int) (a : Act) (w : World) (K : Exit → Act → World → Prop) (hs : Sz 107 a)
    (h29 : sl a 29 = .tuple #[.bool true, x, .int .i32 r]) 
    (hK : ∀ a' w', Sz 107 a' → Kp [1, 4, 8, 9, 28, 29, 56, 57, 58] a a' → sl a' 6 = .int .i32 r → w' = w → K .normal a' w') :
    (regionOf Tryz.f18 4).wp Tryz.prog K a w := by
  unfold Kp at hK; rw [nvwF_of hs]; clear hs; generalize sl a = u at *; clear a; have HK := Lib.hid hK; clear hK; conv => arg 2; whnf
  simp only [nvwF, h29]
  go_wp2_with fail
  exact HK.out _ _  ⟨rfl, rfl⟩ (Kc rfl (Kc rfl (Kc rfl (Kc rfl (Kc rfl (Kc h29.symm (Kc rfl (Kc rfl (Kc rfl (Kn _ _)))))))))) (rfl) rfl
theorem nvwR5a (r : Int) (a : Act) (w : World) (K : Exit → Act → World → Prop) (hs : Sz 107 a)
    (h4 : sl a 4 = .bool false) (h6 : sl a 6 = .int .i32 r) 
    (hK : ∀ a' w', Sz 107 a' → Kp [1, 6, 8, 9, 28, 29, 56, 57, 58] a a' → sl a' 4 = .bool false → w' = w → K .normal a' w') :
    (regionOf Tryz.f18 5).wp Tryz.prog K a w := by
  unfold Kp at hK; rw [nvwF_of hs]; clear hs; generalize sl a = u at *; clear a; have HK := Lib.hid hK; clear hK; conv => arg 2; whnf
  simp only [nvwF, h4, h6]
  clear h4
  go_wp2_with fail
  exact HK.out _ _  ⟨rfl, rfl⟩ (Kc rfl (Kc h6.symm (Kc rfl (Kc rfl (Kc rfl (Kc rfl (Kc rfl (Kc rfl (Kc rfl (Kn _ _)))))))))) (rfl) rfl
theorem nvwR5b (r : Int) (a : Act) (w : World) (K : Exit → Act → World → Prop) (hs : Sz 107 a)
    (h4 : sl a 4 = .bool true) (h6 : sl a 6 = .int .i32 r) (q : ¬ 32 < r)
    (hK : ∀ a' w', Sz 107 a' → Kp [1, 6, 8, 9, 28, 29, 56, 57, 58] a a' → sl a' 4 = .bool false → w' = w → K .normal a' w') :
    (regionOf Tryz.f18 5).wp Tryz.prog K a w := by
  unfold Kp at hK; rw [nvwF_of hs]; clear hs; generalize sl a = u at *; clear a; have HK := Lib.hid hK; clear hK; conv => arg 2; whnf
  simp only [nvwF, h4, h6]
  clear h4
  go_wp2_with fail
  exact HK.out _ _  ⟨rfl, rfl⟩ (Kc rfl (Kc h6.symm (Kc rfl (Kc rfl (Kc rfl (Kc rfl (Kc rfl (Kc rfl (Kc rfl (Kn _ _)))))))))) (rfl) rfl
theorem nvwR5c (r : Int) (a : Act) (w : World) (K : Exit → Act → World → Prop) (hs : Sz 107 a)
    (h4 : sl a 4 = .bool true) (h6 : sl a 6 = .int .i32 r) (q : 32 < r) (q2 : ¬ r < 127)
    (hK : ∀ a' w', Sz 107 a' → Kp [1, 6, 8, 9, 28, 29, 56, 57, 58] a a' → sl a' 4 = .bool false → w' = w → K .normal a' w') :
    (regionOf Tryz.f18 5).wp Tryz.prog K a w := by
  unfold Kp at hK; rw [nvwF_of hs]; clear hs; generalize sl a = u at *; clear a; have HK := Lib.hid hK; clear hK; conv => arg 2; whnf
  simp only [nvwF, h4, h6]
  clear h4
  go_wp2_with fail
  exact HK.out _ _  ⟨rfl, rfl⟩ (Kc rfl (Kc h6.symm (Kc rfl (Kc rfl (Kc rfl (Kc rfl (Kc rfl (Kc rfl (Kc rfl (Kn _ _)))))))))) (rfl) rfl
theorem nvwR5d (r : Int) (a : Act) (w : World) (K : Exit → Act → World → Prop) (hs : Sz 107 a)
    (h4 : sl a 4 = .bool true) (h6 : sl a 6 = .int .i32 r) (q : 32 < r) (q2 : r < 127)
    (hK : ∀ a' w', Sz 107 a' → Kp [1, 6, 8, 9, 28, 29, 56, 57, 58] a a' → sl a' 4 = .bool true → w' = w → K .normal a' w') :
    (regionOf Tryz.f18 5).wp Tryz.prog K a w := by
  unfold Kp at hK; rw [nvwF_of hs]; clear hs; generalize sl a = u at *; clear a; have HK := Lib.hid hK; clear hK; conv => arg 2; whnf
  simp only [nvwF, h4, h6]
  clear h4
  go_wp2_with fail
  exact HK.out _ _  ⟨rfl, rfl⟩ (Kc rfl (Kc h6.symm (Kc rfl (Kc rfl (Kc rfl (Kc rfl (Kc rfl (Kc rfl (Kc rfl (Kn _ _)))))))))) (rfl) rfl
theorem nvwR6 (c : CfgI) (g : Nat) (a : Act) (w : World) (K : Exit → Act → World → Prop) (hs : Sz 107 a)
    (h1 : sl a 1 = .pointer (some ⟨g, 0, none⟩)) (hG : Bk w g 48 (cfgC c))
    (hK : ∀ a' w' q t, Sz 107 a' → Kp [1, 4, 6, 8, 9, 28, 29] a a' → sl a' 56 = .slice (some ⟨q, 0, none⟩) 5 5 → sl a' 57 = .int .i64 5 → sl a' 58 = .int .i64 0 → Fr noB w w' → Bk w' q t #[.int .i64 c.cap, .int .i64 1, .int .i64 600000, .int .i64 c.block, .int .i64 8, .int .i64 1024, .int .i64 c.window, .int .i64 1, .int .i64 8, .int .i64 c.rx, .int .i64 1, .int .i64 16, .int .i64 c.tx, .int .i64 1, .int .i64 16] → w.heap.size ≤ q → K .normal a' w') :
    (regionOf Tryz.f18 6).wp Tryz.prog K a w := by
  unfold Kp at hK; rw [nvwF_of hs]; clear hs; generalize sl a = u at *; clear a; have HK := Lib.hid hK; clear hK; conv => arg 2; whnf
  simp only [nvwF, h1]
  have hGc := hG.cells
  unfold cfgC at hGc
  go_wp2_with fail
  exact HK.out _ _ _ _ ⟨rfl, rfl⟩ (Kc h1.symm (Kc rfl (Kc rfl (Kc rfl (Kc rfl (Kc rfl (Kc rfl (Kn _ _)))))))) (rfl) (rfl) (rfl) ((Fr.refl _ _).alloc _) (Bk.new _ _ _) (Nat.le_refl _)
theorem nvwR7 (i : Nat) (a : Act) (w : World) (K : Exit → Act → World → Prop) (hs : Sz 107 a)
    (h57 : sl a 57 = .int .i64 5) (h58 : sl a 58 = .int .i64 (i : Int)) 
    (hK : ∀ a' w', Sz 107 a' → Kp [1, 4, 6, 8, 9, 28, 29, 56, 57, 58] a a' → sl a' 59 = .bool (decide (i < 5)) → w' = w → K .normal a' w') :
    (regionOf Tryz.f18 7).wp Tryz.prog K a w := by
  unfold Kp at hK; rw [nvwF_of hs]; clear hs; generalize sl a = u at *; clear a; have HK := Lib.hid hK; clear hK; conv => arg 2; whnf
  simp only [nvwF, h57, h58]
  go_wp2_with fail
  exact HK.out _ _  ⟨rfl, rfl⟩ (Kc rfl (Kc rfl (Kc rfl (Kc rfl (Kc rfl (Kc rfl (Kc rfl (Kc rfl (Kc h57.symm (Kc h58.symm (Kn _ _))))))))))) (congrArg Value.bool (decide_eq_decide.2 (by omega))) rfl
theorem nvwR8_0 (c : CfgI) (q t : Nat) (a : Act) (w : World) (K : Exit → Act → World → Prop) (hs : Sz 107 a)
    (h56 : sl a 56 = .slice (some ⟨q, 0, none⟩) 5 5) (h58 : sl a 58 = .int .i64 0) (hQ : Bk w q t #[.int .i64 c.cap, .int .i64 1, .int .i64 600000, .int .i64 c.block, .int .i64 8, .int .i64 1024, .int .i64 c.window, .int .i64 1, .int .i64 8, .int .i64 c.rx, .int .i64 1, .int .i64 16, .int .i64 c.tx, .int .i64 1, .int .i64 16])
    (hK : ∀ a' w' v t2, Sz 107 a' → Kp [1, 4, 6, 9, 28, 29, 56, 57, 58] a a' → sl a' 8 = .pointer (some ⟨v, 0, none⟩) → Fr noB w w' → Bk w' v t2 #[.int .i64 c.cap, .int .i64 1, .int .i64 600000] → K .normal a' w') :
    (regionOf Tryz.f18 8).wp Tryz.prog K a w := by
  unfold Kp at hK; rw [nvwF_of hs]; clear hs; generalize sl a = u at *; clear a; have HK := Lib.hid hK; clear hK; conv => arg 2; whnf
  simp only [nvwF, h56, h58]
  have hQc := hQ.cells
  go_wp2_with fail
  exact HK.out _ _ _ _ ⟨rfl, rfl⟩ (Kc rfl (Kc rfl (Kc rfl (Kc rfl (Kc rfl (Kc rfl (Kc h56.symm (Kc rfl (Kc h58.symm (Kn _ _)))))))))) (rfl) (((Fr.refl noB w).alloc _)) (Bk.new _ _ _)
theorem nvwR8_1 (c : CfgI) (q t : Nat) (a : Act) (w : World) (K : Exit → Act → World → Prop) (hs : Sz 107 a)
    (h56 : sl a 56 = .slice (some ⟨q, 0, none⟩) 5 5) (h58 : sl a 58 = .int .i64 1) (hQ : Bk w q t #[.int .i64 c.cap, .int .i64 1, .int .i64 600000, .int .i64 c.block, .int .i64 8, .int .i64 1024, .int .i64 c.window, .int .i64 1, .int .i64 8, .int .i64 c.rx, .int .i64 1, .int .i64 16, .int .i64 c.tx, .int .i64 1, .int .i64 16])
    (hK : ∀ a' w' v t2, Sz 107 a' → Kp [1, 4, 6, 9, 28, 29, 56, 57, 58] a a' → sl a' 8 = .pointer (some ⟨v, 0, none⟩) → Fr noB w w' → Bk w' v t2 #[.int .i64 c.block, .int .i64 8, .int .i64 1024] → K .normal a' w') :
    (regionOf Tryz.f18 8).wp Tryz.prog K a w := by
  unfold Kp at hK; rw [nvwF_of hs]; clear hs; generalize sl a = u at *; clear a; have HK := Lib.hid hK; clear hK; conv => arg 2; whnf
  simp only [nvwF, h56, h58]
  have hQc := hQ.cells
  go_wp2_with fail
  exact HK.out _ _ _ _ ⟨rfl, rfl⟩ (Kc rfl (Kc rfl (Kc rfl (Kc rfl (Kc rfl (Kc rfl (Kc h56.symm (Kc rfl (Kc h58.symm (Kn _ _)))))))))) (rfl) (((Fr.refl noB w).alloc _)) (Bk.new _ _ _)
theorem nvwR8_2 (c : CfgI) (q t : Nat) (a : Act) (w : World) (K : Exit → Act → World → Prop) (hs : Sz 107 a)
    (h56 : sl a 56 = .slice (some ⟨q, 0, none⟩) 5 5) (h58 : sl a 58 = .int .i64 2) (hQ : Bk w q t #[.int .i64 c.cap, .int .i64 1, .int .i64 600000, .int .i64 c.block, .int .i64 8, .int .i64 1024, .int .i64 c.window, .int .i64 1, .int .i64 8, .int .i64 c.rx, .int .i64 1, .int .i64 16, .int .i64 c.tx, .int .i64 1, .int .i64 16])
    (hK : ∀ a' w' v t2, Sz 107 a' → Kp [1, 4, 6, 9, 28, 29, 56, 57, 58] a a' → sl a' 8 = .pointer (some ⟨v, 0, none⟩) → Fr noB w w' → Bk w' v t2 #[.int .i64 c.window, .int .i64 1, .int .i64 8] → K .normal a' w') :
    (regionOf Tryz.f18 8).wp Tryz.prog K a w := by
  unfold Kp at hK; rw [nvwF_of hs]; clear hs; generalize sl a = u at *; clear a; have HK := Lib.hid hK; clear hK; conv => arg 2; whnf
  simp only [nvwF, h56, h58]
  have hQc := hQ.cells
  go_wp2_with fail
  exact HK.out _ _ _ _ ⟨rfl, rfl⟩ (Kc rfl (Kc rfl (Kc rfl (Kc rfl (Kc rfl (Kc rfl (Kc h56.symm (Kc rfl (Kc h58.symm (Kn _ _)))))))))) (rfl) (((Fr.refl noB w).alloc _)) (Bk.new _ _ _)
theorem nvwR8_3 (c : CfgI) (q t : Nat) (a : Act) (w : World) (K : Exit → Act → World → Prop) (hs : Sz 107 a)
    (h56 : sl a 56 = .slice (some ⟨q, 0, none⟩) 5 5) (h58 : sl a 58 = .int .i64 3) (hQ : Bk w q t #[.int .i64 c.cap, .int .i64 1, .int .i64 600000, .int .i64 c.block, .int .i64 8, .int .i64 1024, .int .i64 c.window, .int .i64 1, .int .i64 8, .int .i64 c.rx, .int .i64 1, .int .i64 16, .int .i64 c.tx, .int .i64 1, .int .i64 16])
    (hK : ∀ a' w' v t2, Sz 107 a' → Kp [1, 4, 6, 9, 28, 29, 56, 57, 58] a a' → sl a' 8 = .pointer (some ⟨v, 0, none⟩) → Fr noB w w' → Bk w' v t2 #[.int .i64 c.rx, .int .i64 1, .int .i64 16] → K .normal a' w') :
    (regionOf Tryz.f18 8).wp Tryz.prog K a w := by
  unfold Kp at hK; rw [nvwF_of hs]; clear hs; generalize sl a = u at *; clear a; have HK := Lib.hid hK; clear hK; conv => arg 2; whnf
  simp only [nvwF, h56, h58]
  have hQc := hQ.cells
  go_wp2_with fail
  exact HK.out _ _ _ _ ⟨rfl, rfl⟩ (Kc rfl (Kc rfl (Kc rfl (Kc rfl (Kc rfl (Kc rfl (Kc h56.symm (Kc rfl (Kc h58.symm (Kn _ _)))))))))) (rfl) (((Fr.refl noB w).alloc _)) (Bk.new _ _ _)
theorem nvwR8_4 (c : CfgI) (q t : Nat) (a : Act) (w : World) (K : Exit → Act → World → Prop) (hs : Sz 107 a)
    (h56 : sl a 56 = .slice (some ⟨q, 0, none⟩) 5 5) (h58 : sl a 58 = .int .i64 4) (hQ : Bk w q t #[.int .i64 c.cap, .int .i64 1, .int .i64 600000, .int .i64 c.block, .int .i64 8, .int .i64 1024, .int .i64 c.window, .int .i64 1, .int .i64 8, .int .i64 c.rx, .int .i64 1, .int .i64 16, .int .i64 c.tx, .int .i64 1, .int .i64 16])
    (hK : ∀ a' w' v t2, Sz 107 a' → Kp [1, 4, 6, 9, 28, 29, 56, 57, 58] a a' → sl a' 8 = .pointer (some ⟨v, 0, none⟩) → Fr noB w w' → Bk w' v t2 #[.int .i64 c.tx, .int .i64 1, .int .i64 16] → K .normal a' w') :
    (regionOf Tryz.f18 8).wp Tryz.prog K a w := by
  unfold Kp at hK; rw [nvwF_of hs]; clear hs; generalize sl a = u at *; clear a; have HK := Lib.hid hK; clear hK; conv => arg 2; whnf
  simp only [nvwF, h56, h58]
  have hQc := hQ.cells
  go_wp2_with fail
  exact HK.out _ _ _ _ ⟨rfl, rfl⟩ (Kc rfl (Kc rfl (Kc rfl (Kc rfl (Kc rfl (Kc rfl (Kc h56.symm (Kc rfl (Kc h58.symm (Kn _ _)))))))))) (rfl) (((Fr.refl noB w).alloc _)) (Bk.new _ _ _)
theorem nvwR9a (x lo hi : Int) (v t2 : Nat) (a : Act) (w : World) (K : Exit → Act → World → Prop) (hs : Sz 107 a)
    (h4 : sl a 4 = .bool false) (h8 : sl a 8 = .pointer (some ⟨v, 0, none⟩)) (hV : Bk w v t2 #[.int .i64 x, .int .i64 lo, .int .i64 hi]) 
    (hK : ∀ a' w', Sz 107 a' → Kp [1, 6, 8, 9, 28, 29, 56, 57, 58] a a' → sl a' 4 = .bool false → w' = w → K .normal a' w') :
    (regionOf Tryz.f18 9).wp Tryz.prog K a w := by
  unfold Kp at hK; rw [nvwF_of hs]; clear hs; generalize sl a = u at *; clear a; have HK := Lib.hid hK; clear hK; conv => arg 2; whnf
  simp only [nvwF, h4, h8]
  clear h4
  have hVc := hV.cells
  go_wp2_with fail
  exact HK.out _ _  ⟨rfl, rfl⟩ (Kc rfl (Kc rfl (Kc h8.symm (Kc rfl (Kc rfl (Kc rfl (Kc rfl (Kc rfl (Kc rfl (Kn _ _)))))))))) (rfl) rfl
theorem nvwR9b (x lo hi : Int) (v t2 : Nat) (a : Act) (w : World) (K : Exit → Act → World → Prop) (hs : Sz 107 a)
    (h4 : sl a 4 = .bool true) (h8 : sl a 8 = .pointer (some ⟨v, 0, none⟩)) (hV : Bk w v t2 #[.int .i64 x, .int .i64 lo, .int .i64 hi]) (q : x < lo)
    (hK : ∀ a' w', Sz 107 a' → Kp [1, 6, 8, 9, 28, 29, 56, 57, 58] a a' → sl a' 4 = .bool false → w' = w → K .normal a' w') :
    (regionOf Tryz.f18 9).wp Tryz.prog K a w := by
  unfold Kp at hK; rw [nvwF_of hs]; clear hs; generalize sl a = u at *; clear a; have HK := Lib.hid hK; clear hK; conv => arg 2; whnf
  simp only [nvwF, h4, h8]
  clear h4
  have hVc := hV.cells
  go_wp2_with fail
  exact HK.out _ _  ⟨rfl, rfl⟩ (Kc rfl (Kc rfl (Kc h8.symm (Kc rfl (Kc rfl (Kc rfl (Kc rfl (Kc rfl (Kc rfl (Kn _ _)))))))))) (rfl) rfl
theorem nvwR9c (x lo hi : Int) (v t2 : Nat) (a : Act) (w : World) (K : Exit → Act → World → Prop) (hs : Sz 107 a)
    (h4 : sl a 4 = .bool true) (h8 : sl a 8 = .pointer (some ⟨v, 0, none⟩)) (hV : Bk w v t2 #[.int .i64 x, .int .i64 lo, .int .i64 hi]) (q : ¬ x < lo) (q2 : ¬ x ≤ hi)
    (hK : ∀ a' w', Sz 107 a' → Kp [1, 6, 8, 9, 28, 29, 56, 57, 58] a a' → sl a' 4 = .bool false → w' = w → K .normal a' w') :
    (regionOf Tryz.f18 9).wp Tryz.prog K a w := by
  unfold Kp at hK; rw [nvwF_of hs]; clear hs; generalize sl a = u at *; clear a; have HK := Lib.hid hK; clear hK; conv => arg 2; whnf
  simp only [nvwF, h4, h8]
  clear h4
  have hVc := hV.cells
  go_wp2_with fail
  exact HK.out _ _  ⟨rfl, rfl⟩ (Kc rfl (Kc rfl (Kc h8.symm (Kc rfl (Kc rfl (Kc rfl (Kc rfl (Kc rfl (Kc rfl (Kn _ _)))))))))) (rfl) rfl
theorem nvwR9d (x lo hi : Int) (v t2 : Nat) (a : Act) (w : World) (K : Exit → Act → World → Prop) (hs : Sz 107 a)
    (h4 : sl a 4 = .bool true) (h8 : sl a 8 = .pointer (some ⟨v, 0, none⟩)) (hV : Bk w v t2 #[.int .i64 x, .int .i64 lo, .int .i64 hi]) (q : ¬ x < lo) (q2 : x ≤ hi)
    (hK : ∀ a' w', Sz 107 a' → Kp [1, 6, 8, 9, 28, 29, 56, 57, 58] a a' → sl a' 4 = .bool true → w' = w → K .normal a' w') :
    (regionOf Tryz.f18 9).wp Tryz.prog K a w := by
  unfold Kp at hK; rw [nvwF_of hs]; clear hs; generalize sl a = u at *; clear a; have HK := Lib.hid hK; clear hK; conv => arg 2; whnf
  simp only [nvwF, h4, h8]
  clear h4
  have hVc := hV.cells
  go_wp2_with fail
  exact HK.out _ _  ⟨rfl, rfl⟩ (Kc rfl (Kc rfl (Kc h8.symm (Kc rfl (Kc rfl (Kc rfl (Kc rfl (Kc rfl (Kc rfl (Kn _ _)))))))))) (rfl) rfl
theorem nvwR10 (i : Nat) (a : Act) (w : World) (K : Exit → Act → World → Prop) (hs : Sz 107 a)
    (h58 : sl a 58 = .int .i64 (i : Int)) (hi : i ≤ 5)
    (hK : ∀ a' w', Sz 107 a' → Kp [1, 4, 6, 8, 9, 28, 29, 56, 57] a a' → sl a' 58 = .int .i64 ((i + 1 : Nat) : Int) → w' = w → K .normal a' w') :
    (regionOf Tryz.f18 10).wp Tryz.prog K a w := by
  unfold Kp at hK; rw [nvwF_of hs]; clear hs; generalize sl a = u at *; clear a; have HK := Lib.hid hK; clear hK; conv => arg 2; whnf
  simp only [nvwF, h58]
  clear h58
  go_wp2_with fail
  exact HK.out _ _  ⟨rfl, rfl⟩ (Kc rfl (Kc rfl (Kc rfl (Kc rfl (Kc rfl (Kc rfl (Kc rfl (Kc rfl (Kc rfl (Kn _ _)))))))))) (by simp only [sl]; rfl) rfl
attribute [-go_sem] run_eql_struct run_neq_struct run_equalIn_agg in
theorem nvwR11a (c : CfgI) (g : Nat) (a : Act) (w : World) (K : Exit → Act → World → Prop) (hs : Sz 107 a)
    (h1 : sl a 1 = .pointer (some ⟨g, 0, none⟩)) (h4 : sl a 4 = .bool false) (hG : Bk w g 48 (cfgC c)) 
    (hK : ∀ a' w', Sz 107 a' → Kp [1, 4, 6, 8, 9, 28, 29, 56, 57, 58] a a' → sl a' 92 = .bool true → w' = w → K .normal a' w') :
    (regionOf Tryz.f18 11).wp Tryz.prog K a w := by
  unfold Kp at hK; rw [nvwF_of hs]; clear hs; generalize sl a = u at *; clear a; have HK := Lib.hid hK; clear hK; conv => arg 2; whnf
  simp only [nvwF, h1, h4]
  have hGc := hG.cells
  unfold cfgC at hGc
  go_wp2_with fail
  exact HK.out _ _  ⟨rfl, rfl⟩ (Kc h1.symm (Kc h4.symm (Kc rfl (Kc rfl (Kc rfl (Kc rfl (Kc rfl (Kc rfl (Kc rfl (Kc rfl (Kn _ _))))))))))) (rfl) rfl
attribute [-go_sem] run_eql_struct run_neq_struct run_equalIn_agg in
theorem nvwR11b (c : CfgI) (g : Nat) (a : Act) (w : World) (K : Exit → Act → World → Prop) (hs : Sz 107 a)
    (h1 : sl a 1 = .pointer (some ⟨g, 0, none⟩)) (h4 : sl a 4 = .bool true) (hG : Bk w g 48 (cfgC c)) (qz : decide (c.card = zMac) = true)
    (hK : ∀ a' w', Sz 107 a' → Kp [1, 4, 6, 8, 9, 28, 29, 56, 57, 58] a a' → sl a' 92 = .bool true → w' = w → K .normal a' w') :
    (regionOf Tryz.f18 11).wp Tryz.prog K a w := by
  unfold Kp at hK; rw [nvwF_of hs]; clear hs; generalize sl a = u at *; clear a; have HK := Lib.hid hK; clear hK; conv => arg 2; whnf
  simp only [nvwF, h1, h4]
  have hGc := hG.cells
  unfold cfgC at hGc
  have hE : ∀ w, (binOp .eql 23 (.agg #[.int .u8 (c.card.1.toNat : Int), .int .u8 (c.card.2.1.toNat : Int), .int .u8 (c.card.2.2.1.toNat : Int), .int .u8 (c.card.2.2.2.1.toNat : Int), .int .u8 (c.card.2.2.2.2.1.toNat : Int), .int .u8 (c.card.2.2.2.2.2.toNat : Int)]) (.agg #[.int .u8 0, .int .u8 0, .int .u8 0, .int .u8 0, .int .u8 0, .int .u8 0])).run Tryz.prog w = .ok (.bool true) w := fun w => (mac_eql c.card zMac w).trans (by rw [qz])
  have hGd := mac_guard
  go_wp2_with fail
  exact HK.out _ _  ⟨rfl, rfl⟩ (Kc h1.symm (Kc h4.symm (Kc rfl (Kc rfl (Kc rfl (Kc rfl (Kc rfl (Kc rfl (Kc rfl (Kc rfl (Kn _ _))))))))))) (rfl) rfl
attribute [-go_sem] run_eql_struct run_neq_struct run_equalIn_agg in
theorem nvwR11c (c : CfgI) (g : Nat) (a : Act) (w : World) (K : Exit → Act → World → Prop) (hs : Sz 107 a)
    (h1 : sl a 1 = .pointer (some ⟨g, 0, none⟩)) (h4 : sl a 4 = .bool true) (hG : Bk w g 48 (cfgC c)) (qz : decide (c.card = zMac) = false) (qa : bits .and .u8 (c.card.1.toNat : Int) 1 = 1)
    (hK : ∀ a' w', Sz 107 a' → Kp [1, 4, 6, 8, 9, 28, 29, 56, 57, 58] a a' → sl a' 92 = .bool true → w' = w → K .normal a' w') :
    (regionOf Tryz.f18 11).wp Tryz.prog K a w := by
  unfold Kp at hK; rw [nvwF_of hs]; clear hs; generalize sl a = u at *; clear a; have HK := Lib.hid hK; clear hK; conv => arg 2; whnf
  simp only [nvwF, h1, h4]
  have hGc := hG.cells
  unfold cfgC at hGc
  have hE : ∀ w, (binOp .eql 23 (.agg #[.int .u8 (c.card.1.toNat : Int), .int .u8 (c.card.2.1.toNat : Int), .int .u8 (c.card.2.2.1.toNat : Int), .int .u8 (c.card.2.2.2.1.toNat : Int), .int .u8 (c.card.2.2.2.2.1.toNat : Int), .int .u8 (c.card.2.2.2.2.2.toNat : Int)]) (.agg #[.int .u8 0, .int .u8 0, .int .u8 0, .int .u8 0, .int .u8 0, .int .u8 0])).run Tryz.prog w = .ok (.bool false) w := fun w => (mac_eql c.card zMac w).trans (by rw [qz])
  have hGd := mac_guard
  go_wp2_with fail
  exact HK.out _ _  ⟨rfl, rfl⟩ (Kc h1.symm (Kc h4.symm (Kc rfl (Kc rfl (Kc rfl (Kc rfl (Kc rfl (Kc rfl (Kc rfl (Kc rfl (Kn _ _))))))))))) (rfl) rfl
attribute [-go_sem] run_eql_struct run_neq_struct run_equalIn_agg in
theorem nvwR11d (c : CfgI) (g : Nat) (a : Act) (w : World) (K : Exit → Act → World → Prop) (hs : Sz 107 a)
    (h1 : sl a 1 = .pointer (some ⟨g, 0, none⟩)) (h4 : sl a 4 = .bool true) (hG : Bk w g 48 (cfgC c)) (qz : decide (c.card = zMac) = false) (qa : bits .and .u8 (c.card.1.toNat : Int) 1 = 0)
    (hK : ∀ a' w', Sz 107 a' → Kp [1, 4, 6, 8, 9, 28, 29, 56, 57, 58] a a' → sl a' 92 = .bool false → w' = w → K .normal a' w') :
    (regionOf Tryz.f18 11).wp Tryz.prog K a w := by
  unfold Kp at hK; rw [nvwF_of hs]; clear hs; generalize sl a = u at *; clear a; have HK := Lib.hid hK; clear hK; conv => arg 2; whnf
  simp only [nvwF, h1, h4]
  have hGc := hG.cells
  unfold cfgC at hGc
  have hE : ∀ w, (binOp .eql 23 (.agg #[.int .u8 (c.card.1.toNat : Int), .int .u8 (c.card.2.1.toNat : Int), .int .u8 (c.card.2.2.1.toNat : Int), .int .u8 (c.card.2.2.2.1.toNat : Int), .int .u8 (c.card.2.2.2.2.1.toNat : Int), .int .u8 (c.card.2.2.2.2.2.toNat : Int)]) (.agg #[.int .u8 0, .int .u8 0, .int .u8 0, .int .u8 0, .int .u8 0, .int .u8 0])).run Tryz.prog w = .ok (.bool false) w := fun w => (mac_eql c.card zMac w).trans (by rw [qz])
  have hGd := mac_guard
  go_wp2_with fail
  exact HK.out _ _  ⟨rfl, rfl⟩ (Kc h1.symm (Kc h4.symm (Kc rfl (Kc rfl (Kc rfl (Kc rfl (Kc rfl (Kc rfl (Kc rfl (Kc rfl (Kn _ _))))))))))) (rfl) rfl
theorem nvwR12  (a : Act) (w : World) (K : Exit → Act → World → Prop) (hs : Sz 107 a)
     
    (hK : ∀ a' w', Sz 107 a' → Kp [1, 4, 6, 8, 9, 28, 29, 56, 57, 58] a a' → sl a' 2 = .pointer none → sl a' 3 = .int .i64 8 → w' = w → K .normal a' w') :
    (regionOf Tryz.f18 12).wp Tryz.prog K a w := by
  unfold Kp at hK; rw [nvwF_of hs]; clear hs; generalize sl a = u at *; clear a; have HK := Lib.hid hK; clear hK; conv => arg 2; whnf
  simp only [nvwF]
  go_wp2_with fail
  exact HK.out _ _  ⟨rfl, rfl⟩ (Kc rfl (Kc rfl (Kc rfl (Kc rfl (Kc rfl (Kc rfl (Kc rfl (Kc rfl (Kc rfl (Kc rfl (Kn _ _))))))))))) (rfl) (rfl) rfl
theorem nvwR13 (c : CfgI) (g : Nat) (nr nt : Nat) (a : Act) (w : World) (K : Exit → Act → World → Prop) (hs : Sz 107 a)
    (h1 : sl a 1 = .pointer (some ⟨g, 0, none⟩)) (hG : Bk w g 48 (cfgC c)) (hnr : c.rx = (nr : Int)) (hnt : c.tx = (nt : Int)) (h1r : 1 ≤ nr) (h2r : nr ≤ 16) (h1t : 1 ≤ nt) (h2t : nt ≤ 16)
    (hK : ∀ a' w' p r1 g1 r2 g2, Sz 107 a' → Kp [1, 4, 6, 8, 28, 29, 56, 57, 58] a a' → sl a' 9 = .pointer (some ⟨p, 0, none⟩) → Fr noB w w' → Bk w' p 102 #[.int .u8 (c.card.1.toNat : Int), .int .u8 (c.card.2.1.toNat : Int), .int .u8 (c.card.2.2.1.toNat : Int), .int .u8 (c.card.2.2.2.1.toNat : Int), .int .u8 (c.card.2.2.2.2.1.toNat : Int), .int .u8 (c.card.2.2.2.2.2.toNat : Int), .string (bs c.name), .int .i64 c.cap, .string (bs c.digest), .int .i64 c.block, .int .i64 c.window, .int .i64 (nr : Int), .int .i64 (nt : Int), .pointer (some ⟨r1, 0, none⟩), .pointer (some ⟨r2, 0, none⟩), .map none, .int .i64 0, .int .u32 0, .int .i64 0, .int .i64 0, .int .u16 0, .int .i64 0, .int .u32 0, .int .u32 0, .int .u32 0, .int .u32 0, .int .u32 0, .int .u32 0, .int .i64 0, .int .i64 0, .int .i64 0, .int .i64 0, .int .i64 0, .int .i64 0, .int .u16 0, .int .u16 0, .int .u16 0, .int .i64 0, .int .i64 0, .int .u16 0, .int .i64 0, .int .i64 0, .int .i64 0, .string ⟨#[]⟩, .slice none 0 0] → RingAt w' r1 g1 nr [] → RingAt w' r2 g2 nt [] → [p, r1, g1, r2, g2].Nodup → (∀ b ∈ [p, r1, g1, r2, g2], w.heap.size ≤ b) → K .normal a' w') :
    (regionOf Tryz.f18 13).wp Tryz.prog K a w := by
  unfold Kp at hK; rw [nvwF_of hs]; clear hs; generalize sl a = u at *; clear a; have HK := Lib.hid hK; clear hK; conv => arg 2; whnf
  simp only [nvwF, h1]
  refine wp_region_pls (by kernel_rfl) (fun w' => Bk w' g 48 (cfgC c) ∧ Fr noB w w') [8] (.p 1 (.p 4 (.q 0 (.q 2 (.q 5 (.e 3 (.e 6 (.p 7 (.e 8 (.p 9 .nil)))))))))) (by kernel_rfl) (⟨hG.drew, (Fr.refl _ _).drew⟩) ?_
  intro ops Q' hO hQ' wr1 hR1
  iterate 2 (refine pl_p0 hO rfl rfl ?_ (fun w' => ?_) ?_; rotate_left 1; (focus (go_simp; ((try with_reducible rfl); done))); simp only [Act.put, List.setIfInBounds_toArray, List.set_cons_zero, List.set_cons_succ])
  iterate 3 (refine pl_q0 hO rfl rfl ?_ (fun w' hS => ?_) ?_; rotate_left 1; (focus (obtain ⟨hG, hF⟩ := hS; have hGc := hG.cells; unfold cfgC at hGc; rw [hnr, hnt] at hGc; go_simp; ((try with_reducible rfl); done))); simp only [Act.put, List.setIfInBounds_toArray, List.set_cons_zero, List.set_cons_succ])
  refine pl_e0 hO rfl rfl rfl (fun K hK => ?_)
  go_simp
  refine (ringNew nr _ h1r h2r).mono ?_
  rintro e w4 ⟨r1, g1, rfl, hR1a, hF1a, hl1, hl2, hne1⟩
  refine hK _ _ (⟨hR1.1.keep hF1a (fun x => x), hR1.2.none hF1a⟩) (fun hR_3 => ?_)
  clear hK K
  refine pl_e0 hO rfl rfl rfl (fun K hK => ?_)
  go_simp
  refine (ringNew nt _ h1t h2t).mono ?_
  rintro e w5 ⟨r2, g2, rfl, hR2a, hF2a, hl3, hl4, hne2⟩
  refine hK _ _ (⟨hR_3.1.keep hF2a (fun x => x), hR_3.2.none hF2a⟩) (fun hR_6 => ?_)
  clear hK K
  refine pl_p0 hO rfl rfl ?_ (fun w' => ?_) ?_; rotate_left 1; (focus (go_simp; ((try with_reducible rfl); done))); simp only [Act.put, List.setIfInBounds_toArray, List.set_cons_zero, List.set_cons_succ]
  refine pl_b0 hO rfl rfl rfl (fun K hK => ?_)
  go_simp
  refine hK _ _ ?_
  clear hK K
  refine pl_p0 hO rfl rfl ?_ (fun w' => ?_) ?_; rotate_left 1; (focus (go_simp; ((try with_reducible rfl); done))); simp only [Act.put, List.setIfInBounds_toArray, List.set_cons_zero, List.set_cons_succ]
  refine pl_nil (hQ' _ _ ?_)
  exact HK.out _ _ w5.heap.size r1 g1 r2 g2 ⟨rfl, rfl⟩ (Kc h1.symm (Kc rfl (Kc rfl (Kc rfl (Kc rfl (Kc rfl (Kc rfl (Kc rfl (Kc rfl (Kn _ _)))))))))) (rfl) (hR_6.2.alloc _) (Bk.new _ _ _) ((hR1a.keep hF2a (fun x => x) (fun x => x)).keep ((Fr.refl noB w5).alloc _) (fun x => x) (fun x => x)) (hR2a.keep ((Fr.refl noB w5).alloc _) (fun x => x) (fun x => x)) (by have a1 := hR1a.lt; have a2 := hR2a.lt; simp only [List.nodup_cons, List.mem_cons, List.not_mem_nil, or_false, not_or, List.nodup_nil, and_true, not_false_eq_true]; exact ⟨⟨by omega, by omega, by omega, by omega⟩, ⟨hne1, by omega, by omega⟩, ⟨by omega, by omega⟩, hne2⟩) (by have b1 := hR1.2.size; have b2 := hR_3.2.size; have b3 := hR_6.2.size; intro b hb; simp only [List.mem_cons, List.not_mem_nil, or_false] at hb; rcases hb with rfl | rfl | rfl | rfl | rfl <;> omega)
theorem nvwR14 (p : Nat) (v : Value) (a : Act) (w : World) (K : Exit → Act → World → Prop) (hs : Sz 107 a)
    (h9 : sl a 9 = .pointer (some ⟨p, 0, none⟩)) (hc : w.cell? ⟨p, 15, none⟩ = some v) (hfz : w.frozen? ⟨p, 15, none⟩ = false)
    (hK : ∀ a' w', Sz 107 a' → Kp [1, 4, 6, 8, 9, 28, 29, 56, 57, 58] a a' → w' = (w.alloc (.map #[] 0)).setCell ⟨p, 15, none⟩ (.map (some w.heap.size)) → K .normal a' w') :
    (regionOf Tryz.f18 14).wp Tryz.prog K a w := by
  unfold Kp at hK; rw [nvwF_of hs]; clear hs; generalize sl a = u at *; clear a; have HK := Lib.hid hK; clear hK; conv => arg 2; whnf
  simp only [nvwF, h9]
  have hcall := cacheClear p 15 v w hc hfz
  have Hcall := Lib.hid hcall
  clear hcall hc hfz
  go_wp2_with fail
  refine Hcall.out.mono ?_
  rintro e w3 ⟨rfl, rfl⟩
  go_wp2_with fail
  exact HK.out _ _  ⟨rfl, rfl⟩ (Kc rfl (Kc rfl (Kc rfl (Kc rfl (Kc h9.symm (Kc rfl (Kc rfl (Kc rfl (Kc rfl (Kc rfl (Kn _ _)))))))))))  rfl
theorem nvwR15 (p : Nat) (a : Act) (w : World) (K : Exit → Act → World → Prop) (hs : Sz 107 a)
    (h9 : sl a 9 = .pointer (some ⟨p, 0, none⟩)) 
    (hK : ∀ a' w', Sz 107 a' → Kp [1, 4, 6, 8, 9, 28, 29, 56, 57, 58] a a' → sl a' 2 = .pointer (some ⟨p, 0, none⟩) → sl a' 3 = .int .i64 0 → w' = w → K .normal a' w') :
    (regionOf Tryz.f18 15).wp Tryz.prog K a w := by
  unfold Kp at hK; rw [nvwF_of hs]; clear hs; generalize sl a = u at *; clear a; have HK := Lib.hid hK; clear hK; conv => arg 2; whnf
  simp only [nvwF, h9]
  go_wp2_with fail
  exact HK.out _ _  ⟨rfl, rfl⟩ (Kc rfl (Kc rfl (Kc rfl (Kc rfl (Kc h9.symm (Kc rfl (Kc rfl (Kc rfl (Kc rfl (Kc rfl (Kn _ _))))))))))) (rfl) (rfl) rfl
theorem nvwR1 (c : CfgI) (g : Nat) (a : Act) (w : World) (K : Exit → Act → World → Prop) (hs : Sz 107 a) (h1 : sl a 1 = .pointer (some ⟨g, 0, none⟩)) (hG : Bk w g 48 (cfgC c))
    (hK : ∀ a' w', Sz 107 a' → Kp [1] a a' → sl a' 4 = .bool (decide c.Ok1) → w' = w → K .normal a' w') : (regionOf Tryz.f18 1).wp Tryz.prog K a w := by
  have kk : ∀ {l : List Nat} {a' : Act}, Kp l a a' → (∀ x ∈ [1], x ∈ l) → Kp [1] a a' := fun k hl i hi => k i (hl i hi)
  by_cases q1 : c.name.length < 1
  · exact nvwR1a c g a w K hs h1 hG (by omega) fun a' w' hs' k' o => hK a' w' hs' (kk k' (by decide)) (o.trans (by rw [decide_eq_false (fun x : c.Ok1 => by obtain ⟨x1, x2, x3⟩ := x; omega)]))
  by_cases q2 : 20 < c.name.length
  · exact nvwR1b c g a w K hs h1 hG (by omega) (by omega) fun a' w' hs' k' o => hK a' w' hs' (kk k' (by decide)) (o.trans (by rw [decide_eq_false (fun x : c.Ok1 => by obtain ⟨x1, x2, x3⟩ := x; omega)]))
  · refine nvwR1c c g (decide (c.digest.length = 32)) a w K hs h1 hG (by omega) (by omega) (by rw [Bool.eq_iff_iff]; simp only [beq_iff_eq, decide_eq_true_eq]; omega) fun a' w' hs' k' o => hK a' w' hs' (kk k' (by decide)) (o.trans ?_)
    congr 1; rw [decide_eq_decide]; unfold CfgI.Ok1; omega
theorem nvwR5 (r : Int) (b : Bool) (a : Act) (w : World) (K : Exit → Act → World → Prop) (hs : Sz 107 a) (h4 : sl a 4 = .bool b) (h6 : sl a 6 = .int .i32 r)
    (hK : ∀ a' w', Sz 107 a' → Kp [1, 28] a a' → sl a' 4 = .bool (b && decide (32 < r ∧ r < 127)) → w' = w → K .normal a' w') : (regionOf Tryz.f18 5).wp Tryz.prog K a w := by
  have kk : ∀ {l : List Nat} {a' : Act}, Kp l a a' → (∀ x ∈ [1, 28], x ∈ l) → Kp [1, 28] a a' := fun k hl i hi => k i (hl i hi)
  cases b with
  | false => exact nvwR5a r a w K hs h4 h6 fun a' w' hs' k' o => hK a' w' hs' (kk k' (by decide)) (o.trans (by rw [Bool.false_and]))
  | true =>
    by_cases q : 32 < r
    · by_cases q2 : r < 127
      · exact nvwR5d r a w K hs h4 h6 q q2 fun a' w' hs' k' o => hK a' w' hs' (kk k' (by decide)) (o.trans (by rw [Bool.true_and, decide_eq_true ⟨q, q2⟩]))
      · exact nvwR5c r a w K hs h4 h6 q q2 fun a' w' hs' k' o => hK a' w' hs' (kk k' (by decide)) (o.trans (by rw [Bool.true_and, decide_eq_false (fun x => q2 x.2)]))
    · exact nvwR5b r a w K hs h4 h6 q fun a' w' hs' k' o => hK a' w' hs' (kk k' (by decide)) (o.trans (by rw [Bool.true_and, decide_eq_false (fun x => q x.1)]))
theorem nvwR9 (x lo hi : Int) (v t2 : Nat) (b : Bool) (a : Act) (w : World) (K : Exit → Act → World → Prop) (hs : Sz 107 a) (h4 : sl a 4 = .bool b) (h8 : sl a 8 = .pointer (some ⟨v, 0, none⟩)) (hV : Bk w v t2 #[.int .i64 x, .int .i64 lo, .int .i64 hi])
    (hK : ∀ a' w', Sz 107 a' → Kp [1, 56, 57, 58] a a' → sl a' 4 = .bool (b && decide (lo ≤ x ∧ x ≤ hi)) → w' = w → K .normal a' w') : (regionOf Tryz.f18 9).wp Tryz.prog K a w := by
  have kk : ∀ {l : List Nat} {a' : Act}, Kp l a a' → (∀ x ∈ [1, 56, 57, 58], x ∈ l) → Kp [1, 56, 57, 58] a a' := fun k hl i hi => k i (hl i hi)
  cases b with
  | false => exact nvwR9a x lo hi v t2 a w K hs h4 h8 hV fun a' w' hs' k' o => hK a' w' hs' (kk k' (by decide)) (o.trans (by rw [Bool.false_and]))
  | true =>
    by_cases q : x < lo
    · exact nvwR9b x lo hi v t2 a w K hs h4 h8 hV q fun a' w' hs' k' o => hK a' w' hs' (kk k' (by decide)) (o.trans (by rw [Bool.true_and, decide_eq_false (fun z => by omega)]))
    · by_cases q2 : x ≤ hi
      · exact nvwR9d x lo hi v t2 a w K hs h4 h8 hV q q2 fun a' w' hs' k' o => hK a' w' hs' (kk k' (by decide)) (o.trans (by rw [Bool.true_and, decide_eq_true ⟨by omega, q2⟩]))
      · exact nvwR9c x lo hi v t2 a w K hs h4 h8 hV q q2 fun a' w' hs' k' o => hK a' w' hs' (kk k' (by decide)) (o.trans (by rw [Bool.true_and, decide_eq_false (fun z => q2 z.2)]))
theorem and1 (x : Nat) (h : x < 256) : bits .and .u8 (x : Int) 1 = ((x % 2 : Nat) : Int) := by
  rw [show (1 : Int) = ((1 : Nat) : Int) from rfl, u8_and_nat x 1 h (by omega), Nat.and_one_is_mod]
theorem nvwR11 (c : CfgI) (g : Nat) (b : Bool) (a : Act) (w : World) (K : Exit → Act → World → Prop) (hs : Sz 107 a) (h1 : sl a 1 = .pointer (some ⟨g, 0, none⟩)) (h4 : sl a 4 = .bool b) (hG : Bk w g 48 (cfgC c))
    (hK : ∀ a' w', Sz 107 a' → Kp [1] a a' → sl a' 92 = .bool (!(b && decide (c.card ≠ zMac ∧ c.card.1.toNat % 2 ≠ 1))) → w' = w → K .normal a' w') : (regionOf Tryz.f18 11).wp Tryz.prog K a w := by
  have kk : ∀ {l : List Nat} {a' : Act}, Kp l a a' → (∀ x ∈ [1], x ∈ l) → Kp [1] a a' := fun k hl i hi => k i (hl i hi)
  cases b with
  | false => exact nvwR11a c g a w K hs h1 h4 hG fun a' w' hs' k' o => hK a' w' hs' (kk k' (by decide)) (o.trans (by rw [Bool.false_and]; rfl))
  | true =>
    by_cases hz : c.card = zMac
    · exact nvwR11b c g a w K hs h1 h4 hG (decide_eq_true hz) fun a' w' hs' k' o => hK a' w' hs' (kk k' (by decide)) (o.trans (by rw [Bool.true_and, decide_eq_false (fun z => z.1 hz)]; rfl))
    · have ha := and1 c.card.1.toNat c.card.1.toNat_lt
      by_cases hp : c.card.1.toNat % 2 = 1
      · exact nvwR11c c g a w K hs h1 h4 hG (decide_eq_false hz) (by rw [ha, hp]; rfl) fun a' w' hs' k' o => hK a' w' hs' (kk k' (by decide)) (o.trans (by rw [Bool.true_and, decide_eq_false (fun z => z.2 hp)]; rfl))
      · exact nvwR11d c g a w K hs h1 h4 hG (decide_eq_false hz) (by rw [ha, show c.card.1.toNat % 2 = 0 by omega]; rfl) fun a' w' hs' k' o => hK a' w' hs' (kk k' (by decide)) (o.trans (by rw [Bool.true_and, decide_eq_true ⟨hz, hp⟩]; rfl))
theorem fr_iterAt (w : World) (k : Nat) (s : ByteArray) (pos : Nat) : Fr (oneB k) w (w.iterAt k s pos) :=
  ⟨rfl, rfl, rfl, by show _ ≤ (w.heap.setIfInBounds k _).size; simp, fun j hj hne => by
    show (w.heap.setIfInBounds k _)[j]? = _
    rw [Array.getElem?_setIfInBounds_ne (fun e => hne e.symm)]⟩
theorem fr_iter (w : World) (s : ByteArray) (pos : Nat) : Fr noB w (w.iter s pos) := (Fr.refl noB w).alloc _
def ckL (c : CfgI) : List Bool := [decide (1 ≤ c.cap ∧ c.cap ≤ 600000), decide (8 ≤ c.block ∧ c.block ≤ 1024), decide (1 ≤ c.window ∧ c.window ≤ 8), decide (1 ≤ c.rx ∧ c.rx ≤ 16), decide (1 ≤ c.tx ∧ c.tx ≤ 16)]
theorem ckL_all (c : CfgI) : (ckL c).all id = decide c.Ok2 := by
  rw [Bool.eq_iff_iff]
  unfold ckL CfgI.Ok2
  simp [List.all_cons, and_assoc]
theorem neName (c : CfgI) (k : Nat) (b0 : Bool) (a : Act) (w : World) (K : Exit → Act → World → Prop) (hs : Sz 107 a) (h4 : sl a 4 = .bool b0) (h28 : sl a 28 = .pointer (some ⟨k, 0, none⟩)) (hk : w.heap[k]? = some (.stringIter (bs c.name) 0))
    (hK : ∀ a' w', Sz 107 a' → Kp [1] a a' → sl a' 4 = .bool (b0 && c.name.all chrOk) → Fr (oneB k) w w' → K .normal a' w') : (Code.block 0 (((regionOf Tryz.f18 3).seq ((Code.cond (.tmp 30) .skip (.exit 0)).seq (.block 1 ((regionOf Tryz.f18 4).seq (regionOf Tryz.f18 5))))).loop)).wp Tryz.prog K a w := by
  refine wp_block ?_
  refine wp_loop_sz 107 (fun a' w' => ∃ (pos : Nat) (b : Bool), sl a' 4 = .bool b ∧ Kp [1, 28] a a' ∧ w'.heap[k]? = some (.stringIter (bs c.name) pos) ∧ Fr (oneB k) w w' ∧ ((b = true ∧ b0 = true ∧ (c.name.take pos).all chrOk = true) ∨ (b = false ∧ (b0 && c.name.all chrOk) = false)))
    (fun _ w' => match w'.heap[k]? with | some (.stringIter _ pos) => c.name.length - pos | _ => 0)
    hs ⟨0, b0, h4, Kp.refl _ _, hk, Fr.refl _ _, by cases b0 <;> simp⟩ ?_
  rintro a1 w1 hs1 ⟨pos, b, e4, k1, hk1, hf1, hinv⟩
  have hsz : (bs c.name).size = c.name.length := bs_size _
  refine wp_seq ?_
  by_cases hp : pos < c.name.length
  · have hp' : pos < (bs c.name).size := by omega
    refine nvwR3a k pos (bs c.name) a1 w1 _ hs1 ((k1 28 (by decide)).trans h28) hk1 hp' ?_
    intro a2 w2 hs2 k2 o29 o30 hw
    have hf2 : Fr (oneB k) w w2 := by rw [hw]; exact hf1.trans (fr_iterAt _ _ _ _)
    have hk2 : w2.heap[k]? = some (.stringIter (bs c.name) (pos + (Utf8.decode (bs c.name) pos).2)) := by rw [hw]; exact Lib.iterAt_heap _ _ _ _ _ hk1
    have hd1 := dec_size (bs c.name) pos
    refine wp_seq ?_
    refine wp_if o30 (fun _ => wp_skip ?_) (fun hb => by cases hb)
    refine wp_block (wp_seq ?_)
    refine nvwR4 _ (.bool true) _ a2 w2 _ hs2 o29 ?_
    intro a3 w3 hs3 k3 o6 hw3; subst hw3
    refine nvwR5 _ b a3 w3 _ hs3 ((k3 4 (by decide)).trans ((k2 4 (by decide)).trans e4)) o6 ?_
    intro a4 w4 hs4 k4 o4 hw4; subst hw4
    obtain ⟨x, hx⟩ : ∃ x, c.name[pos]? = some x := ⟨_, List.getElem?_eq_getElem hp⟩
    have hgx : (bs c.name)[pos]'hp' = x := by rw [bs_get c.name pos hp']; rw [List.getElem?_eq_getElem hp] at hx; injection hx
    refine ⟨hs4, ⟨_, _, o4, fun i hi => (k4 i (by revert hi; revert i; decide)).trans ((k3 i (by revert hi; revert i; decide)).trans ((k2 i (by revert hi; revert i; decide)).trans (k1 i hi))), hk2, hf2, ?_⟩, ?_⟩
    · rcases hinv with ⟨rfl, hb0, ha⟩ | ⟨rfl, hT⟩
      · by_cases h128 : x.toNat < 128
        · have hdec := decode_ascii (bs c.name) pos hp' (by rw [hgx]; exact h128)
          rw [hdec, hgx]
          by_cases hc : chrOk x = true
          · left
            refine ⟨?_, hb0, take_all hx ha hc⟩
            unfold chrOk at hc
            simp only [Bool.and_eq_true, decide_eq_true_eq] at hc
            rw [Bool.true_and, decide_eq_true]
            simp only
            omega
          · right
            have hcf : chrOk x = false := by simpa using hc
            refine ⟨?_, ?_⟩
            · unfold chrOk at hcf
              rw [Bool.true_and, decide_eq_false]
              simp only
              intro hz
              have : (decide (33 ≤ x.toNat) && decide (x.toNat ≤ 126)) = true := by simp; omega
              rw [this] at hcf; cases hcf
            · have : c.name.all chrOk = false := by
                rw [List.all_eq_false]; exact ⟨x, List.mem_of_getElem? hx, by rw [hcf]; decide⟩
              rw [this, Bool.and_false]
        · right
          have hbad := dec_bad (bs c.name) pos hp' (by rw [hgx]; omega)
          have hcf : chrOk x = false := by unfold chrOk; simp; omega
          refine ⟨?_, ?_⟩
          · rw [Bool.true_and, decide_eq_false]; omega
          · have : c.name.all chrOk = false := by
              rw [List.all_eq_false]; exact ⟨x, List.mem_of_getElem? hx, by rw [hcf]; decide⟩
            rw [this, Bool.and_false]
      · right; exact ⟨Bool.false_and _, hT⟩
    · simp only [hk2, hk1]; omega
  · refine nvwR3b k pos (bs c.name) a1 w1 _ hs1 ((k1 28 (by decide)).trans h28) hk1 (by omega) ?_
    intro a2 w2 hs2 k2 o30 hw; subst hw
    refine wp_seq ?_
    refine wp_if o30 (fun hb => by cases hb) (fun _ => ?_)
    refine wp_exit (then_exit (then_exit (inBlock_self ?_)))
    refine hK a2 w2 hs2 (fun i hi => (k2 i (by revert hi; revert i; decide)).trans (k1 i (by revert hi; revert i; decide))) ?_ hf1
    rw [(k2 4 (by decide)).trans e4]
    congr 1
    rcases hinv with ⟨rfl, hb0, ha⟩ | ⟨rfl, hT⟩
    · rw [List.take_of_length_le (by omega)] at ha; rw [hb0, ha]; rfl
    · exact hT.symm
theorem neNums (c : CfgI) (q t : Nat) (b0 : Bool) (a : Act) (w : World) (K : Exit → Act → World → Prop) (hs : Sz 107 a) (h4 : sl a 4 = .bool b0) (h56 : sl a 56 = .slice (some ⟨q, 0, none⟩) 5 5) (h57 : sl a 57 = .int .i64 5) (h58 : sl a 58 = .int .i64 ((0 : Nat) : Int)) (hQ : Bk w q t #[.int .i64 c.cap, .int .i64 1, .int .i64 600000, .int .i64 c.block, .int .i64 8, .int .i64 1024, .int .i64 c.window, .int .i64 1, .int .i64 8, .int .i64 c.rx, .int .i64 1, .int .i64 16, .int .i64 c.tx, .int .i64 1, .int .i64 16])
    (hK : ∀ a' w', Sz 107 a' → Kp [1] a a' → sl a' 4 = .bool (b0 && decide c.Ok2) → Fr noB w w' → K .normal a' w') : (Code.block 2 (((regionOf Tryz.f18 7).seq ((Code.cond (.tmp 59) .skip (.exit 2)).seq ((Code.block 3 ((regionOf Tryz.f18 8).seq (regionOf Tryz.f18 9))).seq (regionOf Tryz.f18 10)))).loop)).wp Tryz.prog K a w := by
  refine wp_block ?_
  refine wp_loop_sz 107 (fun a' w' => ∃ i : Nat, i ≤ 5 ∧ sl a' 58 = .int .i64 (i : Int) ∧ sl a' 4 = .bool (b0 && ((ckL c).take i).all id) ∧ Kp [1, 56, 57] a a' ∧ Fr noB w w') (fun a' _ => 5 - (intOf (sl a' 58)).toNat)
    hs ⟨0, by omega, h58, by rw [List.take_zero]; simpa using h4, Kp.refl _ _, Fr.refl _ _⟩ ?_
  rintro a1 w1 hs1 ⟨i, hi, i58, e4, k1, hf1⟩
  refine wp_seq ?_
  refine nvwR7 i a1 w1 _ hs1 ((k1 57 (by decide)).trans h57) i58 ?_
  intro a2 w2 hs2 k2 o59 hw; subst hw
  have k12 : Kp [1, 56, 57] a a2 := fun j hj => (k2 j (by revert hj; revert j; decide)).trans (k1 j hj)
  refine wp_seq ?_
  refine wp_if o59 (fun hb => ?_) (fun hb => ?_)
  rotate_left
  · have h5 : i = 5 := by have := of_decide_eq_false hb; omega
    subst h5
    refine wp_exit (then_exit (then_exit (inBlock_self ?_)))
    refine hK a2 w2 hs2 (fun j hj => k12 j (by revert hj; revert j; decide)) ?_ hf1
    rw [(k2 4 (by decide)).trans e4, List.take_of_length_le (by simp [ckL]), ckL_all]
  have hlt := of_decide_eq_true hb
  refine wp_skip ?_
  refine wp_seq (wp_block (wp_seq ?_))
  have i58' := (k2 58 (by decide)).trans i58
  have fin : ∀ a5 w5, Sz 107 a5 → Kp [1, 56, 57, 58] a2 a5 → sl a5 4 = .bool (b0 && ((ckL c).take (i + 1)).all id) → Fr noB w2 w5 → (regionOf Tryz.f18 10).wp Tryz.prog (Exit.then (fun a' w' => Sz 107 a' ∧ (∃ i : Nat, i ≤ 5 ∧ sl a' 58 = .int .i64 (i : Int) ∧ sl a' 4 = .bool (b0 && ((ckL c).take i).all id) ∧ Kp [1, 56, 57] a a' ∧ Fr noB w w') ∧ 5 - (intOf (sl a' 58)).toNat < 5 - (intOf (sl a1 58)).toNat) (Exit.inBlock 2 K)) a5 w5 := by
    intro a5 w5 hs5 k5 o4 hf5
    refine nvwR10 i a5 w5 _ hs5 ((k5 58 (by decide)).trans i58') hi ?_
    intro a6 w6 hs6 k6 o58 hw; subst hw
    refine ⟨hs6, ⟨i + 1, by omega, o58, (k6 4 (by decide)).trans o4, fun j hj => (k6 j (by revert hj; revert j; decide)).trans ((k5 j (by revert hj; revert j; decide)).trans (k12 j hj)), hf1.none hf5⟩, ?_⟩
    rw [o58, i58]; simp only [intOf]; omega
  match i, hlt, i58', e4, fin with
  | 0, _, i58, e4, fin =>
    refine nvwR8_0 c q t a2 w2 _ hs2 ((k12 56 (by decide)).trans h56) i58 (hQ.keep hf1 (fun x => x)) ?_
    intro a3 w3 v t2 hs3 k3 o8 hf3 hV
    refine nvwR9 c.cap 1 600000 v t2 _ a3 w3 _ hs3 ((k3 4 (by decide)).trans ((k2 4 (by decide)).trans e4)) o8 hV ?_
    intro a4 w4 hs4 k4 o4 hw4; subst hw4
    exact fin a4 w4 hs4 (fun j hj => (k4 j (by revert hj; revert j; decide)).trans (k3 j (by revert hj; revert j; decide))) (by rw [o4]; congr 1; simp [ckL, Bool.and_assoc]) hf3
  | 1, _, i58, e4, fin =>
    refine nvwR8_1 c q t a2 w2 _ hs2 ((k12 56 (by decide)).trans h56) i58 (hQ.keep hf1 (fun x => x)) ?_
    intro a3 w3 v t2 hs3 k3 o8 hf3 hV
    refine nvwR9 c.block 8 1024 v t2 _ a3 w3 _ hs3 ((k3 4 (by decide)).trans ((k2 4 (by decide)).trans e4)) o8 hV ?_
    intro a4 w4 hs4 k4 o4 hw4; subst hw4
    exact fin a4 w4 hs4 (fun j hj => (k4 j (by revert hj; revert j; decide)).trans (k3 j (by revert hj; revert j; decide))) (by rw [o4]; congr 1; simp [ckL, Bool.and_assoc]) hf3
  | 2, _, i58, e4, fin =>
    refine nvwR8_2 c q t a2 w2 _ hs2 ((k12 56 (by decide)).trans h56) i58 (hQ.keep hf1 (fun x => x)) ?_
    intro a3 w3 v t2 hs3 k3 o8 hf3 hV
    refine nvwR9 c.window 1 8 v t2 _ a3 w3 _ hs3 ((k3 4 (by decide)).trans ((k2 4 (by decide)).trans e4)) o8 hV ?_
    intro a4 w4 hs4 k4 o4 hw4; subst hw4
    exact fin a4 w4 hs4 (fun j hj => (k4 j (by revert hj; revert j; decide)).trans (k3 j (by revert hj; revert j; decide))) (by rw [o4]; congr 1; simp [ckL, Bool.and_assoc]) hf3
  | 3, _, i58, e4, fin =>
    refine nvwR8_3 c q t a2 w2 _ hs2 ((k12 56 (by decide)).trans h56) i58 (hQ.keep hf1 (fun x => x)) ?_
    intro a3 w3 v t2 hs3 k3 o8 hf3 hV
    refine nvwR9 c.rx 1 16 v t2 _ a3 w3 _ hs3 ((k3 4 (by decide)).trans ((k2 4 (by decide)).trans e4)) o8 hV ?_
    intro a4 w4 hs4 k4 o4 hw4; subst hw4
    exact fin a4 w4 hs4 (fun j hj => (k4 j (by revert hj; revert j; decide)).trans (k3 j (by revert hj; revert j; decide))) (by rw [o4]; congr 1; simp [ckL, Bool.and_assoc]) hf3
  | 4, _, i58, e4, fin =>
    refine nvwR8_4 c q t a2 w2 _ hs2 ((k12 56 (by decide)).trans h56) i58 (hQ.keep hf1 (fun x => x)) ?_
    intro a3 w3 v t2 hs3 k3 o8 hf3 hV
    refine nvwR9 c.tx 1 16 v t2 _ a3 w3 _ hs3 ((k3 4 (by decide)).trans ((k2 4 (by decide)).trans e4)) o8 hV ?_
    intro a4 w4 hs4 k4 o4 hw4; subst hw4
    exact fin a4 w4 hs4 (fun j hj => (k4 j (by revert hj; revert j; decide)).trans (k3 j (by revert hj; revert j; decide))) (by rw [o4]; congr 1; simp [ckL, Bool.and_assoc]) hf3
def newPost (c : CfgI) (w : World) (e : Ending) (w' : World) : Prop :=
  (c.Ok → ∃ L : Lay, e = .returned (.tuple #[.pointer (some ⟨L.p, 0, none⟩), .int .i64 0]) ∧ BootAt w' L (stNew c) ∧ (∀ b, own' L b → w.heap.size ≤ b) ∧ Fr noB w w') ∧
  (¬ c.Ok → e = .returned (.tuple #[.pointer none, .int .i64 8]) ∧ Fr noB w w')
theorem ok_eq (c : CfgI) : (((decide c.Ok1 && c.name.all chrOk) && decide c.Ok2) && decide (c.card ≠ zMac ∧ c.card.1.toNat % 2 ≠ 1)) = decide c.Ok := by
  have h : ((c.Ok1 ∧ c.name.all chrOk = true) ∧ c.Ok2) ∧ (c.card ≠ zMac ∧ c.card.1.toNat % 2 ≠ 1) ↔ c.Ok := by
    unfold CfgI.Ok
    exact ⟨fun h => ⟨h.1.1.1, h.1.1.2, h.1.2, h.2⟩, fun h => ⟨⟨⟨h.1, h.2.1⟩, h.2.2.1⟩, h.2.2.2⟩⟩
  rw [Bool.eq_iff_iff, decide_eq_true_iff (p := c.Ok), ← h]
  simp only [Bool.and_eq_true, decide_eq_true_eq]
theorem new_ok {c : CfgI} (h : c.Ok) : (stNew c).Ok := by
  obtain ⟨h1, _, h2, _⟩ := h
  obtain ⟨a1, a2, a3⟩ := h1
  obtain ⟨⟨b1, b2⟩, ⟨b3, b4⟩, ⟨b5, b6⟩, ⟨b7, b8⟩, b9, b10⟩ := h2
  constructor <;> simp [stNew, CfgI.cfg] <;> omega
theorem bootNewL (c : CfgI) (w : World) (hgb : Glb w) : Calls Tryz.prog 18 #[.agg (cfgC c)] w (newPost c w) := by
  have hgl := glb_lt hgb
  go_enter Tryz.func18, Tryz.ntmps18
  refine wp_seq ?_
  refine nvwR0 c _ w _ ⟨rfl, rfl⟩ rfl ?_
  intro a0 w0 hs0 k0 e1 hf0 hG0
  clear k0
  generalize w.heap.size = g at e1 hG0
  refine wp_seq ?_
  refine nvwR1 c g a0 w0 _ hs0 e1 hG0 ?_
  intro a1 w1 hs1 k1 o4 hw; subst hw
  have e1 := (k1 1 (by decide)).trans e1
  refine wp_seq (wp_seq ?_)
  refine nvwR2 c g a1 w1 _ hs1 e1 hG0 ?_
  intro a2 w2 hs2 k2 o28 hw
  have hf2 : Fr noB w1 w2 := by rw [hw]; exact fr_iter _ _ _
  have hk2 : w2.heap[w1.heap.size]? = some (.stringIter (bs c.name) 0) := by rw [hw]; exact World.iter_heap _ _ _
  clear hw
  have e1 := (k2 1 (by decide)).trans e1
  have hgl1 := hG0.lt
  obtain ⟨kk, hkk⟩ : ∃ kk, w1.heap.size = kk := ⟨_, rfl⟩
  rw [hkk] at hk2 o28
  refine neName c kk _ a2 w2 _ hs2 ((k2 4 (by decide)).trans o4) o28 hk2 ?_
  intro a3 w3 hs3 k3 o4 hf3
  have hf03 : Fr noB w1 w3 := hf2.trans' hf3 (fun j hj e => by have e' : j = kk := e; omega)
  have hG3 := hG0.keep hf03 (fun x => x)
  have e1 := (k3 1 (by decide)).trans e1
  refine wp_seq (wp_seq ?_)
  refine nvwR6 c g a3 w3 _ hs3 e1 hG3 ?_
  intro a4 w4 q t hs4 k4 o56 o57 o58 hf4 hQ4 hq
  have e1 := (k4 1 (by decide)).trans e1
  refine neNums c q t _ a4 w4 _ hs4 ((k4 4 (by decide)).trans o4) o56 o57 o58 hQ4 ?_
  intro a5 w5 hs5 k5 o4 hf5
  have hf05 := (hf03.none hf4).none hf5
  have hG5 := (hG3.keep hf4 (fun x => x)).keep hf5 (fun x => x)
  have e1 := (k5 1 (by decide)).trans e1
  refine wp_seq (wp_seq ?_)
  refine nvwR11 c g _ a5 w5 _ hs5 e1 o4 hG5 ?_
  intro a6 w6 hs6 k6 o92 hw; subst hw
  rw [ok_eq] at o92
  have e1 := (k6 1 (by decide)).trans e1
  have hfw := hf0.none hf05
  refine wp_if o92 (fun hb => ?_) (fun hb => ?_)
  · have hno : ¬ c.Ok := by simpa using hb
    refine wp_seq ?_
    refine nvwR12 a6 w6 _ hs6 ?_
    intro a7 w7 hs7 k7 o2 o3 hw; subst hw
    refine wp_ret ?_
    refine bodyPost_ret (results_tmp2 rfl _ _ _) hs7.defers ⟨fun h => absurd h hno, fun _ => ⟨?_, hfw⟩⟩
    rw [show a7.tmps.getD 2 undef = .pointer none from o2, show a7.tmps.getD 3 undef = .int .i64 8 from o3]
  have hok : c.Ok := by simpa using hb
  have hnk := new_ok hok
  obtain ⟨r0, r1, t0, t1⟩ : 1 ≤ c.rx ∧ c.rx ≤ 16 ∧ 1 ≤ c.tx ∧ c.tx ≤ 16 := by
    obtain ⟨_, _, h2, _⟩ := hok
    obtain ⟨_, _, _, ⟨b7, b8⟩, b9, b10⟩ := h2
    exact ⟨b7, b8, b9, b10⟩
  refine wp_skip ?_
  refine wp_seq ?_
  refine nvwR13 c g c.rx.toNat c.tx.toNat a6 w6 _ hs6 e1 hG5 (by omega) (by omega) (by omega) (by omega) (by omega) (by omega) ?_
  intro a7 w7 p r1' g1 r2 g2 hs7 k7 o9 hf7 hB7 hRx hTx hnd hge
  refine wp_seq ?_
  refine nvwR14 p (.map none) a7 w7 _ hs7 o9 (hB7.cell 15) (hB7.free 15) ?_
  intro a8 w8 hs8 k8 hw8
  have hcl := cleared (w := w7) (cb := p) (co := 15) hB7.lt
  have hB8 := (hB7.alloc (.map #[] 0)).set 15 (.map (some w7.heap.size))
  have hf8 : Fr (oneB p) w7 w8 := by rw [hw8]; exact (((Fr.refl (oneB p) w7).alloc _).setCell (p := ⟨p, 15, none⟩) (fun _ => rfl) _)
  rw [← hw8] at hcl hB8
  refine wp_seq ?_
  refine nvwR15 p a8 w8 _ hs8 ((k8 9 (by decide)).trans o9) ?_
  intro a9 w9 hs9 k9 o2 o3 hw; subst hw
  refine wp_ret ?_
  have hws := hfw.size
  have hs67 := hf7.size
  simp only [List.nodup_cons, List.mem_cons, List.not_mem_nil, or_false, not_or, List.nodup_nil, and_true, not_false_eq_true] at hnd
  obtain ⟨⟨n1, n2, n3, n4⟩, ⟨m2, m3, m4⟩, ⟨l3, l4⟩, q4⟩ := hnd
  have gp := hge p (by simp)
  have gr1 := hge r1' (by simp)
  have gg1 := hge g1 (by simp)
  have gr2 := hge r2 (by simp)
  have gg2 := hge g2 (by simp)
  have lp := hB7.lt
  have lr := hRx.lt
  have lt2 := hTx.lt
  have hFr : Fr noB w w9 := (hfw.none hf7).trans' hf8 (fun j hj e => by have e' : j = p := e; omega)
  have hown : ∀ b, own' ⟨p, r1', g1, r2, g2, w7.heap.size, none, 0⟩ b → w6.heap.size ≤ b := by
    rintro b (hb | ⟨a, ha, _⟩)
    · simp only [Lay.blocks, List.mem_cons, List.not_mem_nil, or_false] at hb
      rcases hb with rfl | rfl | rfl | rfl | rfl | rfl <;> omega
    · cases ha
  refine bodyPost_ret (results_tmp2 rfl _ _ _) hs9.defers ⟨fun _ => ⟨⟨p, r1', g1, r2, g2, w7.heap.size, none, 0⟩, ?_, ?_, fun b hb => Nat.le_trans hws (hown b hb), hFr⟩, fun h => absurd hok h⟩
  · rw [show a9.tmps.getD 2 undef = .pointer (some ⟨p, 0, none⟩) from o2, show a9.tmps.getD 3 undef = .int .i64 0 from o3]
  · refine ⟨?_, ?_, ?_, hcl, ⟨by simp [u8s, stNew], .inl ⟨rfl, rfl⟩⟩, ?_, (fun a ha => by cases ha), hnk, hgb.keep hFr (fun _ _ x => x), fun b hb hx => ?_⟩
    · have hc : bootC (stNew c) ⟨p, r1', g1, r2, g2, w7.heap.size, none, 0⟩ = (#[.int .u8 (c.card.1.toNat : Int), .int .u8 (c.card.2.1.toNat : Int), .int .u8 (c.card.2.2.1.toNat : Int), .int .u8 (c.card.2.2.2.1.toNat : Int), .int .u8 (c.card.2.2.2.2.1.toNat : Int), .int .u8 (c.card.2.2.2.2.2.toNat : Int), .string (bs c.name), .int .i64 c.cap, .string (bs c.digest), .int .i64 c.block, .int .i64 c.window, .int .i64 (c.rx.toNat : Int), .int .i64 (c.tx.toNat : Int), .pointer (some ⟨r1', 0, none⟩), .pointer (some ⟨r2, 0, none⟩), .map none, .int .i64 0, .int .u32 0, .int .i64 0, .int .i64 0, .int .u16 0, .int .i64 0, .int .u32 0, .int .u32 0, .int .u32 0, .int .u32 0, .int .u32 0, .int .u32 0, .int .i64 0, .int .i64 0, .int .i64 0, .int .i64 0, .int .i64 0, .int .i64 0, .int .u16 0, .int .u16 0, .int .u16 0, .int .i64 0, .int .i64 0, .int .u16 0, .int .i64 0, .int .i64 0, .int .i64 0, .string ⟨#[]⟩, .slice none 0 0] : Array Value).setIfInBounds 15 (.map (some w7.heap.size)) := by
        obtain ⟨_, _, h2, _⟩ := hok
        obtain ⟨⟨b1, b2⟩, ⟨b3, b4⟩, ⟨b5, b6⟩, _⟩ := h2
        unfold bootC stNew CfgI.cfg
        simp only [List.setIfInBounds_toArray, List.set_cons_succ, List.set_cons_zero]
        rw [Int.toNat_of_nonneg (show 0 ≤ c.cap by omega), Int.toNat_of_nonneg (show 0 ≤ c.block by omega), Int.toNat_of_nonneg (show 0 ≤ c.window by omega)]
        rfl
      rw [hc]; exact hB8
    · exact hRx.keep hf8 (fun e => n1 e.symm) (fun e => n2 e.symm)
    · exact hTx.keep hf8 (fun e => n3 e.symm) (fun e => n4 e.symm)
    · simp only [Lay.blocks, List.nodup_cons, List.mem_cons, List.not_mem_nil, or_false, not_or, List.nodup_nil, and_true, not_false_eq_true]
      exact ⟨⟨n1, n2, n3, n4, by omega⟩, ⟨m2, m3, m4, by omega⟩, ⟨l3, l4, by omega⟩, ⟨q4, by omega⟩, by omega⟩
    · have := hown b hb; have := hgl b hx; omega
end Go.Proofs.YtcbkaiakdhiloabGreatDoor
namespace Go.Proofs.YtcbkaiakdhiloabGreatDoor
open Go.RowKit Go.Proofs
attribute [local go_sem] bs_size bs_append bs_sub bs_toList
def pickI (c : Int) (n : Nat) : Nat := ((if c < 0 then -(c + 1) else c) % (n : Int)).toNat
theorem pickI_lt (c : Int) (n : Nat) (h : 0 < n) : pickI c n < n := by
  unfold pickI
  have h1 := Int.emod_lt_of_pos (if c < 0 then -(c + 1) else c) (by omega : (0 : Int) < (n : Int))
  have h2 := Int.emod_nonneg (if c < 0 then -(c + 1) else c) (by omega : (n : Int) ≠ 0)
  omega
theorem pickI_int (c : Int) (n : Nat) (h : 0 < n) : ((pickI c n : Nat) : Int) = (if c < 0 then -(c + 1) else c) % (n : Int) := by
  unfold pickI
  exact Int.toNat_of_nonneg (Int.emod_nonneg _ (by omega))
end Go.Proofs.YtcbkaiakdhiloabGreatDoor
