/- The program's write: its regions. -/
import Derived.Test.YtcbkaiakdhiloabDoorHashB5
import Derived.Test.YtcbkaiakdhiloabDoorHashRow
set_option linter.unusedSimpArgs false
set_option linter.unusedVariables false
namespace Go.Proofs.YtcbkaiakdhiloabDoor
open Go.RowKit Go.Proofs

def wrFr (u : Nat → Value) : Act := ⟨#[u 0, u 1, u 2, u 3, u 4, u 5, u 6, u 7, u 8, u 9, u 10, u 11, u 12, u 13, u 14, u 15, u 16, u 17, u 18, u 19, u 20, u 21, u 22, u 23, u 24, u 25, u 26, u 27, u 28, u 29, u 30, u 31, u 32, u 33, u 34, u 35, u 36, u 37, u 38, u 39, u 40, u 41, u 42, u 43], []⟩
set_option maxRecDepth 100000 in
theorem wrFr_eq (u : Nat → Value) : wrFr u = frN 44 u := rfl
theorem wrFr_of {a : Act} (h : Sz 44 a) : a = wrFr (sl a) := h.eq.trans (wrFr_eq _).symm
set_option maxRecDepth 100000 in
theorem wrFr_sz (u : Nat → Value) : Sz 44 (wrFr u) := ⟨rfl, rfl⟩

set_option maxRecDepth 20000 in
set_option maxHeartbeats 1000000 in
theorem wrR0 (p m c : Nat) (A : Option Addr) (n : Nat) (a : Act) (w : World) (K : Exit → Act → World → Prop) (hs : Sz 44 a)
    (h0 : sl a 0 = .pointer (some ⟨p, 0, none⟩)) (h1 : sl a 1 = .slice A m c) (hn : n + m < 18446744073709551616) (hc : w.cell? ⟨p, 9, none⟩ = some (.int .u64 (n : Int))) (hf : w.frozen? ⟨p, 9, none⟩ = false)
    (hK : ∀ a' w', Sz 44 a' → Kp [0, 1] a a' → w' = w.setCell ⟨p, 9, none⟩ (.int .u64 ((n + m : Nat) : Int)) → K .normal a' w') :
    (regionOf Tryd.f35 0).wp Tryd.prog K a w := by
  have hK2 : ∀ a' w', Sz 44 a' → KpU [0, 1] (sl a) a' → w' = w.setCell ⟨p, 9, none⟩ (.int .u64 ((n + m : Nat) : Int)) → K .normal a' w' := hK
  clear hK
  rw [wrFr_of hs]
  clear hs
  generalize sl a = u at *
  clear a
  have HK := Lib.hid hK2
  clear hK2
  conv => arg 2; whnf
  have hm1 : ((n : Int) + (m : Int)) < 18446744073709551616 := by omega
  simp only [wrFr, h0, h1]
  go_wp2_with fail
  exact HK.out _ _  ⟨rfl, rfl⟩ (KpU.cons (h0.symm) (KpU.cons (h1.symm) (KpU.nil _ _)))  (by rw [Int.natCast_add])

set_option maxRecDepth 20000 in
set_option maxHeartbeats 1000000 in
theorem wrR1 (p m c : Nat) (A A1 A2 : Option Addr) (n1 c1 n2 c2 : Nat) (w2 : World) (a : Act) (w : World) (K : Exit → Act → World → Prop) (hs : Sz 44 a)
    (h0 : sl a 0 = .pointer (some ⟨p, 0, none⟩)) (h1 : sl a 1 = .slice A m c) (hc : w.cell? ⟨p, 8, none⟩ = some (.slice A1 n1 c1)) (hrun : (Builtin.append_ #[43, 43] 43 #[.slice A1 n1 c1, .slice A m c]).run Tryd.prog w = .ok (.slice A2 n2 c2) w2) (hc2 : w2.cell? ⟨p, 8, none⟩ = some (.slice A1 n1 c1)) (hf2 : w2.frozen? ⟨p, 8, none⟩ = false)
    (hK : ∀ a' w', Sz 44 a' → Kp [0, 1] a a' → w' = w2.setCell ⟨p, 8, none⟩ (.slice A2 n2 c2) → K .normal a' w') :
    (regionOf Tryd.f35 1).wp Tryd.prog K a w := by
  have hK2 : ∀ a' w', Sz 44 a' → KpU [0, 1] (sl a) a' → w' = w2.setCell ⟨p, 8, none⟩ (.slice A2 n2 c2) → K .normal a' w' := hK
  clear hK
  rw [wrFr_of hs]
  clear hs
  generalize sl a = u at *
  clear a
  have HK := Lib.hid hK2
  clear hK2
  conv => arg 2; whnf
  simp only [wrFr, h0, h1]
  go_wp2_with (at_builtin
               go_must (refine wpList_append_run rfl (.tmp 18) (.tmp 19) _ _ rfl hrun rfl rfl ?_))
  exact HK.out _ _  ⟨rfl, rfl⟩ (KpU.cons (h0.symm) (KpU.cons (h1.symm) (KpU.nil _ _)))  rfl

set_option maxRecDepth 20000 in
set_option maxHeartbeats 1000000 in
theorem wrR2 (p n c : Nat) (A : Option Addr) (a : Act) (w : World) (K : Exit → Act → World → Prop) (hs : Sz 44 a)
    (h0 : sl a 0 = .pointer (some ⟨p, 0, none⟩)) (hc : w.cell? ⟨p, 8, none⟩ = some (.slice A n c))
    (hK : ∀ a' w', Sz 44 a' → Kp [0, 1] a a' → sl a' 28 = .bool (decide (64 ≤ n)) → Fr noB w w' → K .normal a' w') :
    (regionOf Tryd.f35 2).wp Tryd.prog K a w := by
  have hK2 : ∀ a' w', Sz 44 a' → KpU [0, 1] (sl a) a' → sl a' 28 = .bool (decide (64 ≤ n)) → Fr noB w w' → K .normal a' w' := hK
  clear hK
  rw [wrFr_of hs]
  clear hs
  generalize sl a = u at *
  clear a
  have HK := Lib.hid hK2
  clear hK2
  conv => arg 2; whnf
  simp only [wrFr, h0]
  go_wp2_with fail
  exact HK.out _ _  ⟨rfl, rfl⟩ (KpU.cons (h0.symm) (KpU.cons (rfl) (KpU.nil _ _))) (congrArg Value.bool (decide_eq_decide.2 (by omega))) (Fr.refl _ _)

theorem StB.rest {w : World} {p : Nat} {H : S8} {r n : Value} (h : StB w p H.list r n) : w.cell? ⟨p, 8, none⟩ = some r := by rw [Bk.cell h 8]; rfl
theorem StB.num {w : World} {p : Nat} {H : S8} {r n : Value} (h : StB w p H.list r n) : w.cell? ⟨p, 9, none⟩ = some n := by rw [Bk.cell h 9]; rfl
theorem StB.setRest {w : World} {p : Nat} {H : S8} {r n : Value} (h : StB w p H.list r n) (r2 : Value) : StB (w.setCell ⟨p, 8, none⟩ r2) p H.list r2 n := Bk.set h 8 r2
theorem StB.setNum {w : World} {p : Nat} {H : S8} {r n : Value} (h : StB w p H.list r n) (n2 : Value) : StB (w.setCell ⟨p, 9, none⟩ n2) p H.list r n2 := Bk.set h 9 n2

set_option maxRecDepth 20000 in
set_option maxHeartbeats 1000000 in
theorem wrR3 (p g off c : Nat) (X : Nat → Prop) (H : S8) (l : List UInt8) (n : Value) (a : Act) (w : World) (K : Exit → Act → World → Prop) (hs : Sz 44 a)
    (h0 : sl a 0 = .pointer (some ⟨p, 0, none⟩)) (hS : StB w p H.list (.slice (some ⟨g, off, none⟩) l.length c) n) (hO : RO w X (.slice (some ⟨g, off, none⟩) l.length c) l) (hl : 64 ≤ l.length) (hpb : ¬ X p) (hRk : RU w 3 kTab) (hkp : 3 ≠ p)
    (hK : ∀ a' w', Sz 44 a' → Kp [0, 1] a a' → StB w' p (blk H (l.take 64)).list (.slice (some ⟨g, off, none⟩) l.length c) n → Fr (oneB p) w w' → K .normal a' w') :
    (regionOf Tryd.f35 3).wp Tryd.prog K a w := by
  have hK2 : ∀ a' w', Sz 44 a' → KpU [0, 1] (sl a) a' → StB w' p (blk H (l.take 64)).list (.slice (some ⟨g, off, none⟩) l.length c) n → Fr (oneB p) w w' → K .normal a' w' := hK
  clear hK
  rw [wrFr_of hs]
  clear hs
  generalize sl a = u at *
  clear a
  have HK := Lib.hid hK2
  clear hK2
  conv => arg 2; whnf
  have hc := hS.rest
  obtain ⟨-, hlc, hbg, hgl, hcells⟩ := hO.cells
  have hB : RB w g off l := ⟨hgl, hcells⟩
  have hcall := hashBlock H l hl p g off c (.slice (some ⟨g, off, none⟩) l.length c) n w hS hB (fun e => hpb (e ▸ hbg)) hRk hkp
  have hl1 : (64 : Int) ≤ (l.length : Int) := by omega
  have hl2 : (64 : Int) ≤ (c : Int) := by omega
  have hl3 : 64 ≤ c := by omega
  clear hS hO hB hcells hRk
  simp only [wrFr, h0]
  go_wp2_with (go_at_call 63; refine hcall.mono ?_; rintro e w9 ⟨rfl, hS9, hf9⟩)
  exact HK.out _ _  ⟨rfl, rfl⟩ (KpU.cons (h0.symm) (KpU.cons (rfl) (KpU.nil _ _)))  hS9 hf9

set_option maxRecDepth 20000 in
set_option maxHeartbeats 1000000 in
theorem wrR4a (p g off n : Nat) (a : Act) (w : World) (K : Exit → Act → World → Prop) (hs : Sz 44 a)
    (h0 : sl a 0 = .pointer (some ⟨p, 0, none⟩)) (hc : w.cell? ⟨p, 8, none⟩ = some (.slice (some ⟨g, off, none⟩) n 64)) (hf : w.frozen? ⟨p, 8, none⟩ = false) (hl : 64 ≤ n) (hlc : n ≤ 64)
    (hK : ∀ a' w', Sz 44 a' → Kp [0, 1] a a' → w' = w.setCell ⟨p, 8, none⟩ (.slice (some ⟨g, off, none⟩) 0 0) → K .normal a' w') :
    (regionOf Tryd.f35 4).wp Tryd.prog K a w := by
  have hK2 : ∀ a' w', Sz 44 a' → KpU [0, 1] (sl a) a' → w' = w.setCell ⟨p, 8, none⟩ (.slice (some ⟨g, off, none⟩) 0 0) → K .normal a' w' := hK
  clear hK
  rw [wrFr_of hs]
  clear hs
  generalize sl a = u at *
  clear a
  have HK := Lib.hid hK2
  clear hK2
  conv => arg 2; whnf
  have hl1 : (64 : Int) ≤ (n : Int) := by omega
  simp only [wrFr, h0]
  go_wp2_with fail
  exact HK.out _ _  ⟨rfl, rfl⟩ (KpU.cons (h0.symm) (KpU.cons (rfl) (KpU.nil _ _)))  rfl

set_option maxRecDepth 20000 in
set_option maxHeartbeats 1000000 in
theorem wrR4b (p g off n c : Nat) (a : Act) (w : World) (K : Exit → Act → World → Prop) (hs : Sz 44 a)
    (h0 : sl a 0 = .pointer (some ⟨p, 0, none⟩)) (hc : w.cell? ⟨p, 8, none⟩ = some (.slice (some ⟨g, off, none⟩) n c)) (hf : w.frozen? ⟨p, 8, none⟩ = false) (hl : 64 ≤ n) (hlc : n ≤ c) (hne : ¬ c = 64)
    (hK : ∀ a' w', Sz 44 a' → Kp [0, 1] a a' → w' = w.setCell ⟨p, 8, none⟩ (.slice (some ⟨g, off + 64, none⟩) (n - 64) (c - 64)) → K .normal a' w') :
    (regionOf Tryd.f35 4).wp Tryd.prog K a w := by
  have hK2 : ∀ a' w', Sz 44 a' → KpU [0, 1] (sl a) a' → w' = w.setCell ⟨p, 8, none⟩ (.slice (some ⟨g, off + 64, none⟩) (n - 64) (c - 64)) → K .normal a' w' := hK
  clear hK
  rw [wrFr_of hs]
  clear hs
  generalize sl a = u at *
  clear a
  have HK := Lib.hid hK2
  clear hK2
  conv => arg 2; whnf
  have hl1 : (64 : Int) ≤ (n : Int) := by omega
  have hl2 : (64 : Int) ≤ (c : Int) := by omega
  simp only [wrFr, h0]
  go_wp2_with fail
  exact HK.out _ _  ⟨rfl, rfl⟩ (KpU.cons (h0.symm) (KpU.cons (rfl) (KpU.nil _ _)))  rfl

end Go.Proofs.YtcbkaiakdhiloabDoor
