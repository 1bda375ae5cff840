/- netbootkeep.bytes: bytes made of the number 1. -/
import Derived.Test.YtcbkaiakdhiloabDoorByB
import Derived.BigQuiet
set_option linter.unusedSimpArgs false
set_option linter.unusedVariables false
namespace Go.Proofs.YtcbkaiakdhiloabDoor
open Go.RowKit Go.Proofs
attribute [local go_sem] bs_size bs_append bs_extract

def bytesK (k : Nat) : UInt8 := UInt8.ofNat (k + 3 + k * k / 7 + k / 251)
/-- n bytes, k of them laid -/
def bytesN (n k : Nat) : List UInt8 := (List.range k).map bytesK ++ List.replicate (n - k) 0
theorem bytesN_length (n k : Nat) (h : k ≤ n) : (bytesN n k).length = n := by unfold bytesN; simp; omega
theorem bytesN_step (n k : Nat) (h : k < n) : (bytesN n k).set k (bytesK k) = bytesN n (k + 1) := by
  unfold bytesN
  have e : List.replicate (n - k) (0 : UInt8) = 0 :: List.replicate (n - (k + 1)) 0 := by rw [show n - k = (n - (k + 1)) + 1 by omega, List.replicate_succ]
  rw [List.set_append_right _ _ (by simp), e]
  simp [List.range_succ]
theorem bytes_info2 : (Tryd.prog.info? 5).map (fun i => (i.zero, i.size, i.bytes)) = some (some (.int .u8 0), 1, 1) := by kernel_rfl

set_option maxRecDepth 20000 in
set_option maxHeartbeats 1000000 in
theorem keepBytes1 (n : Nat) (w : World) (hn : n ≤ 100000) :
    Calls Tryd.prog 10 #[.int .i64 (n : Int), .int .i64 1] w fun e w' => e = .returned (.string (bs (bytesN n n))) ∧ Fr noB w w' := by
  obtain ⟨inf, hi, hz, hs, hb⟩ := info_parts bytes_info2
  have hmk := run_make_bytes (P := Tryd.prog) 43 5 inf Tryd.underlying43 hi hz hs hb n (by omega) w
  have hB0 : Bk (w.alloc (.cells (List.replicate n (Value.int .u8 0)).toArray 5)) w.heap.size 5 (u8s (bytesN n 0)).toArray := by
    have e : u8s (bytesN n 0) = List.replicate n (Value.int .u8 0) := by unfold bytesN; simp [u8s, u8v]
    rw [e]; exact Bk.new w _ _
  have hf0 : Fr noB w (w.alloc (.cells (List.replicate n (Value.int .u8 0)).toArray 5)) := (Fr.refl _ _).alloc _
  generalize w.alloc (.cells (List.replicate n (Value.int .u8 0)).toArray 5) = w1 at *
  obtain ⟨g, hg⟩ : ∃ g, g = w.heap.size := ⟨_, rfl⟩
  rw [← hg] at hmk hB0
  have Hg := Lib.hid hg
  clear hg hi hz hs hb
  go_enter Tryd.func10, Tryd.ntmps10
  go_wp2_with fail
  go_loopw [11] (fun iv wr => ∃ (k : Nat), k ≤ n ∧ iv = .int .i64 (k : Int) ∧ Bk wr g 5 (u8s (bytesN n k)).toArray ∧ Fr noB w wr) (fun iv _ => n - (intOf iv).toNat)
  case atStart => exact ⟨0, by omega, rfl, hB0, hf0⟩
  case round =>
    obtain ⟨k, hk, rfl, hB, hf⟩ := hrel
    have hlen := bytesN_length n k hk
    by_cases hlt : k < n
    · obtain ⟨q, hq⟩ : ∃ q, q = k * k := ⟨_, rfl⟩
      have hql : q ≤ 10000000000 := by rw [hq]; exact Nat.le_trans (Nat.mul_le_mul (by omega : k ≤ 100000) (by omega : k ≤ 100000)) (by decide)
      have e1 : (k : Int) * (k : Int) = (q : Int) := by rw [hq]; exact (Int.natCast_mul _ _).symm
      obtain ⟨y, hy⟩ : ∃ y, y = bytesK k := ⟨_, rfl⟩
      have e2 : ((k : Int) + 3 + (q : Int) / 7 + (k : Int) / 251) % 256 = (y.toNat : Int) := by
        rw [hy, bytesK, UInt8.toNat_ofNat', ← hq]; omega
      have hset := Bk.set hB k (.int .u8 (y.toNat : Int))
      have e3 : (u8s (bytesN n k)).toArray.setIfInBounds k (.int .u8 (y.toNat : Int)) = (u8s (bytesN n (k + 1))).toArray := by
        rw [← bytesN_step n k hlt, ← hy]; simp [u8s, List.map_set, u8v]
      rw [e3] at hset
      have hcl : ∃ z, wr.cell? ⟨g, k, none⟩ = some z := ⟨_, by rw [hB.cell k]; exact Array.getElem?_eq_getElem (by simp [u8s, hlen]; exact hlt)⟩
      obtain ⟨z, hcell⟩ := hcl
      have hfz := hB.free k
      have hfs := hf.setCell (p := ⟨g, k, none⟩) (fun h => by have := Hg.out; simp only at h; omega) (.int .u8 (y.toNat : Int))
      have Hset := Lib.hid hset
      clear hset hB hq hy e3 hlen
      go_wp2_with fail
      exact ⟨⟨k + 1, by omega, by rw [Int.natCast_add]; rfl, Hset.out, hfs⟩, by simp only [intOf]; omega⟩
    · obtain rfl : k = n := by omega
      have hcv := run_str_of (P := Tryd.prog) wr 43 9 5 Tryd.underlying43 Tryd.underlying5 Tryd.underlying9 noB (some ⟨g, 0, none⟩) k k (bytesN k k) (SlR.of_bk (S := noB) (n := k) (size := 1) hB id (by simp [u8s, hlen])) (.inr ⟨_, _, rfl⟩)
      clear hB hlen
      go_wp2_with fail
      go_ret
      exact ⟨rfl, hf⟩
end Go.Proofs.YtcbkaiakdhiloabDoor
