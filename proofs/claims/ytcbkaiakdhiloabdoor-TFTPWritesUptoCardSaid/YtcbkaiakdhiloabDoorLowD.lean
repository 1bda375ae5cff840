/- tftp.lower, plain: small letters rune by rune; what it makes of texts of ASCII, and when it makes a text of ASCII. -/
import Derived.Test.YtcbkaiakdhiloabDoorLow
import Derived.Lib.MapLaws
import Derived.Lib.TrimAscii
set_option linter.unusedSimpArgs false
set_option linter.unusedVariables false
namespace Go.Proofs.YtcbkaiakdhiloabDoor
open Go.RowKit Go.Proofs

def lowF (r : Int) : Int := if 65 ≤ r ∧ r ≤ 90 then r + 32 else r
def lowD (l : List UInt8) : List UInt8 := Lib.mapD lowF l
def asc (l : List UInt8) : Prop := ∀ b ∈ l, b.toNat < 128
theorem lowF_hi {r : Int} (h : 128 ≤ r) : lowF r = r := by unfold lowF; rw [if_neg (by omega)]
theorem lowC_asc (c : UInt8) (h : c.toNat < 128) : Lib.encodeRune (lowF (c.toNat : Int)) = [lowC c] := by
  have e : lowF (c.toNat : Int) = ((lowC c).toNat : Int) := by
    unfold lowF lowC
    by_cases h1 : 65 ≤ c.toNat ∧ c.toNat ≤ 90
    · rw [if_pos (by omega), if_pos h1, UInt8.toNat_add, show (32 : UInt8).toNat = 32 from rfl]; omega
    · rw [if_neg (by omega), if_neg h1]
  have hb : (lowC c).toNat ≤ 127 := by
    unfold lowC
    split
    · rw [UInt8.toNat_add, show (32 : UInt8).toNat = 32 from rfl]; omega
    · omega
  rw [e]
  unfold Lib.encodeRune
  rw [Lib.encodeRuneZ_one (by omega) (by omega)]
  simp
theorem lowD_asc : ∀ (l : List UInt8), asc l → lowD l = lowL l
  | [], _ => rfl
  | c :: r, h => by
    have hc : c.toNat < 128 := h c (by simp)
    unfold lowD
    rw [Lib.mapD_step lowF (c :: r) (by simp), Lib.decodeL_ascii c r hc]
    simp only
    rw [if_pos (by unfold lowF; split <;> omega), lowC_asc c hc]
    have ih := lowD_asc r (fun b hb => h b (by simp [hb]))
    unfold lowD at ih
    rw [show (c :: r).drop 1 = r from rfl, ih]
    rfl
theorem encode_hi (r : Int) (h : 128 ≤ r) : ∃ b t, Lib.encodeRune r = b :: t ∧ 128 ≤ b.toNat := by
  unfold Lib.encodeRune Lib.encodeRuneZ
  rw [if_neg (by omega)]
  split
  · exact ⟨_, _, rfl, by simp; omega⟩
  · split
    · exact ⟨_, _, rfl, by simp; omega⟩
    · split
      · exact ⟨_, _, rfl, by simp; omega⟩
      · exact ⟨_, _, rfl, by decide⟩
theorem asc_of_lowD : ∀ (n : Nat) (l : List UInt8), l.length ≤ n → asc (lowD l) → asc l
  | _, [], _, _ => fun b hb => by cases hb
  | 0, c :: r, h, _ => by simp at h
  | n + 1, c :: r, h, ha => by
    by_cases hc : c.toNat < 128
    · have e : lowD (c :: r) = [lowC c] ++ lowD r := by
        unfold lowD
        rw [Lib.mapD_step lowF (c :: r) (by simp), Lib.decodeL_ascii c r hc]
        simp only
        rw [if_pos (by unfold lowF; split <;> omega), lowC_asc c hc]
        rfl
      rw [e] at ha
      intro b hb
      rcases List.mem_cons.1 hb with rfl | hb
      · exact hc
      · exact asc_of_lowD n r (by simp at h; omega) (fun b hb => ha b (by simp [hb])) b hb
    · exfalso
      have hd : 128 ≤ (Lib.decodeL (c :: r)).1 := by
        rw [Lib.decodeL_N]
        have hc0 : ((c :: r).getD 0 0) = c := rfl
        rw [hc0]
        rcases Lib.decodeN_shape (c :: r).length c.toNat ((c :: r).getD 1 0).toNat ((c :: r).getD 2 0).toNat ((c :: r).getD 3 0).toNat with ⟨h1, _⟩ | ⟨_, _, _, h4, e⟩ | ⟨_, _, _, _, h5, _, e⟩ | ⟨_, _, _, _, _, h6, _, e⟩ | e
        · exact absurd h1 hc
        all_goals (rw [e]; simp only; omega)
      obtain ⟨b, t, e1, e2⟩ := encode_hi ((Lib.decodeL (c :: r)).1 : Int) (by omega)
      have e : lowD (c :: r) = (b :: t) ++ Lib.mapD lowF ((c :: r).drop (Lib.decodeL (c :: r)).2) := by
        unfold lowD
        rw [Lib.mapD_step lowF (c :: r) (by simp), lowF_hi (by omega), if_pos (by omega), e1]
      rw [e] at ha
      have := ha b (by simp)
      omega
/-- small letters make a text of ASCII of nothing but a text of ASCII -/
theorem lowD_iff (l t : List UInt8) (ht : asc t) : lowD l = t ↔ lowL l = t := by
  constructor
  · intro h
    have ha : asc l := asc_of_lowD l.length l (Nat.le_refl _) (by rw [h]; exact ht)
    rw [← lowD_asc l ha]; exact h
  · intro h
    have ha : asc l := by
      intro b hb
      have h1 : lowC b ∈ t := by rw [← h]; exact List.mem_map.2 ⟨b, hb, rfl⟩
      have h2 := ht _ h1
      unfold lowC at h2
      split at h2
      · omega
      · exact h2
    rw [lowD_asc l ha]; exact h
end Go.Proofs.YtcbkaiakdhiloabDoor
