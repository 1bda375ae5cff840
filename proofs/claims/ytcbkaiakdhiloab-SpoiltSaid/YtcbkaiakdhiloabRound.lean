/- What is written is read as it was; what is spoilt is refused: of packets and datagrams, in plain lists. -/
import Derived.Test.YtcbkaiakdhiloabFmt2
import Derived.Test.YtcbkaiakdhiloabReadIP
import Derived.Test.YtcbkaiakdhiloabReadUDP
import Derived.Test.YtcbkaiakdhiloabWrIP
import Derived.Test.YtcbkaiakdhiloabWrUDP
set_option linter.unusedSimpArgs false
set_option linter.unusedVariables false
namespace Go.Proofs.Ytcbkaiakdhiloab

theorem ipHead_zero (id : Nat) (ttl pr : UInt8) (fi ti n : Nat) : check (ipHead id ttl pr fi ti n (check (ipHead id ttl pr fi ti n 0))) = 0 := by
  unfold ipHead
  rw [show big 2 0 = [0, 0] by decide]
  exact check_laid _ _ (by simp [ipHd1, big_length])
theorem take_head {a b : List UInt8} {n : Nat} (h : a.length = n) : sub (a ++ b) 0 n = a := by
  subst h; simp [sub]
theorem readIP_written (id : Nat) (ttl pr : UInt8) (fi ti : Nat) (ld r : List UInt8) (hid : id < 65536) (hfi : fi < 4294967296) (hti : ti < 4294967296) (ht : ttl.toNat ≠ 0) (hl : ld.length ≤ 1480) :
    readIP (ipBytes id ttl pr fi ti ld ++ r) = (⟨id, ttl.toNat, pr.toNat, fi, ti, ld⟩, 0) := by
  have hz := ipHead_zero id ttl pr fi ti ld.length
  have hlen := ipHead_length id ttl pr fi ti ld.length (check (ipHead id ttl pr fi ti ld.length 0))
  have hs : sub (ipBytes id ttl pr fi ti ld ++ r) 0 20 = ipHead id ttl pr fi ti ld.length (check (ipHead id ttl pr fi ti ld.length 0)) := by
    unfold ipBytes; rw [List.append_assoc]; exact take_head hlen
  have hln : (ipBytes id ttl pr fi ti ld ++ r).length = 20 + ld.length + r.length := by unfold ipBytes; simp [hlen]; omega
  rw [readIP_of (ipBytes id ttl pr fi ti ld ++ r) [69] [0] (big 2 (20 + ld.length)) (big 2 id) [64, 0] [ttl] [pr] (big 2 (check (ipHead id ttl pr fi ti ld.length 0))) (big 4 fi) (big 4 ti) (ld ++ r)
    (by unfold ipBytes ipHead ipHd1 ipHd2; simp [List.append_assoc]) rfl rfl (big_length _ _) (big_length _ _) rfl rfl rfl (big_length _ _) (big_length _ _) (big_length _ _), hs, hz, hln,
    num_big 2 _ (by omega), num_big 2 _ (by omega), num_big 4 _ (by omega), num_big 4 _ (by omega)]
  have e1 : num [69] = 69 := by decide
  have e2 : num [64, 0] = 16384 := by decide
  have e3 : num [ttl] = ttl.toNat := by simp [num]
  have e4 : num [pr] = pr.toNat := by simp [num]
  rw [e1, e2, e3, e4, if_neg (by omega), if_neg (by omega), if_neg (by omega), if_neg (by omega), if_neg (by omega), if_neg (by omega), if_neg (by omega)]
  rw [show 20 + ld.length - 20 = ld.length by omega, List.take_left' rfl]
theorem readIP_sum (l : List UInt8) (h : check (sub l 0 20) ≠ 0) : (readIP l).2 ≠ 0 := by
  unfold readIP
  repeat' (first | (split; · simp) | skip)
  all_goals first | simp | (exfalso; contradiction)
theorem readIP_spoilt (id : Nat) (ttl pr : UInt8) (fi ti : Nat) (ld : List UInt8) (k : Nat) (b b' : UInt8) (hk : k < 20) (hb : (ipBytes id ttl pr fi ti ld)[k]? = some b) (hne : b' ≠ b) :
    (readIP ((ipBytes id ttl pr fi ti ld).set k b')).2 ≠ 0 := by
  apply readIP_sum
  have hlen := ipHead_length id ttl pr fi ti ld.length (check (ipHead id ttl pr fi ti ld.length 0))
  have hs : sub ((ipBytes id ttl pr fi ti ld).set k b') 0 20 = (ipHead id ttl pr fi ti ld.length (check (ipHead id ttl pr fi ti ld.length 0))).set k b' := by
    unfold ipBytes
    rw [List.set_append_left _ _ (by omega)]
    exact take_head (by rw [List.length_set]; exact hlen)
  rw [hs]
  refine check_set _ k b b' (ipHead_zero id ttl pr fi ti ld.length) ?_ hne
  unfold ipBytes at hb
  rw [List.getElem?_append_left (by omega)] at hb
  exact hb

theorem udp_zero (fm tp fi ti : Nat) (ld : List UInt8) : check (besideB fi ti (8 + ld.length) ++ udpWith fm tp ld (udpSum fm tp fi ti ld)) = 0 := by
  have he : (besideB fi ti (8 + ld.length) ++ udpA fm tp (8 + ld.length)).length % 2 = 0 := by simp [besideB, udpA, big_length]
  have e : ∀ s, besideB fi ti (8 + ld.length) ++ udpWith fm tp ld s = (besideB fi ti (8 + ld.length) ++ udpA fm tp (8 + ld.length)) ++ big 2 s ++ ld := by
    intro s; unfold udpWith; simp [List.append_assoc]
  rw [e]
  unfold udpSum
  split
  · rename_i h
    exact check_laid' _ _ he (by unfold udpSum0 at h; exact h)
  · unfold udpSum0; exact check_laid _ _ he
theorem udpSum_ne (fm tp fi ti : Nat) (ld : List UInt8) : udpSum fm tp fi ti ld ≠ 0 := by
  unfold udpSum; split <;> omega
theorem readUDP_written (fm tp fi ti : Nat) (ld r : List UInt8) (hfm : fm < 65536) (htp : tp < 65536) (hl : ld.length ≤ 1480) :
    readUDP (udpWith fm tp ld (udpSum fm tp fi ti ld) ++ r) fi ti = (⟨fm, tp, ld⟩, 0) := by
  have hsl := udpSum_le fm tp fi ti ld
  have hln : (udpWith fm tp ld (udpSum fm tp fi ti ld) ++ r).length = 8 + ld.length + r.length := by rw [List.length_append, udpWith_length]
  rw [readUDP_of (udpWith fm tp ld (udpSum fm tp fi ti ld) ++ r) (big 2 fm) (big 2 tp) (big 2 (8 + ld.length)) (big 2 (udpSum fm tp fi ti ld)) (ld ++ r) fi ti
    (by unfold udpWith udpA; simp [List.append_assoc]) (big_length _ _) (big_length _ _) (big_length _ _) (big_length _ _), hln,
    num_big 2 _ (by omega), num_big 2 _ (by omega), num_big 2 _ (by omega), num_big 2 _ (by omega), take_head (udpWith_length _ _ _ _), udp_zero]
  rw [if_neg (by omega), if_neg (by omega), if_neg (by simp), show 8 + ld.length - 8 = ld.length by omega, List.take_left' rfl]
/-- a datagram whose sum is laid in, and is not the sum -/
theorem readUDP_bad (l : List UInt8) (fi ti : Nat) (h8 : 8 ≤ l.length) (hn : num (sub l 4 6) = l.length) (hs : num (sub l 6 8) ≠ 0) (hc : check (besideB fi ti l.length ++ l) ≠ 0) : readUDP l fi ti = (udp0, 6) := by
  unfold readUDP
  rw [hn, if_neg (by omega), if_neg (by omega), if_neg (by omega), sub_all, if_pos ⟨hs, hc⟩]
theorem num2_ne (l : List UInt8) (x y : UInt8) (h6 : l[6]? = some x) (h7 : l[7]? = some y) (h : ¬ (x = 0 ∧ y = 0)) : num (sub l 6 8) ≠ 0 := by
  match l, h6, h7 with
  | a0 :: a1 :: a2 :: a3 :: a4 :: a5 :: x' :: y' :: r, h6, h7 =>
    simp at h6 h7
    subst h6 h7
    have e : sub (a0 :: a1 :: a2 :: a3 :: a4 :: a5 :: x' :: y' :: r) 6 8 = [x', y'] := rfl
    rw [e]
    intro h0
    have h1 : x'.toNat * 256 + y'.toNat = 0 := by simp [num] at h0; omega
    exact h ⟨UInt8.toNat_inj.1 (by simp; omega), UInt8.toNat_inj.1 (by simp; omega)⟩
theorem sub_set (l : List UInt8) (k : Nat) (b : UInt8) (h : k < 4 ∨ 6 ≤ k) : sub (l.set k b) 4 6 = sub l 4 6 := by
  apply List.ext_getElem?
  intro i
  simp only [sub, List.getElem?_drop, List.getElem?_take, List.getElem?_set]
  split
  · rw [if_neg (by omega)]
  · rfl
theorem udp_n (fm tp s : Nat) (ld : List UInt8) (hl : ld.length ≤ 1480) : num (sub (udpWith fm tp ld s) 4 6) = 8 + ld.length := by
  have e : sub (udpWith fm tp ld s) 4 6 = big 2 (8 + ld.length) := by
    unfold udpWith udpA
    have h1 : (big 2 fm ++ big 2 tp).length = 4 := by simp [big_length]
    have h2 : (big 2 (8 + ld.length)).length = 2 := big_length _ _
    rw [show big 2 fm ++ big 2 tp ++ big 2 (8 + ld.length) ++ big 2 s ++ ld = (big 2 fm ++ big 2 tp) ++ (big 2 (8 + ld.length) ++ (big 2 s ++ ld)) by simp [List.append_assoc]]
    unfold sub
    rw [List.take_append, List.drop_append, h1, List.take_of_length_le (by omega), List.drop_of_length_le (by omega), show 6 - 4 = 2 by rfl, List.take_append_of_le_length (by omega), List.take_of_length_le (by omega)]
    simp [big_length]
  rw [e, num_big 2 _ (by omega)]
theorem readUDP_spoilt (fm tp fi ti : Nat) (ld : List UInt8) (k : Nat) (b b' x y : UInt8) (hl : ld.length ≤ 1480) (hk : k < 4 ∨ 6 ≤ k) (hb : (udpWith fm tp ld (udpSum fm tp fi ti ld))[k]? = some b) (hne : b' ≠ b)
    (h6 : ((udpWith fm tp ld (udpSum fm tp fi ti ld)).set k b')[6]? = some x) (h7 : ((udpWith fm tp ld (udpSum fm tp fi ti ld)).set k b')[7]? = some y) (hxy : ¬ (x = 0 ∧ y = 0)) :
    readUDP ((udpWith fm tp ld (udpSum fm tp fi ti ld)).set k b') fi ti = (udp0, 6) := by
  have hlen : ((udpWith fm tp ld (udpSum fm tp fi ti ld)).set k b').length = 8 + ld.length := by rw [List.length_set, udpWith_length]
  refine readUDP_bad _ fi ti (by omega) (by rw [sub_set _ _ _ hk, udp_n _ _ _ _ hl, hlen]) (num2_ne _ x y h6 h7 hxy) ?_
  rw [hlen]
  have e : besideB fi ti (8 + ld.length) ++ (udpWith fm tp ld (udpSum fm tp fi ti ld)).set k b' = (besideB fi ti (8 + ld.length) ++ udpWith fm tp ld (udpSum fm tp fi ti ld)).set (12 + k) b' := by
    rw [List.set_append_right _ _ (by rw [beside_length]; omega), beside_length, show 12 + k - 12 = k by omega]
  rw [e]
  refine check_set _ _ b b' (udp_zero _ _ _ _ _) ?_ hne
  rw [List.getElem?_append_right (by rw [beside_length]; omega), beside_length, show 12 + k - 12 = k by omega]
  exact hb
theorem beside_sum (fi ti n : Nat) (hfi : fi < 4294967296) (hti : ti < 4294967296) (hn : n < 65536) : wsum false (besideB fi ti n) = (fi / 65536 + fi % 65536) + (ti / 65536 + ti % 65536) + 17 + n := by
  unfold besideB
  rw [wsum_even _ _ (by simp [big_length]), wsum_even _ _ (by simp [big_length]), wsum_even _ _ (by simp [big_length]), wsum_big4 _ hfi, wsum_big4 _ hti, wsum_big2 _ hn]
  simp [wsum]
/-- to another address -/
theorem readUDP_other (fm tp fi ti : Nat) (ld : List UInt8) (hl : ld.length ≤ 1480) (hfi : fi < 4294967296) (hti : ti + 1 < 4294967296) (ht : ti % 65536 < 65535) :
    readUDP (udpWith fm tp ld (udpSum fm tp fi ti ld)) fi (ti + 1) = (udp0, 6) := by
  have hlen := udpWith_length fm tp ld (udpSum fm tp fi ti ld)
  have hsl := udpSum_le fm tp fi ti ld
  have hz := udp_zero fm tp fi ti ld
  have hsn : num (sub (udpWith fm tp ld (udpSum fm tp fi ti ld)) 6 8) ≠ 0 := by
    have e : sub (udpWith fm tp ld (udpSum fm tp fi ti ld)) 6 8 = big 2 (udpSum fm tp fi ti ld) := by
      unfold udpWith
      have h1 : (udpA fm tp (8 + ld.length)).length = 6 := udpA_length _ _ _
      have h2 : (big 2 (udpSum fm tp fi ti ld)).length = 2 := big_length _ _
      rw [List.append_assoc]
      unfold sub
      rw [List.take_append, List.drop_append, h1, List.take_of_length_le (by omega), List.drop_of_length_le (by omega), show 8 - 6 = 2 by rfl, List.take_append_of_le_length (by omega), List.take_of_length_le (by omega)]
      simp [h1]
    rw [e, num_big 2 _ (by omega)]
    exact udpSum_ne _ _ _ _ _
  refine readUDP_bad _ fi (ti + 1) (by omega) (by rw [udp_n _ _ _ _ hl, hlen]) hsn ?_
  rw [hlen]
  rw [check_zero, wsum_even _ _ (by rw [beside_length])] at hz
  intro h2
  rw [check_zero, wsum_even _ _ (by rw [beside_length])] at h2
  rw [beside_sum _ _ _ hfi (by omega) (by omega)] at hz
  rw [beside_sum _ _ _ hfi hti (by omega)] at h2
  omega
end Go.Proofs.Ytcbkaiakdhiloab
