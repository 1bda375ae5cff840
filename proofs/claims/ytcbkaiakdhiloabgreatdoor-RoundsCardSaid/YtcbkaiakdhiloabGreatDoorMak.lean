/- What is written is read as it was: of ARP, frames, DHCP and TFTP, in plain lists. -/
import Derived.Test.YtcbkaiakdhiloabGreatDoorMag
import Derived.Test.YtcbkaiakdhiloabGreatDoorWrARPZ
import Derived.Test.YtcbkaiakdhiloabGreatDoorMah
import Derived.Test.YtcbkaiakdhiloabGreatDoorMai
import Derived.Test.YtcbkaiakdhiloabGreatDoorMaj
import Derived.Test.YtcbkaiakdhiloabGreatDoorMaf
import Derived.Test.YtcbkaiakdhiloabGreatDoorMae
import Derived.Test.YtcbkaiakdhiloabGreatDoorReadUDPZ
import Derived.Test.YtcbkaiakdhiloabGreatDoorMad
import Derived.Test.YtcbkaiakdhiloabGreatDoorMaa
import Derived.Lib.ConvBytes
import Derived.Test.YtcbkaiakdhiloabGreatDoorMab
set_option linter.unusedSimpArgs false
set_option linter.unusedVariables false
namespace Go.Proofs.YtcbkaiakdhiloabGreatDoor

theorem readARP_written (op fi ti : Nat) (fm tm : Mac) (r : List UInt8) (ho : op = 1 ∨ op = 2) (hfi : fi < 4294967296) (hti : ti < 4294967296) :
    readARP (arpBytes op fm fi tm ti ++ r) = (⟨op, fm, fi, tm, ti⟩, 0) := by
  obtain ⟨b0, b1, b2, b3, b4, b5⟩ := fm
  obtain ⟨c0, c1, c2, c3, c4, c5⟩ := tm
  rw [readARP_of (arpBytes op (b0, b1, b2, b3, b4, b5) fi (c0, c1, c2, c3, c4, c5) ti ++ r) [0, 1, 8, 0, 6, 4] (big 2 op) (big 4 fi) (big 4 ti) r b0 b1 b2 b3 b4 b5 c0 c1 c2 c3 c4 c5
    rfl rfl (big_length _ _) (big_length _ _) (big_length _ _), num_big 2 _ (by omega), num_big 4 _ (by omega), num_big 4 _ (by omega), if_pos ⟨rfl, ho⟩]
theorem ethBody_length (tm fm : Mac) (ty : Nat) (ld : List UInt8) : (ethBody tm fm ty ld).length = 14 + ld.length := by
  unfold ethBody; simp [big_length, macB]; omega
def ethFill (ld : List UInt8) : List UInt8 := ld ++ List.replicate (60 - (14 + ld.length)) 0
theorem readEther_written (tm fm : Mac) (ty : Nat) (ld : List UInt8) (h1 : 1536 ≤ ty) (h2 : ty < 65536) (hl : ld.length ≤ 1500) :
    readEther (ethBytes tm fm ty ld) = (⟨tm, fm, ty, ethFill ld⟩, 0) := by
  obtain ⟨b0, b1, b2, b3, b4, b5⟩ := tm
  obtain ⟨c0, c1, c2, c3, c4, c5⟩ := fm
  have hb := ethBody_length (b0, b1, b2, b3, b4, b5) (c0, c1, c2, c3, c4, c5) ty ld
  unfold ethBytes
  rw [hb]
  rw [readEther_of _ (big 2 ty) (ethFill ld) b0 b1 b2 b3 b4 b5 c0 c1 c2 c3 c4 c5 (by unfold ethBody ethFill macB; simp [List.append_assoc]) (big_length _ _), num_big 2 _ (by omega), if_neg (by omega), if_neg (by unfold ethFill; simp; omega)]

/-! DHCP -/
theorem optAdd_nw : ∀ (os : List OptD) (c : UInt8) (d : List UInt8), (∀ o ∈ os, o.code ≠ c) → optAdd os c d = os ++ [⟨c, d⟩]
  | [], _, _, _ => rfl
  | o :: r, c, d, h => by
    unfold optAdd
    rw [if_neg (h o (by simp)), optAdd_nw r c d (fun x hx => h x (by simp [hx]))]; rfl
theorem optAdd_od : ∀ (os : List OptD) (c : UInt8) (a d : List UInt8), (∀ o ∈ os, o.code ≠ c) → optAdd (os ++ [⟨c, a⟩]) c d = os ++ [⟨c, a ++ d⟩]
  | [], c, a, d, _ => by simp [optAdd]
  | o :: r, c, a, d, h => by
    rw [List.cons_append]
    unfold optAdd
    rw [if_neg (h o (by simp)), optAdd_od r c a d (fun x hx => h x (by simp [hx]))]; rfl
theorem optRd_piece (os : List OptD) (c : UInt8) (d r : List UInt8) (k : UInt8) (h0 : c ≠ 0) (h1 : c ≠ 255) (hk : k.toNat = d.length) : optRd os (c :: k :: (d ++ r)) = optRd (optAdd os c d) r := by
  rw [optRd_opt os c k (d ++ r) h1 h0 (by simp [hk]), hk, List.take_left' rfl, List.drop_left' rfl]
theorem optRd_more : ∀ (n : Nat) (os : List OptD) (c : UInt8) (a d r : List UInt8), d.length ≤ n → c ≠ 0 → c ≠ 255 → (∀ o ∈ os, o.code ≠ c) →
    optRd (os ++ [⟨c, a⟩]) (chunk c d ++ r) = optRd (os ++ [⟨c, a ++ d⟩]) r
  | 0, os, c, a, d, r, hn, h0, h1, h => by
    have : d = [] := List.eq_nil_of_length_eq_zero (by omega)
    subst this
    rw [chunk_small c [] (by simp)]
    have e := optRd_piece (os ++ [⟨c, a⟩]) c [] r 0 h0 h1 rfl
    rw [optAdd_od os c a [] h] at e
    exact e
  | n + 1, os, c, a, d, r, hn, h0, h1, h => by
    rcases Nat.lt_or_ge 255 d.length with hb | hb
    · rw [chunk_big c d hb]
      have e := optRd_piece (os ++ [⟨c, a⟩]) c (d.take 255) (chunk c (d.drop 255) ++ r) 255 h0 h1 (by rw [List.length_take]; show 255 = _; omega)
      rw [optAdd_od os c a _ h, optRd_more n os c (a ++ d.take 255) (d.drop 255) r (by rw [List.length_drop]; omega) h0 h1 h, List.append_assoc, List.take_append_drop] at e
      rw [← e]
      simp [List.append_assoc]
    · rw [chunk_small c d hb]
      have e := optRd_piece (os ++ [⟨c, a⟩]) c d r (UInt8.ofNat d.length) h0 h1 (by rw [UInt8.toNat_ofNat']; omega)
      rw [optAdd_od os c a d h] at e
      rw [← e]; simp
theorem optRd_chunk (os : List OptD) (c : UInt8) (d r : List UInt8) (h0 : c ≠ 0) (h1 : c ≠ 255) (h : ∀ o ∈ os, o.code ≠ c) :
    optRd os (chunk c d ++ r) = optRd (os ++ [⟨c, d⟩]) r := by
  rcases Nat.lt_or_ge 255 d.length with hb | hb
  · rw [chunk_big c d hb]
    have e := optRd_piece os c (d.take 255) (chunk c (d.drop 255) ++ r) 255 h0 h1 (by rw [List.length_take]; show 255 = _; omega)
    rw [optAdd_nw os c _ h, optRd_more d.length os c (d.take 255) (d.drop 255) r (by rw [List.length_drop]; omega) h0 h1 h, List.take_append_drop] at e
    rw [← e]
    simp [List.append_assoc]
  · rw [chunk_small c d hb]
    have e := optRd_piece os c d r (UInt8.ofNat d.length) h0 h1 (by rw [UInt8.toNat_ofNat']; omega)
    rw [optAdd_nw os c d h] at e
    rw [← e]; simp
/-- options of codes that differ are read as they were -/
theorem optRd_all : ∀ (os b4 : List OptD) (r : List UInt8), (∀ o ∈ os, o.code ≠ 0 ∧ o.code ≠ 255) → ((b4 ++ os).Pairwise fun x y => x.code ≠ y.code) →
    optRd b4 (os.flatMap (fun o => chunk o.code o.data) ++ 255 :: r) = some (b4 ++ os)
  | [], b4, r, _, _ => by simp [optRd_end]
  | o :: os, b4, r, hc, hp => by
    rw [List.flatMap_cons, List.append_assoc, optRd_chunk b4 o.code o.data _ (hc o (by simp)).1 (hc o (by simp)).2 ?_]
    · have := optRd_all os (b4 ++ [o]) r (fun x hx => hc x (by simp [hx])) (by simpa using hp)
      rw [this]; simp
    · intro x hx
      rw [List.pairwise_append] at hp
      exact hp.2.2 x hx o (by simp)
theorem chunk_len2 : ∀ (n : Nat) (c : UInt8) (d : List UInt8), d.length ≤ n → (chunk c d).length ≤ d.length + 2 * (d.length / 255) + 2
  | 0, c, d, hn => by rw [chunk_small c d (by omega)]; simp only [List.length_append, List.length_cons, List.length_nil]; omega
  | n + 1, c, d, hn => by
    rcases Nat.lt_or_ge 255 d.length with hb | hb
    · rw [chunk_big c d hb]
      have := chunk_len2 n c (d.drop 255) (by rw [List.length_drop]; omega)
      rw [List.length_drop] at this
      simp only [List.length_append, List.length_cons, List.length_nil, List.length_take]; omega
    · rw [chunk_small c d hb]; simp only [List.length_append, List.length_cons, List.length_nil]; omega
theorem sub_mid {l a b c : List UInt8} {i j : Nat} (h : l = a ++ (b ++ c)) (ha : a.length = i) (hb : b.length = j - i) (hij : i ≤ j) : sub l i j = b := by
  subst h ha
  unfold sub
  rw [List.take_append, List.drop_append, List.take_of_length_le (by omega), List.drop_of_length_le (by omega), Nat.sub_self, List.drop_zero, ← hb, List.nil_append, List.take_left' rfl]
theorem readDHCP_written (rp : Bool) (xid client yours next : Nat) (mac : Mac) (os : List OptD) (hx : xid < 4294967296) (hc : client < 4294967296) (hy : yours < 4294967296) (hn : next < 4294967296)
    (ho : ∀ o ∈ os, o.code ≠ 0 ∧ o.code ≠ 255 ∧ o.code ≠ 52) (hp : os.Pairwise fun x y => x.code ≠ y.code) :
    readDHCP (dhcBody (dhcHead rp xid client yours next (macB mac)) os) = (⟨rp, xid, client, yours, next, mac, os⟩, 0) := by
  obtain ⟨m0, m1, m2, m3, m4, m5⟩ := mac
  have h52 : ∀ os : List OptD, (∀ o ∈ os, o.code ≠ 52) → optOf os 52 = none := by
    intro os
    induction os with
    | nil => intro _; rfl
    | cons o r ih => intro h; unfold optOf; rw [if_neg (h o (by simp)), ih (fun x hx => h x (by simp [hx]))]
  obtain ⟨f0, f1, hfl⟩ : ∃ f0 f1, (if client = 0 then ([128, 0] : List UInt8) else [0, 0]) = [f0, f1] := by
    by_cases h : client = 0
    · exact ⟨128, 0, if_pos h⟩
    · exact ⟨0, 0, if_neg h⟩
  have h4 : ∀ n, ∃ a b c d, big 4 n = [a, b, c, d] := fun n => by
    have := big_length 4 n
    match h : big 4 n, this with
    | [a, b, c, d], _ => exact ⟨a, b, c, d, rfl⟩
  obtain ⟨x0, x1, x2, x3, ex⟩ := h4 xid
  obtain ⟨c0, c1, c2, c3, ec⟩ := h4 client
  obtain ⟨y0, y1, y2, y3, ey⟩ := h4 yours
  obtain ⟨n0, n1, n2, n3, en⟩ := h4 next
  obtain ⟨zz, hzz, hzl⟩ : ∃ zz, zz = List.replicate 202 (0 : UInt8) ∧ zz.length = 202 := ⟨_, rfl, List.length_replicate ..⟩
  obtain ⟨fb, hfb⟩ : ∃ fb, fb = os.flatMap (fun o : OptD => chunk o.code o.data) := ⟨_, rfl⟩
  have hh : dhcHead rp xid client yours next (macB (m0, m1, m2, m3, m4, m5)) = [if rp then (2 : UInt8) else 1, 1, 6, 0, x0, x1, x2, x3, 0, 0, f0, f1, c0, c1, c2, c3, y0, y1, y2, y3, n0, n1, n2, n3, 0, 0, 0, 0, m0, m1, m2, m3, m4, m5] ++ zz ++ [99, 130, 83, 99] := by
    unfold dhcHead
    rw [hfl, ex, ec, ey, en, hzz, show big 4 0 = [0, 0, 0, 0] by decide]
    rfl
  obtain ⟨z, hz⟩ : ∃ z, dhcBody (dhcHead rp xid client yours next (macB (m0, m1, m2, m3, m4, m5))) os = [if rp then (2 : UInt8) else 1, 1, 6, 0, x0, x1, x2, x3, 0, 0, f0, f1, c0, c1, c2, c3, y0, y1, y2, y3, n0, n1, n2, n3, 0, 0, 0, 0, m0, m1, m2, m3, m4, m5] ++ (zz ++ ([99, 130, 83, 99] ++ (fb ++ 255 :: z))) := by
    refine ⟨List.replicate (300 - (dhcHead rp xid client yours next (macB (m0, m1, m2, m3, m4, m5)) ++ fb ++ [255]).length) 0, ?_⟩
    rw [show dhcBody (dhcHead rp xid client yours next (macB (m0, m1, m2, m3, m4, m5))) os = (dhcHead rp xid client yours next (macB (m0, m1, m2, m3, m4, m5)) ++ fb ++ [255]) ++ List.replicate (300 - (dhcHead rp xid client yours next (macB (m0, m1, m2, m3, m4, m5)) ++ fb ++ [255]).length) 0 by rw [hfb]; rfl]
    generalize List.replicate (300 - (dhcHead rp xid client yours next (macB (m0, m1, m2, m3, m4, m5)) ++ fb ++ [255]).length) (0 : UInt8) = z
    rw [hh]
    simp only [List.append_assoc, List.cons_append, List.nil_append]
  clear hh hzz
  generalize dhcBody (dhcHead rp xid client yours next (macB (m0, m1, m2, m3, m4, m5))) os = l at *
  have hlen : 240 ≤ l.length := by rw [hz]; simp only [List.length_append, List.length_cons, List.length_nil, hzl]; omega
  have s0 : sub l 0 1 = [if rp then 2 else 1] := by rw [hz]; rfl
  have s1 : sub l 1 3 = [1, 6] := by rw [hz]; rfl
  have s4 : sub l 4 8 = big 4 xid := by rw [hz, ex]; rfl
  have s12 : sub l 12 16 = big 4 client := by rw [hz, ec]; rfl
  have s16 : sub l 16 20 = big 4 yours := by rw [hz, ey]; rfl
  have s20 : sub l 20 24 = big 4 next := by rw [hz, en]; rfl
  have s28 : macOf (l.drop 28) = (m0, m1, m2, m3, m4, m5) := by rw [hz]; rfl
  have s236 : sub l 236 240 = [99, 130, 83, 99] := sub_mid (a := [if rp then (2 : UInt8) else 1, 1, 6, 0, x0, x1, x2, x3, 0, 0, f0, f1, c0, c1, c2, c3, y0, y1, y2, y3, n0, n1, n2, n3, 0, 0, 0, 0, m0, m1, m2, m3, m4, m5] ++ zz) (c := fb ++ 255 :: z) (by rw [hz]; simp only [List.append_assoc]) (by simp only [List.length_append, List.length_cons, List.length_nil, hzl]) rfl (by omega)
  have s240 : l.drop 240 = fb ++ 255 :: z := by
    rw [show l = ([if rp then (2 : UInt8) else 1, 1, 6, 0, x0, x1, x2, x3, 0, 0, f0, f1, c0, c1, c2, c3, y0, y1, y2, y3, n0, n1, n2, n3, 0, 0, 0, 0, m0, m1, m2, m3, m4, m5] ++ zz ++ [99, 130, 83, 99]) ++ (fb ++ 255 :: z) by rw [hz]; simp only [List.append_assoc]]
    exact List.drop_left' (by simp only [List.length_append, List.length_cons, List.length_nil, hzl])
  rw [hfb] at s240
  have ov : overs os (sub l 44 108) (sub l 108 236) = (os, 0) := by unfold overs; rw [h52 os (fun o h => (ho o h).2.2)]
  have ho2 := optRd_all os [] z (fun o h => ⟨(ho o h).1, (ho o h).2.1⟩) hp
  unfold readDHCP
  rw [if_neg (by omega), if_neg (by rw [s0, s1, s236]; cases rp <;> simp), s240, ho2]
  simp only [List.nil_append]
  rw [ov]
  simp only
  rw [s0, s4, s12, s16, s20, s28, num_big 4 _ (by omega), num_big 4 _ (by omega), num_big 4 _ (by omega), num_big 4 _ (by omega)]
  cases rp <;> rfl

/-! TFTP -/
theorem lineOf_text (a r : List UInt8) (h : (0 : UInt8) ∉ a) : lineOf (a ++ 0 :: r) = some (a, r) := by
  induction a with
  | nil => rfl
  | cons c a ih =>
    rw [List.cons_append]
    unfold lineOf
    rw [if_neg (by intro e; apply h; simp [e]), ih (by intro e; apply h; simp [e])]
    rfl
theorem word_no0 {l : List UInt8} (h : wordB l = true) : (0 : UInt8) ∉ l := by
  unfold wordB at h
  simp only [Bool.and_eq_true, List.all_eq_true] at h
  intro hm
  exact absurd (h.1 0 hm) (by decide)
theorem fldRd_all : ∀ (fs b4 : List FldD), (∀ j o, fs[j]? = some o → fldOk (b4 ++ fs.take j) o = true) → fldRd b4 (fldB fs) = some (b4 ++ fs)
  | [], b4, _ => by simp [fldB, fldRd_nil]
  | x :: r, b4, h => by
    have h0 := h 0 x rfl
    simp only [List.take_zero, List.append_nil] at h0
    unfold fldOk at h0
    simp only [Bool.and_eq_true] at h0
    obtain ⟨⟨⟨w1, w2⟩, w3⟩, w4⟩ := h0
    have el : lowL x.name = x.name := (by simpa using w3 : x.name = lowL x.name).symm
    have hb : fldB (x :: r) = x.name ++ 0 :: (x.value ++ 0 :: fldB r) := by unfold fldB; rw [List.flatMap_cons]; simp [List.append_assoc]
    rw [hb, fldRd_ok b4 _ _ _ _ _ (lineOf_text x.name _ (word_no0 w1)) (lineOf_text x.value _ (word_no0 w2)) (by rw [w1, w2, el]; simpa using w4), el]
    have := fldRd_all r (b4 ++ [x]) (fun j o hj => by
      have := h (j + 1) o (by simpa using hj)
      rwa [List.take_succ_cons, List.append_cons] at this)
    rw [show (⟨x.name, x.value⟩ : FldD) = x from rfl, this]; simp
theorem sub_big2 (n : Nat) (r : List UInt8) : sub (big 2 n ++ r) 0 2 = big 2 n := sub_mid (a := []) rfl rfl (big_length _ _) (by omega)
theorem readTFTP_data (bk : Nat) (d : List UInt8) (hb : bk < 65536) (hd : d.length ≤ 1024) : readTFTP (big 2 3 ++ big 2 bk ++ d) = (⟨3, bk, [], d, []⟩, 0) := by
  have hl : (big 2 3 ++ big 2 bk ++ d).length = 4 + d.length := by simp [big_length]; omega
  have e0 : num (sub (big 2 3 ++ big 2 bk ++ d) 0 2) = 3 := by rw [List.append_assoc, sub_big2, num_big 2 _ (by omega)]
  have e2 : sub (big 2 3 ++ big 2 bk ++ d) 2 4 = big 2 bk := sub_mid (a := big 2 3) (by rw [List.append_assoc]) rfl (big_length _ _) (by omega)
  have e4 : (big 2 3 ++ big 2 bk ++ d).drop 4 = d := List.drop_left' (by simp [big_length])
  unfold readTFTP
  rw [if_neg (by omega), e0, if_neg (by omega), if_neg (by omega), if_pos rfl, if_neg (by omega), e4, if_neg (by omega), e2, num_big 2 _ (by omega)]
theorem readTFTP_ack (bk : Nat) (hb : bk < 65536) : readTFTP (big 2 4 ++ big 2 bk) = (⟨4, bk, [], [], []⟩, 0) := by
  have hl : (big 2 4 ++ big 2 bk).length = 4 := by simp [big_length]
  have e0 : num (sub (big 2 4 ++ big 2 bk) 0 2) = 4 := by rw [sub_big2, num_big 2 _ (by omega)]
  have e2 : sub (big 2 4 ++ big 2 bk) 2 4 = big 2 bk := sub_mid (a := big 2 4) (c := []) (by simp) rfl (big_length _ _) (by omega)
  have e4 : (big 2 4 ++ big 2 bk).drop 4 = [] := List.drop_eq_nil_of_le (by omega)
  unfold readTFTP
  rw [if_neg (by omega), e0, if_neg (by omega), if_neg (by omega), if_neg (by omega), if_pos rfl, if_neg (by omega), e4, if_neg (by simp), e2, num_big 2 _ (by omega)]
theorem readTFTP_err (bk : Nat) (tx : List UInt8) (hb : bk < 65536) (ht : (0 : UInt8) ∉ tx) : readTFTP (big 2 5 ++ big 2 bk ++ tx ++ [0]) = (⟨5, bk, tx, [], []⟩, 0) := by
  have hl : (big 2 5 ++ big 2 bk ++ tx ++ [0]).length = 5 + tx.length := by simp [big_length]; omega
  have e0 : num (sub (big 2 5 ++ big 2 bk ++ tx ++ [0]) 0 2) = 5 := by rw [List.append_assoc, List.append_assoc, sub_big2, num_big 2 _ (by omega)]
  have e2 : sub (big 2 5 ++ big 2 bk ++ tx ++ [0]) 2 4 = big 2 bk := sub_mid (a := big 2 5) (by rw [List.append_assoc, List.append_assoc]) rfl (big_length _ _) (by omega)
  have e4 : (big 2 5 ++ big 2 bk ++ tx ++ [0]).drop 4 = tx ++ 0 :: [] := by rw [List.append_assoc]; exact List.drop_left' (by simp [big_length])
  unfold readTFTP
  rw [if_neg (by omega), e0, if_neg (by omega), if_neg (by omega), if_neg (by omega), if_neg (by omega), if_pos rfl, if_neg (by omega), e4, lineOf_text tx [] ht, e2, num_big 2 _ (by omega)]
theorem readTFTP_oack (fs : List FldD) (h : fldTo fs fs.length) : readTFTP (big 2 6 ++ fldB fs) = (⟨6, 0, [], [], fs⟩, 0) := by
  have hl : (big 2 6 ++ fldB fs).length = 2 + (fldB fs).length := by simp [big_length]
  have e0 : num (sub (big 2 6 ++ fldB fs) 0 2) = 6 := by rw [sub_big2, num_big 2 _ (by omega)]
  have e2 : (big 2 6 ++ fldB fs).drop 2 = fldB fs := List.drop_left' (big_length _ _)
  have ef := fldRd_all fs [] (fun j o hj => by
    have hjl : j < fs.length := by
      rcases Nat.lt_or_ge j fs.length with h1 | h1
      · exact h1
      · rw [List.getElem?_eq_none h1] at hj; cases hj
    simpa using h j o hjl hj)
  unfold readTFTP
  rw [if_neg (by omega), e0, if_neg (by omega), if_pos rfl, e2, ef]; rfl
theorem readTFTP_ask (tx : List UInt8) (fs : List FldD) (ht : wordB tx = true) (h : fldTo fs fs.length) : readTFTP (big 2 1 ++ tx ++ [0, 111, 99, 116, 101, 116, 0] ++ fldB fs) = (⟨1, 0, tx, [], fs⟩, 0) := by
  have hl : (big 2 1 ++ tx ++ [0, 111, 99, 116, 101, 116, 0] ++ fldB fs).length = 9 + tx.length + (fldB fs).length := by simp [big_length]; omega
  have e0 : num (sub (big 2 1 ++ tx ++ [0, 111, 99, 116, 101, 116, 0] ++ fldB fs) 0 2) = 1 := by rw [List.append_assoc, List.append_assoc, sub_big2, num_big 2 _ (by omega)]
  have e2 : (big 2 1 ++ tx ++ [0, 111, 99, 116, 101, 116, 0] ++ fldB fs).drop 2 = tx ++ 0 :: (octet ++ 0 :: fldB fs) := by rw [List.append_assoc, List.append_assoc, List.drop_left' (big_length _ _)]; rfl
  have ef := fldRd_all fs [] (fun j o hj => by
    have hjl : j < fs.length := by
      rcases Nat.lt_or_ge j fs.length with h1 | h1
      · exact h1
      · rw [List.getElem?_eq_none h1] at hj; cases hj
    simpa using h j o hjl hj)
  have eo : (0 : UInt8) ∉ octet := by decide
  unfold readTFTP
  rw [if_neg (by omega), e0, if_pos rfl, e2, lineOf_text tx _ (word_no0 ht)]
  simp only
  rw [if_neg (by rw [ht]; simp), lineOf_text octet _ eo]
  simp only
  rw [if_pos (by decide), ef]; rfl
end Go.Proofs.YtcbkaiakdhiloabGreatDoor
namespace Go.Proofs.YtcbkaiakdhiloabGreatDoor
open Go.RowKit Go.Proofs
attribute [local go_sem] bs_size bs_append bs_sub bs_toList

theorem arpC_size (x : ArpD) : (arpC x).size = zcArp.size := rfl
theorem arpC_one (x : ArpD) : (arpC x).all (·.oneCell') = true := by kernel_rfl
theorem arp_info (x : ArpD) : (Tryz.prog.info? 67).map (·.size) = some (arpC x).size := by rw [arpC_size]; kernel_rfl

theorem packetReadARP (l : List UInt8) (w : World) (hl : l.length ≤ 9223372036854775807) :
    Calls Tryz.prog 80 #[.string (bs l)] w (arpPost l w) := by
  go_enter Tryz.func80, Tryz.ntmps80
  go_wp2_with fail
  have hx0 := Bk.new w 67 zcArp
  have hf0 : Fr noB w (w.alloc (.cells zcArp 67)) := (Fr.refl _ _).alloc _
  unfold zcArp at hx0 hf0
  generalize w.alloc (.cells #[.int .u16 0, .int .u8 0, .int .u8 0, .int .u8 0, .int .u8 0, .int .u8 0, .int .u8 0, .int .u32 0, .int .u8 0, .int .u8 0, .int .u8 0, .int .u8 0, .int .u8 0, .int .u8 0, .int .u32 0] 67) = w1 at *
  refine (arpRead l _ hl).mono ?_
  rintro e w2 ⟨rfl, hf1⟩
  have hx1 := hx0.keep hf1 (fun x => x)
  have hsz := Lib.hid (arpC_size (readARP l).1)
  have hin := Lib.hid (arp_info (readARP l).1)
  have hon := Lib.hid (arpC_one (readARP l).1)
  generalize hr : readARP l = r at *
  have Hr := Lib.hid hr
  clear hr
  generalize hc : arpC r.1 = c at *
  have Hc := Lib.hid hc
  clear hc
  go_wp2_with ((refine wpList_store_bk rfl 67 (.tmp 2) (.tmp 6) rfl w.heap.size _ _ c rfl rfl hx1 hsz.out hin.out hon.out ?_); intro w9 hx9 hf9)
  refine bodyPost_ret (results_row_tmp Tryz.results80 _ w9 w.heap.size _ c _ _ rfl rfl hx9 Tryz.underlying67 rfl hin.out) rfl ?_
  exact ⟨by rw [Hr.out, Hc.out]; rfl, (hf0.none hf1).trans' hf9 (fun b hb e => by unfold oneB at e; omega)⟩

theorem bootReadARP (l : List UInt8) (w : World) (hl : l.length ≤ 9223372036854775807) :
    Calls Tryz.prog 32 #[.string (bs l)] w (arpPost l w) := by
  go_enter Tryz.func32, Tryz.ntmps32
  go_wp2_with fail
  have hx0 := Bk.new w 67 zcArp
  have hf0 : Fr noB w (w.alloc (.cells zcArp 67)) := (Fr.refl _ _).alloc _
  unfold zcArp at hx0 hf0
  generalize w.alloc (.cells #[.int .u16 0, .int .u8 0, .int .u8 0, .int .u8 0, .int .u8 0, .int .u8 0, .int .u8 0, .int .u32 0, .int .u8 0, .int .u8 0, .int .u8 0, .int .u8 0, .int .u8 0, .int .u8 0, .int .u32 0] 67) = w1 at *
  refine (packetReadARP l _ hl).mono ?_
  rintro e w2 ⟨rfl, hf1⟩
  have hx1 := hx0.keep hf1 (fun x => x)
  have hsz := Lib.hid (arpC_size (readARP l).1)
  have hin := Lib.hid (arp_info (readARP l).1)
  have hon := Lib.hid (arpC_one (readARP l).1)
  generalize hr : readARP l = r at *
  have Hr := Lib.hid hr
  clear hr
  generalize hc : arpC r.1 = c at *
  have Hc := Lib.hid hc
  clear hc
  go_wp2_with ((refine wpList_store_bk rfl 67 (.tmp 2) (.tmp 6) rfl w.heap.size _ _ c rfl rfl hx1 hsz.out hin.out hon.out ?_); intro w9 hx9 hf9)
  refine bodyPost_ret (results_row_tmp Tryz.results32 _ w9 w.heap.size _ c _ _ rfl rfl hx9 Tryz.underlying67 rfl hin.out) rfl ?_
  exact ⟨by rw [Hr.out, Hc.out]; rfl, (hf0.none hf1).trans' hf9 (fun b hb e => by unfold oneB at e; omega)⟩
end Go.Proofs.YtcbkaiakdhiloabGreatDoor
namespace Go.Proofs.YtcbkaiakdhiloabGreatDoor
open Go.RowKit Go.Proofs
attribute [local go_sem] bs_size bs_append bs_sub bs_toList

theorem ethC_size (x : EthD) : (ethC x).size = zcEth.size := rfl
theorem ethC_one (x : EthD) : (ethC x).all (·.oneCell') = true := by kernel_rfl
theorem eth_info (x : EthD) : (Tryz.prog.info? 27).map (·.size) = some (ethC x).size := by rw [ethC_size]; kernel_rfl

theorem packetReadEther (l : List UInt8) (w : World) (hl : l.length ≤ 9223372036854775807) :
    Calls Tryz.prog 25 #[.string (bs l)] w (ethPost l w) := by
  go_enter Tryz.func25, Tryz.ntmps25
  go_wp2_with fail
  have hx0 := Bk.new w 27 zcEth
  have hf0 : Fr noB w (w.alloc (.cells zcEth 27)) := (Fr.refl _ _).alloc _
  unfold zcEth at hx0 hf0
  generalize w.alloc (.cells #[.int .u8 0, .int .u8 0, .int .u8 0, .int .u8 0, .int .u8 0, .int .u8 0, .int .u8 0, .int .u8 0, .int .u8 0, .int .u8 0, .int .u8 0, .int .u8 0, .int .u16 0, .string ⟨#[]⟩] 27) = w1 at *
  refine (ethRead l _ hl).mono ?_
  rintro e w2 ⟨rfl, hf1⟩
  have hx1 := hx0.keep hf1 (fun x => x)
  have hsz := Lib.hid (ethC_size (readEther l).1)
  have hin := Lib.hid (eth_info (readEther l).1)
  have hon := Lib.hid (ethC_one (readEther l).1)
  generalize hr : readEther l = r at *
  have Hr := Lib.hid hr
  clear hr
  generalize hc : ethC r.1 = c at *
  have Hc := Lib.hid hc
  clear hc
  go_wp2_with ((refine wpList_store_bk rfl 27 (.tmp 2) (.tmp 6) rfl w.heap.size _ _ c rfl rfl hx1 hsz.out hin.out hon.out ?_); intro w9 hx9 hf9)
  refine bodyPost_ret (results_row_tmp Tryz.results25 _ w9 w.heap.size _ c _ _ rfl rfl hx9 Tryz.underlying27 rfl hin.out) rfl ?_
  exact ⟨by rw [Hr.out, Hc.out]; rfl, (hf0.none hf1).trans' hf9 (fun b hb e => by unfold oneB at e; omega)⟩

theorem bootReadEther (l : List UInt8) (w : World) (hl : l.length ≤ 9223372036854775807) :
    Calls Tryz.prog 10 #[.string (bs l)] w (ethPost l w) := by
  go_enter Tryz.func10, Tryz.ntmps10
  go_wp2_with fail
  have hx0 := Bk.new w 27 zcEth
  have hf0 : Fr noB w (w.alloc (.cells zcEth 27)) := (Fr.refl _ _).alloc _
  unfold zcEth at hx0 hf0
  generalize w.alloc (.cells #[.int .u8 0, .int .u8 0, .int .u8 0, .int .u8 0, .int .u8 0, .int .u8 0, .int .u8 0, .int .u8 0, .int .u8 0, .int .u8 0, .int .u8 0, .int .u8 0, .int .u16 0, .string ⟨#[]⟩] 27) = w1 at *
  refine (packetReadEther l _ hl).mono ?_
  rintro e w2 ⟨rfl, hf1⟩
  have hx1 := hx0.keep hf1 (fun x => x)
  have hsz := Lib.hid (ethC_size (readEther l).1)
  have hin := Lib.hid (eth_info (readEther l).1)
  have hon := Lib.hid (ethC_one (readEther l).1)
  generalize hr : readEther l = r at *
  have Hr := Lib.hid hr
  clear hr
  generalize hc : ethC r.1 = c at *
  have Hc := Lib.hid hc
  clear hc
  go_wp2_with ((refine wpList_store_bk rfl 27 (.tmp 2) (.tmp 6) rfl w.heap.size _ _ c rfl rfl hx1 hsz.out hin.out hon.out ?_); intro w9 hx9 hf9)
  refine bodyPost_ret (results_row_tmp Tryz.results10 _ w9 w.heap.size _ c _ _ rfl rfl hx9 Tryz.underlying27 rfl hin.out) rfl ?_
  exact ⟨by rw [Hr.out, Hc.out]; rfl, (hf0.none hf1).trans' hf9 (fun b hb e => by unfold oneB at e; omega)⟩
end Go.Proofs.YtcbkaiakdhiloabGreatDoor
namespace Go.Proofs.YtcbkaiakdhiloabGreatDoor
open Go.RowKit Go.Proofs
attribute [local go_sem] bs_size bs_append bs_sub bs_toList

theorem ipC_size (x : IpD) : (ipC x).size = zcIp4.size := rfl
theorem ipC_one (x : IpD) : (ipC x).all (·.oneCell') = true := by kernel_rfl
theorem ip_info (x : IpD) : (Tryz.prog.info? 36).map (·.size) = some (ipC x).size := by rw [ipC_size]; kernel_rfl


theorem packetReadIP (l : List UInt8) (w : World) (hl : l.length ≤ 9223372036854775807) :
    Calls Tryz.prog 27 #[.string (bs l)] w (ipPost l w) := by
  go_enter Tryz.func27, Tryz.ntmps27
  have hmf : ∀ (fn : Fn) (first cap : Array Value) (w : World), (Instr.makeFunc fn first cap).run Tryz.prog w = .ok (.func fn first cap) w := fun _ _ _ _ => rfl
  go_wp2_with fail
  have hs0 := (Bk.new w 9 #[.string (bs l)]).alloc (.cells zcIp4 36)
  have hx0 := Bk.new (w.alloc (.cells #[.string (bs l)] 9)) 36 zcIp4
  rw [show (w.alloc (.cells #[.string (bs l)] 9)).heap.size = w.heap.size + 1 by simp] at hx0
  have hf0 : Fr noB w ((w.alloc (.cells #[.string (bs l)] 9)).alloc (.cells zcIp4 36)) := ((Fr.refl _ _).alloc _).alloc _
  unfold zcIp4 at hs0 hx0 hf0
  generalize (w.alloc (.cells #[.string (bs l)] 9)).alloc (.cells #[.int .u16 0, .int .u8 0, .int .u8 0, .int .u32 0, .int .u32 0, .string ⟨#[]⟩] 36) = w1 at *
  refine (ipRead l w.heap.size _ hs0 hl).mono ?_
  rintro e w2 ⟨rfl, hf1⟩
  have hx1 := hx0.keep hf1 (fun x => x)
  have hsz := Lib.hid (ipC_size (readIP l).1)
  have hin := Lib.hid (ip_info (readIP l).1)
  have hon := Lib.hid (ipC_one (readIP l).1)
  generalize hr : readIP l = r at *
  have Hr := Lib.hid hr
  clear hr
  generalize hc : ipC r.1 = c at *
  have Hc := Lib.hid hc
  clear hc
  go_wp2_with ((refine wpList_store_bk rfl 36 (.tmp 2) (.tmp 7) rfl (w.heap.size + 1) _ _ c rfl rfl hx1 hsz.out hin.out hon.out ?_); intro w9 hx9 hf9)
  refine bodyPost_ret (results_row_tmp Tryz.results27 _ w9 (w.heap.size + 1) _ c _ _ rfl rfl hx9 Tryz.underlying36 rfl hin.out) rfl ?_
  exact ⟨by rw [Hr.out, Hc.out]; rfl, (hf0.none hf1).trans' hf9 (fun b hb e => by unfold oneB at e; omega)⟩

theorem bootReadIP (l : List UInt8) (w : World) (hl : l.length ≤ 9223372036854775807) :
    Calls Tryz.prog 12 #[.string (bs l)] w (ipPost l w) := by
  go_enter Tryz.func12, Tryz.ntmps12
  go_wp2_with fail
  have hx0 := Bk.new w 36 zcIp4
  have hf0 : Fr noB w (w.alloc (.cells zcIp4 36)) := (Fr.refl _ _).alloc _
  unfold zcIp4 at hx0 hf0
  generalize w.alloc (.cells #[.int .u16 0, .int .u8 0, .int .u8 0, .int .u32 0, .int .u32 0, .string ⟨#[]⟩] 36) = w1 at *
  refine (packetReadIP l _ hl).mono ?_
  rintro e w2 ⟨rfl, hf1⟩
  have hx1 := hx0.keep hf1 (fun x => x)
  have hsz := Lib.hid (ipC_size (readIP l).1)
  have hin := Lib.hid (ip_info (readIP l).1)
  have hon := Lib.hid (ipC_one (readIP l).1)
  generalize hr : readIP l = r at *
  have Hr := Lib.hid hr
  clear hr
  generalize hc : ipC r.1 = c at *
  have Hc := Lib.hid hc
  clear hc
  go_wp2_with ((refine wpList_store_bk rfl 36 (.tmp 2) (.tmp 6) rfl w.heap.size _ _ c rfl rfl hx1 hsz.out hin.out hon.out ?_); intro w9 hx9 hf9)
  refine bodyPost_ret (results_row_tmp Tryz.results12 _ w9 w.heap.size _ c _ _ rfl rfl hx9 Tryz.underlying36 rfl hin.out) rfl ?_
  exact ⟨by rw [Hr.out, Hc.out]; rfl, (hf0.none hf1).trans' hf9 (fun b hb e => by unfold oneB at e; omega)⟩

end Go.Proofs.YtcbkaiakdhiloabGreatDoor
namespace Go.Proofs.YtcbkaiakdhiloabGreatDoor
open Go.RowKit Go.Proofs
attribute [local go_sem] bs_size bs_append bs_sub bs_toList

theorem udpC_size (x : UdpD) : (udpC x).size = zcUdp.size := rfl
theorem udpC_one (x : UdpD) : (udpC x).all (·.oneCell') = true := by kernel_rfl
theorem udp_info (x : UdpD) : (Tryz.prog.info? 42).map (·.size) = some (udpC x).size := by rw [udpC_size]; kernel_rfl

set_option maxRecDepth 20000 in
theorem packetReadUDP (l : List UInt8) (fi ti : Nat) (w : World) (hfi : fi < 4294967296) (hti : ti < 4294967296) (hl : l.length ≤ 9223372036854775807) :
    Calls Tryz.prog 30 #[.string (bs l), .int .u32 (fi : Int), .int .u32 (ti : Int)] w (udpPost l fi ti w) := by
  go_enter Tryz.func30, Tryz.ntmps30
  have hmf : ∀ (fn : Fn) (first cap : Array Value) (w : World), (Instr.makeFunc fn first cap).run Tryz.prog w = .ok (.func fn first cap) w := fun _ _ _ _ => rfl
  go_wp2_with fail
  have hs0 := (((Bk.new w 9 #[.string (bs l)]).alloc (.cells #[.int .u32 (fi : Int)] 34)).alloc (.cells #[.int .u32 (ti : Int)] 34)).alloc (.cells zcUdp 42)
  have hi0 := ((Bk.new (w.alloc (.cells #[.string (bs l)] 9)) 34 #[.int .u32 (fi : Int)]).alloc (.cells #[.int .u32 (ti : Int)] 34)).alloc (.cells zcUdp 42)
  have ht0 := (Bk.new ((w.alloc (.cells #[.string (bs l)] 9)).alloc (.cells #[.int .u32 (fi : Int)] 34)) 34 #[.int .u32 (ti : Int)]).alloc (.cells zcUdp 42)
  have hx0 := Bk.new (((w.alloc (.cells #[.string (bs l)] 9)).alloc (.cells #[.int .u32 (fi : Int)] 34)).alloc (.cells #[.int .u32 (ti : Int)] 34)) 42 zcUdp
  simp only [World.size_alloc] at hs0 hi0 ht0 hx0
  have hf0 : Fr noB w ((((w.alloc (.cells #[.string (bs l)] 9)).alloc (.cells #[.int .u32 (fi : Int)] 34)).alloc (.cells #[.int .u32 (ti : Int)] 34)).alloc (.cells zcUdp 42)) := ((((Fr.refl _ _).alloc _).alloc _).alloc _).alloc _
  unfold zcUdp at hs0 hi0 ht0 hx0 hf0
  generalize (((w.alloc (.cells #[.string (bs l)] 9)).alloc (.cells #[.int .u32 (fi : Int)] 34)).alloc (.cells #[.int .u32 (ti : Int)] 34)).alloc (.cells #[.int .u16 0, .int .u16 0, .string ⟨#[]⟩] 42) = w1 at *
  refine (udpRead l fi ti w.heap.size (w.heap.size + 1) (w.heap.size + 1 + 1) _ hfi hti hs0 hi0 ht0 hl).mono ?_
  rintro e w2 ⟨rfl, hf1⟩
  have hx1 := hx0.keep hf1 (fun x => x)
  have hsz := Lib.hid (udpC_size (readUDP l fi ti).1)
  have hin := Lib.hid (udp_info (readUDP l fi ti).1)
  have hon := Lib.hid (udpC_one (readUDP l fi ti).1)
  generalize hr : readUDP l fi ti = r at *
  have Hr := Lib.hid hr
  clear hr
  generalize hc : udpC r.1 = c at *
  have Hc := Lib.hid hc
  clear hc
  go_wp2_with ((refine wpList_store_bk rfl 42 (.tmp 6) (.tmp 11) rfl (w.heap.size + 1 + 1 + 1) _ _ c rfl rfl hx1 hsz.out hin.out hon.out ?_); intro w9 hx9 hf9)
  refine bodyPost_ret (results_row_tmp Tryz.results30 _ w9 (w.heap.size + 1 + 1 + 1) _ c _ _ rfl rfl hx9 Tryz.underlying42 rfl hin.out) rfl ?_
  exact ⟨by rw [Hr.out, Hc.out]; rfl, (hf0.none hf1).trans' hf9 (fun b hb e => by unfold oneB at e; omega)⟩

theorem bootReadUDP (l : List UInt8) (fi ti : Nat) (w : World) (hfi : fi < 4294967296) (hti : ti < 4294967296) (hl : l.length ≤ 9223372036854775807) :
    Calls Tryz.prog 15 #[.string (bs l), .int .u32 (fi : Int), .int .u32 (ti : Int)] w (udpPost l fi ti w) := by
  go_enter Tryz.func15, Tryz.ntmps15
  go_wp2_with fail
  have hx0 := Bk.new w 42 zcUdp
  have hf0 : Fr noB w (w.alloc (.cells zcUdp 42)) := (Fr.refl _ _).alloc _
  unfold zcUdp at hx0 hf0
  generalize w.alloc (.cells #[.int .u16 0, .int .u16 0, .string ⟨#[]⟩] 42) = w1 at *
  refine (packetReadUDP l fi ti _ hfi hti hl).mono ?_
  rintro e w2 ⟨rfl, hf1⟩
  have hx1 := hx0.keep hf1 (fun x => x)
  have hsz := Lib.hid (udpC_size (readUDP l fi ti).1)
  have hin := Lib.hid (udp_info (readUDP l fi ti).1)
  have hon := Lib.hid (udpC_one (readUDP l fi ti).1)
  generalize hr : readUDP l fi ti = r at *
  have Hr := Lib.hid hr
  clear hr
  generalize hc : udpC r.1 = c at *
  have Hc := Lib.hid hc
  clear hc
  go_wp2_with ((refine wpList_store_bk rfl 42 (.tmp 6) (.tmp 12) rfl (w.heap.size) _ _ c rfl rfl hx1 hsz.out hin.out hon.out ?_); intro w9 hx9 hf9)
  refine bodyPost_ret (results_row_tmp Tryz.results15 _ w9 (w.heap.size) _ c _ _ rfl rfl hx9 Tryz.underlying42 rfl hin.out) rfl ?_
  exact ⟨by rw [Hr.out, Hc.out]; rfl, (hf0.none hf1).trans' hf9 (fun b hb e => by unfold oneB at e; omega)⟩

end Go.Proofs.YtcbkaiakdhiloabGreatDoor
namespace Go.Proofs.YtcbkaiakdhiloabGreatDoor
open Go.RowKit Go.Proofs

theorem bootCheck_any (l : List UInt8) (w : World) (hl : l.length ≤ 9223372036854775807) :
    Calls Tryz.prog 13 #[.string (bs l)] w fun e w' => e = .returned (.int .u16 (check l)) ∧ Fr noB w w' := by
  go_enter Tryz.func13, Tryz.ntmps13
  go_wp2_with fail
  have hs := SlR.of_bk (n := 1) (size := 1) (S := noB) (Bk.new w 9 #[.string (bs l)]) (fun x => x) rfl
  refine (hashCheck_any _ 1 1 [l] _ noB hs (by omega) (by simpa using hl)).mono ?_
  rintro e w1 ⟨rfl, rfl⟩
  go_wp2_with fail
  go_ret
  exact ⟨by simp, (Fr.refl _ _).alloc _⟩

end Go.Proofs.YtcbkaiakdhiloabGreatDoor
namespace Go.Proofs.YtcbkaiakdhiloabGreatDoor
open Go.RowKit Go.Proofs

/-- Block g is a row of bytes that may be written. -/
structure ByB (w : World) (g : Nat) (l : List UInt8) : Prop where
  lt : g < w.heap.size
  cell : ∀ j (b : UInt8), l[j]? = some b → w.cell? ⟨g, j, none⟩ = some (.int .u8 (b.toNat : Int))
  free : ∀ j, j < l.length → w.frozen? ⟨g, j, none⟩ = false
section
variable {S : Nat → Prop} {w w' : World} {g : Nat} {l : List UInt8}
theorem ByB.new (w : World) (e : TypeId) (l : List UInt8) : ByB (Go.Lib.bytesWorld w e (bs l)) w.heap.size l := by
  refine ⟨by rw [Go.Lib.bytesWorld_size]; omega, fun j b hb => ?_, fun j hj => ?_⟩
  · have hj : j < l.length := by
      rcases Nat.lt_or_ge j l.length with h | h
      · exact h
      · rw [List.getElem?_eq_none h] at hb; cases hb
    have h := Go.Lib.bytesWorld_cell w e (bs l) j (by rw [bs_size]; exact hj)
    rw [bs_list] at h
    rw [h]
    simp [List.getD, hb]
  · have h := Go.Lib.bytesWorld_at_new w e (bs l)
    have hs : l.length ≤ (Go.Lib.bytesCells w e (bs l)).size := by
      unfold Go.Lib.bytesCells
      simp [bs]
    simp [World.frozen?, h]
    omega
theorem ByB.fr (w : World) (e : TypeId) (l : List UInt8) : Fr noB w (Go.Lib.bytesWorld w e (bs l)) :=
  ⟨rfl, rfl, rfl, by rw [Go.Lib.bytesWorld_size]; omega, fun k hk _ => Go.Lib.bytesWorld_at_old w _ _ k hk⟩
theorem ByB.keep (h : ByB w g l) (hf : Fr S w w') (hg : ¬ S g) : ByB w' g l :=
  ⟨Nat.lt_of_lt_of_le h.lt hf.size, fun j b hb => (hf.cell (a := ⟨g, j, none⟩) h.lt hg).trans (h.cell j b hb), fun j hj => (hf.frozen (a := ⟨g, j, none⟩) h.lt hg).trans (h.free j hj)⟩
theorem ByB.set (h : ByB w g l) (k : Nat) (b : UInt8) (hk : k < l.length) : ByB (w.setCell ⟨g, k, none⟩ (.int .u8 (b.toNat : Int))) g (l.set k b) := by
  refine ⟨by simpa [World.setCell] using h.lt, fun j c hc => ?_, fun j hj => ?_⟩
  · by_cases hjk : j = k
    · subst hjk
      rw [List.getElem?_set_self hk] at hc
      injection hc with hc
      subst hc
      obtain ⟨old, ho⟩ : ∃ old, w.cell? ⟨g, j, none⟩ = some old := ⟨_, h.cell j l[j] (List.getElem?_eq_getElem hk)⟩
      exact World.cell?_setCell_same _ _ _ ho
    · rw [List.getElem?_set_ne (fun e => hjk e.symm)] at hc
      exact (World.cell?_setCell_other _ _ _ _ (by intro e; injection e with _ e2; exact hjk e2.symm)).trans (h.cell j c hc)
  · rw [List.length_set] at hj
    have := h.free j hj
    simpa [World.frozen?_setCell] using this
theorem ByB.slr (h : ByB w g l) (hg : ¬ S g) : SlR w S 1 (some ⟨g, 0, none⟩) l.length (u8s l) := by
  refine ⟨by simp [u8s_length], fun _ => ⟨_, rfl, h.lt, hg, fun j u hu => ?_⟩⟩
  rw [addr_add, Nat.zero_add]
  simp only [u8s, List.getElem?_map, Option.map_eq_some_iff] at hu
  obtain ⟨b, hb, rfl⟩ := hu
  exact h.cell j b hb
end
end Go.Proofs.YtcbkaiakdhiloabGreatDoor
namespace Go.Proofs.YtcbkaiakdhiloabGreatDoor
open Go.RowKit Go.Proofs
attribute [local go_sem] bs_size bs_append bs_sub bs_toList

/-- which of n things the raw number c speaks of -/
def pickI (c : Int) (n : Nat) : Nat := ((if c < 0 then -(c + 1) else c) % (n : Int)).toNat
theorem pickI_lt (c : Int) (n : Nat) (h : 0 < n) : pickI c n < n := by
  unfold pickI
  have h1 := Int.emod_lt_of_pos (if c < 0 then -(c + 1) else c) (by omega : (0 : Int) < (n : Int))
  have h2 := Int.emod_nonneg (if c < 0 then -(c + 1) else c) (by omega : (n : Int) ≠ 0)
  omega
theorem pickI_int (c : Int) (n : Nat) (h : 0 < n) : ((pickI c n : Nat) : Int) = (if c < 0 then -(c + 1) else c) % (n : Int) := by
  unfold pickI
  exact Int.toNat_of_nonneg (Int.emod_nonneg _ (by omega))
set_option maxRecDepth 20000 in
theorem pickFn (c : Int) (n : Nat) (w : World) (h : 0 < n) (hn : n ≤ 1000000000) (h0 : -9223372036854775808 ≤ c) (h1 : c ≤ 9223372036854775807) :
    Calls Tryz.prog 8 #[.int .i64 c, .int .i64 n] w fun e w' => e = .returned (.int .i64 (pickI c n : Nat)) ∧ w = w' := by
  have hp := Lib.hid (pickI_int c n h)
  have hz : ((n : Int) == 0) = false := by simp; omega
  by_cases hc : c < 0
  · have e1 : IntKind.i64.wrap (c + 1) = c + 1 := IntWalk.i64_in _ (by omega)
    have e2 : IntKind.i64.wrap (-(c + 1)) = -(c + 1) := IntWalk.i64_in _ (by omega)
    have hp2 : Hid (((pickI c n : Nat) : Int) = (-(c + 1)) % (n : Int)) := by unfold Hid; rw [hp.out, if_pos hc]
    obtain ⟨d, hd⟩ : ∃ d : Int, d = -(c + 1) := ⟨_, rfl⟩
    have d0 : 0 ≤ d := by omega
    have d1 : d ≤ 9223372036854775807 := by omega
    have Hd := Lib.hid hd
    go_enter Tryz.func8, Tryz.ntmps8
    have hd' := hd.symm
    clear hd
    go_wp2_with fail
    go_ret
    refine ⟨?_, rfl⟩
    rw [hp2.out, ← Hd.out]
    try rfl
  · have hp2 : Hid (((pickI c n : Nat) : Int) = c % (n : Int)) := by unfold Hid; rw [hp.out, if_neg hc]
    have c0 : 0 ≤ c := by omega
    clear hc
    go_enter Tryz.func8, Tryz.ntmps8
    go_wp2_with fail
    go_ret
    refine ⟨?_, rfl⟩
    rw [hp2.out]
    try rfl
theorem pickK (c : Int) (n k : Nat) (w : World) (hk : k = pickI c n) (h : 0 < n) (hn : n ≤ 1000000000) (h0 : -9223372036854775808 ≤ c) (h1 : c ≤ 9223372036854775807) :
    Calls Tryz.prog 8 #[.int .i64 c, .int .i64 n] w fun e w' => e = .returned (.int .i64 (k : Int)) ∧ w' = w := by
  subst hk; exact (pickFn c n w h hn h0 h1).mono fun e w' h => ⟨h.1, h.2.symm⟩

end Go.Proofs.YtcbkaiakdhiloabGreatDoor
