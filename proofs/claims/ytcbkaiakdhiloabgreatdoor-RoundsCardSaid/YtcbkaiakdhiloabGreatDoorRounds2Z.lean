/- digits of the package netbootkeep; of ARP, DHCP and TFTP: what is written is read as it was, as contracts. Written by mkrounds2.py. -/
import Derived.Test.YtcbkaiakdhiloabGreatDoorRounds1Z
import Derived.Test.YtcbkaiakdhiloabGreatDoorMap
import Derived.Test.YtcbkaiakdhiloabGreatDoorMaq
import Derived.Test.YtcbkaiakdhiloabGreatDoorMas
import Derived.Test.YtcbkaiakdhiloabGreatDoorMat
import Derived.Lib.SlBytesRow
set_option linter.unusedSimpArgs false
set_option linter.unusedVariables false
namespace Go.Proofs.YtcbkaiakdhiloabGreatDoor
open Go.RowKit Go.Proofs
attribute [local go_sem] bs_size bs_append bs_sub bs_toList

theorem chr_digit (n : Nat) (h : n < 10) : ∃ c : UInt8, chrOk c = true ∧ IntKind.i64.wrap (48 + (n : Int)) = (c.toNat : Int) ∧ IntKind.u8.wrap (c.toNat : Int) = (c.toNat : Int) := by
  refine ⟨UInt8.ofNat (48 + n), ?_, ?_, ?_⟩
  · have : ∀ k : Fin 10, chrOk (UInt8.ofNat (48 + k.val)) = true := by decide
    exact this ⟨n, h⟩
  · rw [IntWalk.i64_in _ (by omega), UInt8.toNat_ofNat']; omega
  · have := (UInt8.ofNat (48 + n)).toNat_lt; rw [IntKind.wrap_u8']; omega
theorem wordB_one (c : UInt8) (h : chrOk c = true) : wordB [c] = true := by simp [wordB, h]
theorem wordB_snoc (t : List UInt8) (c : UInt8) (h : wordB t = true) (hc : chrOk c = true) : wordB (t ++ [c]) = true := by
  unfold wordB at *
  simp only [Bool.and_eq_true, decide_eq_true_eq, List.all_eq_true] at h ⊢
  refine ⟨fun x hx => ?_, by simp⟩
  rcases List.mem_append.1 hx with h1 | h1
  · exact h.1 x h1
  · rw [List.mem_singleton.1 h1]; exact hc
theorem conv_one {P : Program} (w : World) (src dst e : TypeId) (g : Nat) (c : UInt8) (hs : P.underlying src = some (.slice e)) (he : P.underlying e = some (.int .u8)) (hd : P.underlying dst = some .string) (hc : w.cell? ⟨g, 0, none⟩ = some (.int .u8 (c.toNat : Int))) :
    (convert src dst (.slice (some ⟨g, 0, none⟩) 1 1)).run P w = .ok (.string (bs [c])) w :=
  Lib.run_convert_whole w src e dst hs he hd g 0 (bs [c]) (fun i h => by
    have h1 : i < 1 := h
    obtain rfl : i = 0 := by omega
    exact hc) 1
theorem bs_one (c : UInt8) : bs [c] = (⟨#[c]⟩ : ByteArray) := rfl
set_option maxRecDepth 20000 in
set_option maxHeartbeats 4000000 in
theorem digitsFn : ∀ (k n : Nat) (w : World), k ≤ 18 → n < 10 ^ (k + 1) →
    Calls Tryz.prog 35 #[.int .i64 (n : Int)] w (fun e w' => (∃ t, e = .returned (.string (bs t)) ∧ wordB t = true ∧ t.length ≤ k + 1) ∧ Fr noB w w') := by
  have hsm : ∀ (k n : Nat) (w : World), n < 10 → Calls Tryz.prog 35 #[.int .i64 (n : Int)] w (fun e w' => (∃ t, e = .returned (.string (bs t)) ∧ wordB t = true ∧ t.length ≤ k + 1) ∧ Fr noB w w') := by
    intro k n w hn
    obtain ⟨c, hc, e1, e2⟩ := chr_digit n hn
    have hcv := conv_one (P := Tryz.prog) (w.alloc (.cells #[.int .u8 (c.toNat : Int)] 5)) 98 9 5 w.heap.size c Tryz.underlying98 Tryz.underlying5 Tryz.underlying9 ((Bk.new w 5 #[.int .u8 (c.toNat : Int)]).cells 0)
    go_enter Tryz.func35, Tryz.ntmps35
    go_wp2_with fail
    go_ret
    exact ⟨⟨[c], rfl, wordB_one c hc, by simp⟩, (Fr.refl _ _).alloc _⟩
  intro k
  induction k with
  | zero => intro n w _ h; exact hsm 0 n w (by omega)
  | succ k ih =>
    intro n w hk h
    by_cases hn : n < 10
    · exact hsm (k + 1) n w hn
    · obtain ⟨c, hc, e1, e2⟩ := chr_digit (n % 10) (by omega)
      have hp : (10 : Nat) ^ (k + 1 + 1) ≤ 10 ^ 19 := Nat.pow_le_pow_right (by decide) (by omega)
      go_enter Tryz.func35, Tryz.ntmps35
      have hq : n / 10 < 10 ^ (k + 1) := by rw [Nat.pow_succ] at h; omega
      have hI1 : (n : Int) / 10 = ((n / 10 : Nat) : Int) := by omega
      have hI2 : (n : Int).tmod 10 = ((n % 10 : Nat) : Int) := by rw [Int.tmod_eq_emod_of_nonneg (by omega)]; omega
      have hI3 : IntKind.i64.wrap ((n / 10 : Nat) : Int) = ((n / 10 : Nat) : Int) := IntWalk.i64_in _ (by have : n / 10 < 10 ^ 18 := (by rw [show k + 1 + 1 = (k + 1) + 1 from rfl, Nat.pow_succ] at h; have : (10:Nat) ^ (k + 1) ≤ 10 ^ 18 := Nat.pow_le_pow_right (by decide) (by omega); omega); omega)
      obtain ⟨n1, hn1⟩ : ∃ n1, n / 10 = n1 := ⟨_, rfl⟩
      obtain ⟨n2, hn2⟩ : ∃ n2, n % 10 = n2 := ⟨_, rfl⟩
      rw [hn1] at hI1 hI3 hq
      rw [hn2] at hI2 e1
      have Hn1 := Lib.hid hn1
      have Hq := Lib.hid hq
      clear hn1 hn2 hp h hq
      go_upto_region 3 with fail
      refine wp_region_pls (by kernel_rfl) (fun w' => Fr noB w w') [2, 7, 8] (.p 0 (.p 1 (.p 3 (.p 4 (.p 5 (.p 6 (.e2 2 (.e 7 (.e 8 (.p 9 (.p 10 .nil)))) 7 (.e2 2 (.e 8 (.p 9 (.p 10 .nil))) 8 (.e 2 (.p 9 (.p 10 .nil))))))))))) (by kernel_rfl) ((Fr.refl _ _).drew) ?_
      intro ops Q' hO hQ' wr1 hR1
      iterate 6 (refine pl_p0 hO rfl rfl ?_ (fun w' => ?_) ?_; rotate_left 1; (focus (go_simp; ((try with_reducible rfl); done))); simp only [Act.put, List.setIfInBounds_toArray, List.set_cons_zero, List.set_cons_succ])
      refine pl_e2 ?_ ?_
      · skip
        refine pl_b0 hO rfl rfl rfl (fun K hK => ?_)
        go_simp
        refine (ih n1 _ (by omega) Hq.out).mono ?_
        rintro e w2 ⟨⟨t, rfl, ht, htl⟩, f2⟩
        have htl2 : ¬ (9223372036854775807 < t.length + 1) := by omega
        have hcb : (w2.alloc (.cells #[.int .u8 (c.toNat : Int)] 5)).cell? ⟨w2.heap.size, 0, none⟩ = some (.int .u8 (c.toNat : Int)) := (Bk.new w2 5 #[.int .u8 (c.toNat : Int)]).cells 0
        refine hK _ _ ?_
        clear hK K
        refine pl_b0 hO rfl rfl rfl (fun K hK => ?_)
        go_simp
        refine hK _ _ ?_
        clear hK K
        refine pl_b0 hO rfl rfl rfl (fun K hK => ?_)
        have hcv := conv_one (P := Tryz.prog) (w2.alloc (.cells #[.int .u8 (c.toNat : Int)] 5)) 98 9 5 w2.heap.size c Tryz.underlying98 Tryz.underlying5 Tryz.underlying9 hcb
        go_simp
        refine hK _ _ ?_
        clear hK K
        iterate 2 (refine pl_p0 hO rfl rfl ?_ (fun w' => ?_) ?_; rotate_left 1; (focus (go_simp; ((try with_reducible rfl); done))); simp only [Act.put, List.setIfInBounds_toArray, List.set_cons_zero, List.set_cons_succ])
        refine pl_nil (hQ' _ _ ?_)
        go_wp2_with fail
        go_ret
        exact ⟨⟨t ++ [c], rfl, wordB_snoc t c ht hc, by rw [List.length_append, List.length_singleton]; omega⟩, (hR1.none f2).alloc _⟩
      · skip
        refine pl_b0 hO rfl rfl rfl (fun K hK => ?_)
        go_simp
        refine hK _ _ ?_
        clear hK K
        refine pl_e2 ?_ ?_
        · skip
          refine pl_b0 hO rfl rfl rfl (fun K hK => ?_)
          go_simp
          refine (ih n1 _ (by omega) Hq.out).mono ?_
          rintro e w2 ⟨⟨t, rfl, ht, htl⟩, f2⟩
          have htl2 : ¬ (9223372036854775807 < t.length + 1) := by omega
          have hcb := (((Bk.new wr1 5 #[.int .u8 (c.toNat : Int)]).keep f2 (fun x => x)).cells 0)
          refine hK _ _ ?_
          clear hK K
          refine pl_b0 hO rfl rfl rfl (fun K hK => ?_)
          have hcv := conv_one (P := Tryz.prog) w2 98 9 5 wr1.heap.size c Tryz.underlying98 Tryz.underlying5 Tryz.underlying9 hcb
          go_simp
          refine hK _ _ ?_
          clear hK K
          iterate 2 (refine pl_p0 hO rfl rfl ?_ (fun w' => ?_) ?_; rotate_left 1; (focus (go_simp; ((try with_reducible rfl); done))); simp only [Act.put, List.setIfInBounds_toArray, List.set_cons_zero, List.set_cons_succ])
          refine pl_nil (hQ' _ _ ?_)
          go_wp2_with fail
          go_ret
          exact ⟨⟨t ++ [c], rfl, wordB_snoc t c ht hc, by rw [List.length_append, List.length_singleton]; omega⟩, (hR1.alloc _).none f2⟩
        · skip
          refine pl_b0 hO rfl rfl rfl (fun K hK => ?_)
          have hcv := conv_one (P := Tryz.prog) (wr1.alloc (.cells #[.int .u8 (c.toNat : Int)] 5)) 98 9 5 wr1.heap.size c Tryz.underlying98 Tryz.underlying5 Tryz.underlying9 ((Bk.new wr1 5 #[.int .u8 (c.toNat : Int)]).cells 0)
          go_simp
          refine hK _ _ ?_
          clear hK K
          refine pl_b0 hO rfl rfl rfl (fun K hK => ?_)
          go_simp
          refine (ih n1 _ (by omega) Hq.out).mono ?_
          rintro e w2 ⟨⟨t, rfl, ht, htl⟩, f2⟩
          have htl2 : ¬ (9223372036854775807 < t.length + 1) := by omega
          refine hK _ _ ?_
          clear hK K
          iterate 2 (refine pl_p0 hO rfl rfl ?_ (fun w' => ?_) ?_; rotate_left 1; (focus (go_simp; ((try with_reducible rfl); done))); simp only [Act.put, List.setIfInBounds_toArray, List.set_cons_zero, List.set_cons_succ])
          refine pl_nil (hQ' _ _ ?_)
          go_wp2_with fail
          go_ret
          exact ⟨⟨t ++ [c], rfl, wordB_snoc t c ht hc, by rw [List.length_append, List.length_singleton]; omega⟩, (hR1.alloc _).none f2⟩
def arpOfB (op : Nat) (fm : Mac) (fi : Nat) (tm : Mac) (ti : Nat) : List UInt8 := arpBytes op fm fi tm ti
theorem arpOfB_len (op : Nat) (fm : Mac) (fi : Nat) (tm : Mac) (ti : Nat) : (arpOfB op fm fi tm ti).length = 28 := by simp [arpOfB, arpBytes, big_length, macB]
theorem rdWA (op fi ti : Nat) (m0 m1 m2 m3 m4 m5 n0 n1 n2 n3 n4 n5 : UInt8) (w : World) (ho : op = 1 ∨ op = 2) (hfi : fi < 4294967296) (hti : ti < 4294967296) :
    Calls Tryz.prog 31 #[.agg #[.int .u16 (op : Int), .int .u8 (m0.toNat : Int), .int .u8 (m1.toNat : Int), .int .u8 (m2.toNat : Int), .int .u8 (m3.toNat : Int), .int .u8 (m4.toNat : Int), .int .u8 (m5.toNat : Int), .int .u32 (fi : Int), .int .u8 (n0.toNat : Int), .int .u8 (n1.toNat : Int), .int .u8 (n2.toNat : Int), .int .u8 (n3.toNat : Int), .int .u8 (n4.toNat : Int), .int .u8 (n5.toNat : Int), .int .u32 (ti : Int)]] w (fun e w' => e = .returned (.tuple #[.string (bs (arpOfB op (m0, m1, m2, m3, m4, m5) fi (n0, n1, n2, n3, n4, n5) ti)), .int .i64 0]) ∧ Fr noB w w') := by
  have h := bootWriteARP op fi ti m0 m1 m2 m3 m4 m5 n0 n1 n2 n3 n4 n5 w (by omega) hfi hti
  have e : wrARP op (m0, m1, m2, m3, m4, m5) fi (n0, n1, n2, n3, n4, n5) ti = (arpOfB op (m0, m1, m2, m3, m4, m5) fi (n0, n1, n2, n3, n4, n5) ti, 0) := by unfold wrARP; rw [if_pos ho]; rfl
  rw [e] at h
  exact h
theorem rdRA (op fi ti : Nat) (m0 m1 m2 m3 m4 m5 n0 n1 n2 n3 n4 n5 : UInt8) (w : World) (ho : op = 1 ∨ op = 2) (hfi : fi < 4294967296) (hti : ti < 4294967296) :
    Calls Tryz.prog 32 #[.string (bs (arpOfB op (m0, m1, m2, m3, m4, m5) fi (n0, n1, n2, n3, n4, n5) ti ++ moreB))] w (fun e w' => e = .returned (.tuple #[.agg #[.int .u16 (op : Int), .int .u8 (m0.toNat : Int), .int .u8 (m1.toNat : Int), .int .u8 (m2.toNat : Int), .int .u8 (m3.toNat : Int), .int .u8 (m4.toNat : Int), .int .u8 (m5.toNat : Int), .int .u32 (fi : Int), .int .u8 (n0.toNat : Int), .int .u8 (n1.toNat : Int), .int .u8 (n2.toNat : Int), .int .u8 (n3.toNat : Int), .int .u8 (n4.toNat : Int), .int .u8 (n5.toNat : Int), .int .u32 (ti : Int)], .int .i64 0]) ∧ Fr noB w w') := by
  have h := bootReadARP (arpOfB op (m0, m1, m2, m3, m4, m5) fi (n0, n1, n2, n3, n4, n5) ti ++ moreB) w (by rw [List.length_append, arpOfB_len]; show _ + 4 ≤ _; omega)
  unfold arpPost at h
  rw [show readARP (arpOfB op (m0, m1, m2, m3, m4, m5) fi (n0, n1, n2, n3, n4, n5) ti ++ moreB) = _ from readARP_written op fi ti (m0, m1, m2, m3, m4, m5) (n0, n1, n2, n3, n4, n5) moreB ho hfi hti] at h
  exact h
def dhcOfB (rp : Bool) (xid client yours next : Nat) (mac : Mac) (os : List OptD) : List UInt8 := dhcBody (dhcHead rp xid client yours next (macB mac)) os
/-- options that are read as they were -/
structure RdOs (os : List OptD) : Prop where
  codes : ∀ o ∈ os, o.code ≠ 0 ∧ o.code ≠ 255 ∧ o.code ≠ 52
  apart : os.Pairwise fun x y => x.code ≠ y.code
  wt : wtO os ≤ 2097152
  len : (os.flatMap fun o => chunk o.code o.data).length ≤ 1200
theorem dhcOfB_len (rp : Bool) (xid client yours next : Nat) (mac : Mac) (os : List OptD) (h : RdOs os) : 300 ≤ (dhcOfB rp xid client yours next mac os).length ∧ (dhcOfB rp xid client yours next mac os).length ≤ 1472 := by
  have hh := dhcHead_length rp xid client yours next (macB mac) rfl
  have := h.len
  unfold dhcOfB dhcBody
  rw [zeroTo_length]
  simp only [List.length_append, List.length_cons, List.length_nil, hh]
  omega
theorem rdWD (rp : Bool) (xid client yours next : Nat) (n0 n1 n2 n3 n4 n5 : UInt8) (os : List OptD) (Ao : Option Addr) (cap : Nat) (w : World) (hxid : xid < 4294967296) (hcl : client < 4294967296) (hyo : yours < 4294967296) (hnx : next < 4294967296)
    (hA : SlR w noB 2 Ao os.length (optC os)) (h : RdOs os) :
    Calls Tryz.prog 33 #[.agg #[.bool rp, .int .u32 (xid : Int), .int .u32 (client : Int), .int .u32 (yours : Int), .int .u32 (next : Int), .int .u8 (n0.toNat : Int), .int .u8 (n1.toNat : Int), .int .u8 (n2.toNat : Int), .int .u8 (n3.toNat : Int), .int .u8 (n4.toNat : Int), .int .u8 (n5.toNat : Int), .slice Ao os.length cap]] w (fun e w' => e = .returned (.tuple #[.string (bs (dhcOfB rp xid client yours next (n0, n1, n2, n3, n4, n5) os)), .int .i64 0]) ∧ Fr noB w w') := by
  have hc := bootWriteDHCP rp xid client yours next n0 n1 n2 n3 n4 n5 os Ao cap w hxid hcl hyo hnx hA h.wt
  have hb : ¬ os.any optBad = true := by
    intro hx
    obtain ⟨o, ho, hb⟩ := List.any_eq_true.1 hx
    obtain ⟨c0, c1, c2⟩ := h.codes o ho
    simp [optBad, c0, c1, c2] at hb
  have e : wrDHCP rp xid client yours next [n0, n1, n2, n3, n4, n5] os = (dhcOfB rp xid client yours next (n0, n1, n2, n3, n4, n5) os, 0) := by
    have hl := (dhcOfB_len rp xid client yours next (n0, n1, n2, n3, n4, n5) os h).2
    unfold wrDHCP
    rw [if_neg hb]
    exact if_neg (by have : (dhcBody (dhcHead rp xid client yours next [n0, n1, n2, n3, n4, n5]) os).length ≤ 1472 := hl; omega)
  rw [e] at hc
  exact hc
theorem rdRD (rp : Bool) (xid client yours next : Nat) (n0 n1 n2 n3 n4 n5 : UInt8) (os : List OptD) (w : World) (hxid : xid < 4294967296) (hcl : client < 4294967296) (hyo : yours < 4294967296) (hnx : next < 4294967296) (h : RdOs os) :
    Calls Tryz.prog 34 #[.string (bs (dhcOfB rp xid client yours next (n0, n1, n2, n3, n4, n5) os))] w (fun e w' => (∃ A cap, e = .returned (.tuple #[.agg #[.bool rp, .int .u32 (xid : Int), .int .u32 (client : Int), .int .u32 (yours : Int), .int .u32 (next : Int), .int .u8 (n0.toNat : Int), .int .u8 (n1.toNat : Int), .int .u8 (n2.toNat : Int), .int .u8 (n3.toNat : Int), .int .u8 (n4.toNat : Int), .int .u8 (n5.toNat : Int), .slice A os.length cap], .int .i64 0]) ∧ SlR w' noB 2 A os.length (optC os)) ∧ Fr noB w w') := by
  have hc := bootReadDHCP (dhcOfB rp xid client yours next (n0, n1, n2, n3, n4, n5) os) w (by have := (dhcOfB_len rp xid client yours next (n0, n1, n2, n3, n4, n5) os h).2; omega)
  unfold dhcPost at hc
  rw [show readDHCP (dhcOfB rp xid client yours next (n0, n1, n2, n3, n4, n5) os) = _ from readDHCP_written rp xid client yours next (n0, n1, n2, n3, n4, n5) os hxid hcl hyo hnx h.codes h.apart] at hc
  refine hc.mono ?_
  rintro e w' ⟨⟨A, cap, he, hs⟩, hf⟩
  exact ⟨⟨A, cap, he, hs.sub (fun _ _ x => x.elim)⟩, hf⟩
/-- a message of TFTP that is read as it was -/
structure RdT (d : TftD) : Prop where
  op : d.op < 65536
  block : d.block < 65536
  wr : (wrTFTP d).2 = 0
  rd : readTFTP (wrTFTP d).1 = (d, 0)
  wt : wtF d.fs ≤ 1048576
  text : d.text.length ≤ 1048576
  data : d.data.length ≤ 1048576
  len : (wrTFTP d).1.length ≤ 1472
theorem rdWT (d : TftD) (A : Option Addr) (cap : Nat) (w : World) (hA : SlR w noB 2 A d.fs.length (fldC d.fs)) (hnc : d.fs.length ≤ cap) (h : RdT d) (hT : Tabs w) :
    Calls Tryz.prog 36 #[.agg #[.int .u16 (d.op : Int), .int .u16 (d.block : Int), .string (bs d.text), .string (bs d.data), .slice A d.fs.length cap]] w (fun e w' => e = .returned (.tuple #[.string (bs (wrTFTP d).1), .int .i64 0]) ∧ Fr noB w w') := by
  have hc := bootWriteTFTP d.op d.block d.text d.data d.fs A cap w h.op h.block hA hnc h.wt h.text h.data hT
  unfold strPost at hc
  rw [show (⟨d.op, d.block, d.text, d.data, d.fs⟩ : TftD) = d from rfl, h.wr] at hc
  exact hc
theorem rdRT (d : TftD) (w : World) (h : RdT d) (hT : Tabs w) :
    Calls Tryz.prog 37 #[.string (bs (wrTFTP d).1)] w (fun e w' => (∃ A cap, e = .returned (.tuple #[.agg #[.int .u16 (d.op : Int), .int .u16 (d.block : Int), .string (bs d.text), .string (bs d.data), .slice A d.fs.length cap], .int .i64 0]) ∧ SlR w' noB 2 A d.fs.length (fldC d.fs)) ∧ Fr noB w w') := by
  have hc := bootReadTFTP (wrTFTP d).1 w (by have := h.len; omega) hT
  refine hc.mono ?_
  rintro e w' ⟨⟨⟨A, cap, he, hs⟩, hf⟩, _⟩
  rw [h.rd] at he hs
  exact ⟨⟨A, cap, he, hs.sub (fun _ _ x => x.elim)⟩, hf⟩
theorem capT_ok (l : List UInt8) (h : l.length ≤ 1472) : capT l = (l, 0) := by unfold capT; rw [if_neg (by omega)]
theorem rt_of {d : TftD} {l : List UInt8} (e : wrTFTP d = (l, 0)) (hr : readTFTP l = (d, 0)) (hl : l.length ≤ 1472) (h1 : d.op < 65536) (h2 : d.block < 65536) (h3 : wtF d.fs ≤ 1048576) (h4 : d.text.length ≤ 1048576) (h5 : d.data.length ≤ 1048576) : RdT d :=
  ⟨h1, h2, by rw [e], by rw [e]; exact hr, h3, h4, h5, by rw [e]; exact hl⟩
theorem rt_data (bk : Nat) (d : List UInt8) (hb : bk < 65536) (hd : d.length ≤ 1000) : RdT ⟨3, bk, [], d, []⟩ := by
  have hl : (big 2 3 ++ big 2 bk ++ d).length ≤ 1472 := by simp only [List.length_append, big_length]; omega
  refine rt_of (l := big 2 3 ++ big 2 bk ++ d) ?_ (readTFTP_data bk d hb (by omega)) hl (by simp) hb (by simp [wtF]) (by simp) (by simp; omega)
  unfold wrTFTP
  rw [if_neg (show ¬ ((3 : Nat) = 1) by decide), if_neg (show ¬ ((3 : Nat) = 6) by decide), if_pos rfl, if_neg (show ¬ (1024 < d.length) by omega)]
  exact capT_ok _ hl
theorem rt_ack (bk : Nat) (hb : bk < 65536) : RdT ⟨4, bk, [], [], []⟩ :=
  rt_of (l := big 2 4 ++ big 2 bk) (by
    unfold wrTFTP
    rw [if_neg (show ¬ ((4 : Nat) = 1) by decide), if_neg (show ¬ ((4 : Nat) = 6) by decide), if_neg (show ¬ ((4 : Nat) = 3) by decide), if_pos rfl]
    exact capT_ok _ (by simp only [List.length_append, big_length]; omega)) (readTFTP_ack bk hb) (by simp only [List.length_append, big_length]; omega) (by simp) hb (by simp [wtF]) (by simp) (by simp)
def nosuch : List UInt8 := [110, 111, 32, 115, 117, 99, 104, 32, 116, 104, 105, 110, 103]
theorem rt_err (bk : Nat) (hb : bk < 65536) : RdT ⟨5, bk, nosuch, [], []⟩ :=
  rt_of (l := big 2 5 ++ big 2 bk ++ nosuch ++ [0]) (by
    unfold wrTFTP
    rw [if_neg (show ¬ ((5 : Nat) = 1) by decide), if_neg (show ¬ ((5 : Nat) = 6) by decide), if_neg (show ¬ ((5 : Nat) = 3) by decide), if_neg (show ¬ ((5 : Nat) = 4) by decide), if_pos rfl, if_neg (show ¬ (nosuch.contains 0 = true) by decide)]
    exact capT_ok _ (by simp only [List.length_append, big_length, nosuch, List.length_cons, List.length_nil]; omega)) (readTFTP_err bk nosuch hb (by decide)) (by simp only [List.length_append, big_length, nosuch, List.length_cons, List.length_nil]; omega) (by simp) hb (by simp [wtF]) (by simp [nosuch]) (by simp)
def twoF (t : List UInt8) : List FldD := [⟨[97], [49]⟩, ⟨[116, 115, 105, 122, 101], t⟩]
theorem twoF_to (t : List UInt8) (h : wordB t = true) : fldTo (twoF t) (twoF t).length := by
  intro j o hj ho
  match j, ho with
  | 0, ho => cases ho; exact (by decide : fldOk [] ⟨[97], [49]⟩ = true)
  | 1, ho =>
    cases ho
    show (wordB [116, 115, 105, 122, 101] && wordB t && ([116, 115, 105, 122, 101] == lowL [116, 115, 105, 122, 101]) && !(named [⟨[97], [49]⟩] [116, 115, 105, 122, 101])) = true
    rw [h]; decide
  | n + 2, ho => cases ho
theorem twoF_len (t : List UInt8) : (fldB (twoF t)).length = t.length + 11 := by simp [fldB, twoF]
theorem rt_oack (t : List UInt8) (h : wordB t = true) (hl : t.length ≤ 5) : RdT ⟨6, 0, [], [], twoF t⟩ := by
  have hto := twoF_to t h
  have hlen : (big 2 6 ++ fldB (twoF t)).length ≤ 1472 := by simp only [List.length_append, big_length, twoF_len]; omega
  refine rt_of (l := big 2 6 ++ fldB (twoF t)) ?_ (readTFTP_oack _ hto) hlen (by simp) (by simp) (by simp [wtF, twoF]; omega) (by simp) (by simp)
  unfold wrTFTP
  rw [if_neg (by simp), if_pos rfl, fldTo_all hto]
  exact capT_ok _ hlen
def kernelB : List UInt8 := [107, 101, 114, 110, 101, 108]
theorem rt_ask (t : List UInt8) (h : wordB t = true) (hl : t.length ≤ 5) : RdT ⟨1, 0, kernelB, [], twoF t⟩ := by
  have hto := twoF_to t h
  have hk : wordB kernelB = true := by decide
  have hlen : (big 2 1 ++ kernelB ++ [0, 111, 99, 116, 101, 116, 0] ++ fldB (twoF t)).length ≤ 1472 := by simp only [List.length_append, big_length, twoF_len, kernelB, List.length_cons, List.length_nil]; omega
  refine rt_of (l := big 2 1 ++ kernelB ++ [0, 111, 99, 116, 101, 116, 0] ++ fldB (twoF t)) ?_ (readTFTP_ask kernelB _ hk hto) hlen (by simp) (by simp) (by simp [wtF, twoF]; omega) (by simp [kernelB]) (by simp)
  unfold wrTFTP
  rw [if_pos rfl, if_pos hk, fldTo_all hto]
  exact capT_ok _ hlen
end Go.Proofs.YtcbkaiakdhiloabGreatDoor
