/- boot.WriteTFTP, the law's weight of fields, and netbootlaw.TFTPWrites walked. Written by mktftlaww.py. -/
import Derived.Test.YtcbkaiakdhiloabDoorTfWr
import Derived.Test.YtcbkaiakdhiloabDoorRefTWr
import Derived.Test.YtcbkaiakdhiloabDoorTftLaw
import Derived.Test.YtcbkaiakdhiloabDoorPl
set_option linter.unusedSimpArgs false
set_option linter.unusedVariables false
namespace Go.Proofs.YtcbkaiakdhiloabDoor
open Go.RowKit Go.Proofs
attribute [local go_sem] bs_size bs_append bs_extract bs_toList

theorem keepU {w0 wa wb : World} {p : Nat} {cs : Array Value} (hp : p < w0.heap.size) (h : (∀ j, wa.cell? ⟨p, j, none⟩ = cs[j]?) ∧ Fr noB w0 wa) (hf : Fr noB wa wb) :
    (∀ j, wb.cell? ⟨p, j, none⟩ = cs[j]?) ∧ Fr noB w0 wb :=
  ⟨fun j => (hf.cell (a := ⟨p, j, none⟩) (Nat.lt_of_lt_of_le hp h.2.size) (fun x => x)).trans (h.1 j), h.2.none hf⟩
theorem keepV {w0 wa wb : World} {p q : Nat} {cs ds : Array Value} (hp : p < w0.heap.size) (hq : q < w0.heap.size) (h : (∀ j, wa.cell? ⟨p, j, none⟩ = cs[j]?) ∧ (∀ j, wa.cell? ⟨q, j, none⟩ = ds[j]?) ∧ Fr noB w0 wa) (hf : Fr noB wa wb) :
    (∀ j, wb.cell? ⟨p, j, none⟩ = cs[j]?) ∧ (∀ j, wb.cell? ⟨q, j, none⟩ = ds[j]?) ∧ Fr noB w0 wb :=
  ⟨fun j => (hf.cell (a := ⟨p, j, none⟩) (Nat.lt_of_lt_of_le hp h.2.2.size) (fun x => x)).trans (h.1 j), fun j => (hf.cell (a := ⟨q, j, none⟩) (Nat.lt_of_lt_of_le hq h.2.2.size) (fun x => x)).trans (h.2.1 j), h.2.2.none hf⟩
theorem own_slrT {w : World} {base : Nat} {e : TypeId} {A : Option Addr} {n cap : Nat} {xs : List Value} (h : w.ownsRow base e 2 (.slice A n cap) n xs) : SlR w noB 2 A n xs := by
  refine ⟨h.1, fun hn => ?_⟩
  rcases h.2 with ⟨hv, hx⟩ | ⟨g, c, cur, hv, _⟩
  · have h1 := h.1; rw [hx] at h1; simp at h1; omega
  · injection hv with hA
    subst hA
    have hc := h.cells (g := g) rfl
    refine ⟨_, rfl, ?_, fun x => x, hc⟩
    obtain ⟨u, hu⟩ : ∃ u, xs[0]? = some u := ⟨_, List.getElem?_eq_getElem (by have := h.1; omega)⟩
    have := cell_ltP (hc 0 u hu)
    simpa [Addr.add] using this

set_option maxRecDepth 20000 in
set_option maxHeartbeats 1000000 in
theorem bootWriteTFTP (op bk : Nat) (tx dt : List UInt8) (fs : List FldD) (Ao : Option Addr) (cap : Nat) (w : World)
    (hop : op < 65536) (hbk : bk < 65536) (hA : SlR w noB 2 Ao fs.length (fldC fs)) (hnc : fs.length ≤ cap) (hwt : wtF fs ≤ 1048576) (htx : tx.length ≤ 1048576) (hdt : dt.length ≤ 1048576) (hT : Tabs w) :
    Calls Tryd.prog 18 #[.agg #[.int .u16 (op : Int), .int .u16 (bk : Int), .string (bs tx), .string (bs dt), .slice Ao fs.length cap]] w (strPost (wrTFTP ⟨op, bk, tx, dt, fs⟩) w) := by
  have hpa := (Bk.new w 47 #[.int .u16 (op : Int), .int .u16 (bk : Int), .string (bs tx), .string (bs dt), .slice Ao fs.length cap]).cells
  have hf0 : Fr noB w (w.alloc (.cells #[.int .u16 (op : Int), .int .u16 (bk : Int), .string (bs tx), .string (bs dt), .slice Ao fs.length cap] 47)) := (Fr.refl _ _).alloc _
  have hA1 := hA.keep hf0
  have hT1 := hT.none hf0
  go_enter Tryd.func18, Tryd.ntmps18
  go_wp2_with fail
  refine (tftpWrite op bk tx dt fs Ao cap _ hop hbk hA1 hnc hwt htx hdt hT1).mono ?_
  rintro e w2 ⟨rfl, hf2⟩
  generalize wrTFTP ⟨op, bk, tx, dt, fs⟩ = R at *
  go_wp2_with fail
  go_ret2
  exact ⟨rfl, hf0.none hf2⟩

def fsum : List FldD → Nat
  | [] => 0
  | o :: r => o.name.length + o.value.length + fsum r
theorem fsum_append : ∀ a b : List FldD, fsum (a ++ b) = fsum a + fsum b
  | [], b => by simp [fsum]
  | o :: r, b => by simp only [List.cons_append, fsum, fsum_append r b]; omega
theorem fsum_succ {os : List FldD} {i : Nat} {o : FldD} (h : os[i]? = some o) : fsum (os.take (i + 1)) = fsum (os.take i) + (o.name.length + o.value.length) := by
  have hi : i < os.length := by
    rcases Nat.lt_or_ge i os.length with h1 | h1
    · exact h1
    · rw [List.getElem?_eq_none h1] at h; cases h
  rw [List.getElem?_eq_getElem hi] at h
  cases h
  rw [List.take_succ_eq_append_getElem hi, fsum_append]; simp [fsum]
theorem fsum_take : ∀ (os : List FldD) (i : Nat), fsum (os.take i) ≤ fsum os
  | [], i => by simp
  | o :: r, 0 => Nat.zero_le _
  | o :: r, i + 1 => by have := fsum_take r i; simp only [List.take_succ_cons, fsum]; omega
theorem fsum_wtF : ∀ os : List FldD, os.length + fsum os ≤ wtF os
  | [] => Nat.le_refl _
  | o :: r => by have := fsum_wtF r; simp only [wtF, fsum, List.length_cons]; omega
set_option maxRecDepth 20000 in
set_option maxHeartbeats 1000000 in
theorem lawWeightF (A : Option Addr) (n cap : Nat) (os : List FldD) (w : World) (hA : SlR w noB 2 A n (fldC os)) (hwt : wtF os ≤ 1048576) :
    Calls Tryd.prog 17 #[.slice none 0 0, .slice A n cap] w fun e w' => e = .returned (.int .i64 ((n + fsum os : Nat) : Int)) ∧ Fr noB w w' := by
  have hlen := hA.fld
  have hds := fsum_wtF os
  go_enter Tryd.func17, Tryd.ntmps17
  have hnb : n ≤ 1048576 := by omega
  have hnf : n + fsum os ≤ 1048576 := by omega
  have Hlen := Lib.hid hlen
  clear hds hlen hwt
  go_wp2_with fail
  refine wp_loop_once ?_
  go_wp2_with fail
  go_loopw [5, 29] (fun nv iv wr => ∃ (i : Nat) (m : Nat), i ≤ n ∧ iv = .int .i64 (i : Int) ∧ nv = .int .i64 (m : Int) ∧ m = n + fsum (os.take i) ∧ Fr noB w wr) (fun _ iv _ => n - (intOf iv).toNat)
  case atStart => exact ⟨0, n, by omega, rfl, rfl, by simp [fsum], Fr.refl _ _⟩
  case round =>
    obtain ⟨i, m, hi, rfl, rfl, hm, hw⟩ := hrel
    have htk := fsum_take os i
    have hmb : m ≤ 1048576 := by omega
    have Hm := Lib.hid hm
    clear hm htk
    by_cases hlt : i < n
    · obtain ⟨o, ho⟩ : ∃ o, os[i]? = some o := ⟨_, List.getElem?_eq_getElem (by rw [Hlen.out]; omega)⟩
      obtain ⟨ad, rfl, c1, c2⟩ := (hA.keep hw).fldAt ho
      have hs := fsum_succ ho
      have ht2 := fsum_take os (i + 1)
      have hol : o.name.length + o.value.length ≤ 1048576 := by omega
      have Hs := Lib.hid hs
      clear ho ht2 hs
      have hne := hw.alloc (.cells #[.string (bs o.name), .string (bs o.value)] 66)
      go_wp2_with fail
      exact ⟨⟨i + 1, m + (o.name.length + o.value.length), by omega, by rw [Int.natCast_add]; rfl, by rw [Int.natCast_add, Int.natCast_add], by have := Hs.out; have := Hm.out; omega, hne⟩, by simp only [intOf]; omega⟩
    · obtain rfl : i = n := by omega
      have hfin : m = i + fsum os := by
        have h1 := Hm.out
        rw [List.take_of_length_le (by rw [Hlen.out]; omega)] at h1
        exact h1
      have Hfin := Lib.hid hfin
      clear hfin
      go_wp2_with fail
      go_ret
      rw [← Hfin.out]
      exact ⟨rfl, hw⟩

set_option maxRecDepth 20000 in
set_option maxHeartbeats 4000000 in
theorem lawTFTPWrites (op bk : Nat) (tx dt : List UInt8) (fs : List FldD) (Ao : Option Addr) (cap : Nat) (w : World)
    (hop : op < 65536) (hbk : bk < 65536) (hA : SlR w noB 2 Ao fs.length (fldC fs)) (hnc : fs.length ≤ cap) (hwt : wtF fs ≤ 1048576) (htx : tx.length ≤ 1048576) (hdt : dt.length ≤ 1048576) (hT : Tabs w) :
    Calls Tryd.prog 5 #[.agg #[.int .u16 (op : Int), .int .u16 (bk : Int), .string (bs tx), .string (bs dt), .slice Ao fs.length cap]] w (fun e w' => e = .returned (.bool true) ∧ Fr noB w w') := by
  have hlw := wtF_len fs
  have hwf := fsum_wtF fs
  have hpa := Bk.new w 47 #[.int .u16 (op : Int), .int .u16 (bk : Int), .string (bs tx), .string (bs dt), .slice Ao fs.length cap]
  have hpc := hpa.cells
  have hf0 : Fr noB w (w.alloc (.cells #[.int .u16 (op : Int), .int .u16 (bk : Int), .string (bs tx), .string (bs dt), .slice Ao fs.length cap] 47)) := (Fr.refl _ _).alloc _
  have hA1 := hA.keep hf0
  have hT1 := hT.none hf0
  have hbw := fun w (hA : SlR w noB 2 Ao fs.length (fldC fs)) (hT : Tabs w) => bootWriteTFTP op bk tx dt fs Ao cap w hop hbk hA hnc hwt htx hdt hT
  have hrw := fun w (hA : SlR w noB 2 Ao fs.length (fldC fs)) => refWriteTFTP op bk tx dt fs Ao cap w hop hbk hA hnc hwt htx hdt
  have hw8 := fun w (hA : SlR w noB 2 Ao fs.length (fldC fs)) => lawWeightF Ao fs.length cap fs w hA hwt
  obtain ⟨n, hn⟩ : ∃ n, fs.length = n := ⟨_, rfl⟩
  rw [hn] at hA hpa hpc hf0 hA1 hT1 hbw hrw hw8 hlw hwf hnc
  rw [hn]
  unfold strPost at hbw hrw
  obtain ⟨R, hR⟩ : ∃ R, wrTFTP ⟨op, bk, tx, dt, fs⟩ = R := ⟨_, rfl⟩
  rw [hR] at hbw hrw
  obtain ⟨wt, hwe⟩ : ∃ k, n + fsum fs = k := ⟨_, rfl⟩
  rw [hwe] at hw8 hwf
  have Hw8 := Lib.hid hw8
  have Hbw := Lib.hid hbw
  have Hrw := Lib.hid hrw
  have Hn := Lib.hid hn
  have hwt2 : wt ≤ 1048576 := by omega
  clear hn hR hbw hrw hw8 hwe
  go_enter Tryd.func5, Tryd.ntmps5
  go_upto_region 1 with fail
  generalize w.alloc (.cells #[.int .u16 (op : Int), .int .u16 (bk : Int), .string (bs tx), .string (bs dt), .slice Ao n cap] 47) = w1 at *
  have hpl := hpa.lt
  have q1 : IntKind.i64.wrap ((wt : Int) + (tx.length : Int)) = (wt : Int) + (tx.length : Int) := IntWalk.i64_in _ (by omega)
  have q2 : IntKind.i64.wrap ((wt : Int) + (tx.length : Int) + (dt.length : Int)) = (wt : Int) + (tx.length : Int) + (dt.length : Int) := IntWalk.i64_in _ (by omega)
  refine wp_region_pls (by kernel_rfl) (fun w' => (∀ j, w'.cell? ⟨w.heap.size, j, none⟩ = (#[.int .u16 (op : Int), .int .u16 (bk : Int), .string (bs tx), .string (bs dt), .slice Ao n cap] : Array Value)[j]?) ∧ Fr noB w1 w') [] (.p 0 (.p 3 (.p 7 (.q 1 (.q 4 (.p 5 (.q 8 (.p 9 (.e 2 (.p 6 (.p 10 (.p 11 .nil)))))))))))) (by kernel_rfl) (⟨hpc, (Fr.refl _ _).drew⟩) ?_
  intro ops Q' hO hQ' wr1 hR1
  iterate 3 (refine pl_p0 hO rfl rfl ?_ (fun w' => ?_) ?_; rotate_left 1; (focus (go_simp; ((try with_reducible rfl); done))); simp only [Act.put, List.setIfInBounds_toArray, List.set_cons_zero, List.set_cons_succ])
  iterate 2 (refine pl_q0 hO rfl rfl ?_ (fun w' hS => ?_) ?_; rotate_left 1; (focus (obtain ⟨hS1, hS2⟩ := hS; go_simp; ((try with_reducible rfl); done))); simp only [Act.put, List.setIfInBounds_toArray, List.set_cons_zero, List.set_cons_succ])
  refine pl_p0 hO rfl rfl ?_ (fun w' => ?_) ?_; rotate_left 1; (focus (go_simp; ((try with_reducible rfl); done))); simp only [Act.put, List.setIfInBounds_toArray, List.set_cons_zero, List.set_cons_succ]
  refine pl_q0 hO rfl rfl ?_ (fun w' hS => ?_) ?_; rotate_left 1; (focus (obtain ⟨hS1, hS2⟩ := hS; go_simp; ((try with_reducible rfl); done))); simp only [Act.put, List.setIfInBounds_toArray, List.set_cons_zero, List.set_cons_succ]
  refine pl_p0 hO rfl rfl ?_ (fun w' => ?_) ?_; rotate_left 1; (focus (go_simp; ((try with_reducible rfl); done))); simp only [Act.put, List.setIfInBounds_toArray, List.set_cons_zero, List.set_cons_succ]
  refine pl_e0 hO rfl rfl rfl (fun K hK => ?_)
  go_simp
  refine ((Hw8.out _ (hA1.keep hR1.2)).mono ?_)
  rintro e w16 ⟨rfl, f16⟩
  refine hK _ _ (keepU hpl hR1 f16) (fun hR_2 => ?_)
  clear hK K
  iterate 3 (refine pl_p0 hO rfl rfl ?_ (fun w' => ?_) ?_; rotate_left 1; (focus (go_simp; ((try with_reducible rfl); done))); simp only [Act.put, List.setIfInBounds_toArray, List.set_cons_zero, List.set_cons_succ])
  refine pl_nil (hQ' _ _ ?_)
  clear q1 q2
  have hf1 := hf0.none hR_2.2
  have hA2 := hA1.keep hR_2.2
  have hT2 := hT1.none hR_2.2
  have hpa2 := hpa.keep hR_2.2 (fun x => x)
  obtain ⟨w2, hw2⟩ : ∃ w2, w2 = w16 := ⟨_, rfl⟩
  rw [← hw2] at hf1 hA2 hT2 hpa2
  rw [← hw2]
  clear hR1 hR_2 f16 hw2 hpc hpa hA1 hf0 hT1 hpl
  have hpc2 := hpa2.cells
  have hpl2 := hpa2.lt
  by_cases hbig : (16384 : Int) < (wt : Int) + (tx.length : Int) + (dt.length : Int)
  · go_wp2_with fail
    go_ret
    exact ⟨rfl, hf1⟩
  obtain ⟨i0, hi0, hz0, hz1, hz2⟩ := info_parts fld_info
  go_upto_region 4 with fail
  have hq3 := Bk.new w2 47 #[.int .u16 (op : Int), .int .u16 (bk : Int), .string (bs tx), .string (bs dt), .slice Ao n cap]
  have hf3 : Fr noB w2 (w2.alloc (.cells #[.int .u16 (op : Int), .int .u16 (bk : Int), .string (bs tx), .string (bs dt), .slice Ao n cap] 47)) := (Fr.refl _ _).alloc _
  generalize w2.alloc (.cells #[.int .u16 (op : Int), .int .u16 (bk : Int), .string (bs tx), .string (bs dt), .slice Ao n cap] 47) = w3 at *
  obtain ⟨q, hq⟩ : ∃ q, w2.heap.size = q := ⟨_, rfl⟩
  rw [hq] at hq3
  rw [hq]
  have hql : w2.heap.size ≤ q := by omega
  clear hq
  have hpa3 := hpa2.keep hf3 (fun x => x)
  have hA3 := hA2.keep hf3
  have hT3 := hT2.none hf3
  have hf03 := hf1.none hf3
  have hpc3 := hpa3.cells
  have hqc3 := hq3.cells
  have hqf3 := hq3.frees
  clear hpc2 hpa2 hA2 hT2 hf3
  have hO0 : w3.ownsRow w3.heap.size 66 2 (.slice none 0 0) 0 [] := ⟨rfl, .inl ⟨rfl, rfl⟩⟩
  go_upto_region 5 with (at_builtin
                         go_must (refine wpList_app rfl (.const (.slice none 0 0)) (.tmp 22) _ rfl w3.heap.size 66 i0 _ 2 32 Tryd.underlying45 hi0 hz0 hz1 hz2 rfl (by omega) none 0 0 _ rfl hO0 noB Ao n _ _ rfl hA3 fldC_one (by unfold maxLen; omega) (by omega) (Nat.le_refl _) ?_)
                         intro A3 cap3 w4 hap
                         have hf4 : Fr noB w3 w4 := hap.fr.mono (by rintro b _ ⟨a, e, _⟩; cases e)
                         have hq4 := hq3.keep hf4 (fun x => x)
                         have hqc4 := hq4.cells
                         have hqf4 := hq4.frees)
  have hO3 : w4.ownsRow w3.heap.size 66 2 (.slice A3 n cap3) n (fldC fs) := by have := hap.own; rwa [Nat.zero_add, List.nil_append] at this
  have hA4 := own_slrT hO3
  have hA5 := hA3.keep hf4
  have hf04 := hf03.none hf4
  have hpa4 := hpa3.keep hf4 (fun x => x)
  have hT4 := hT3.none hf4
  have hq5 := hq4.set 4 (.slice A3 n cap3)
  have hqn : w.heap.size < q := by omega
  have hf05 : Fr noB w (w4.setCell ⟨q, 4, none⟩ (.slice A3 n cap3)) := hf04.setCell (p := ⟨q, 4, none⟩) (fun h => absurd h (by simp only; omega)) _
  have hpa5 := hpa4.far (p := ⟨q, 4, none⟩) (by simp only; omega) (.slice A3 n cap3)
  have hf45 : Fr (oneB q) w4 (w4.setCell ⟨q, 4, none⟩ (.slice A3 n cap3)) := (Fr.refl (oneB q) w4).setCell (p := ⟨q, 4, none⟩) (fun _ => rfl) _
  have hA5' := (hA.keep hf05)
  have hA4' : SlR (w4.setCell ⟨q, 4, none⟩ (.slice A3 n cap3)) noB 2 A3 n (fldC fs) := by
    refine ⟨hA4.1, fun h0 => ?_⟩
    obtain ⟨ad, e, hb, hS, hc⟩ := hA4.2 h0
    refine ⟨ad, e, by simpa [World.setCell] using hb, fun x => x, fun j u hu => ?_⟩
    have hne : ad.block ≠ q := by
      rcases hap.at_ ad e with h1 | ⟨a, ha, _⟩
      · have := hq3.lt; omega
      · cases ha
    exact (hf45.cell (a := ad.add j) (by rw [block_add]; exact hb) (by rw [block_add]; exact hne)).trans (hc j u hu)
  have hT5 := hT.none hf05
  have hbw5 := Hbw.out _ hA5' hT5
  generalize w4.setCell ⟨q, 4, none⟩ (.slice A3 n cap3) = w5 at *
  simp only [List.setIfInBounds_toArray, List.set_cons_succ, List.set_cons_zero] at hq5
  clear hO3 hap hO0 hqc3 hqf3 hq3 hq4 hqc4 hqf4 hf4 hA3 hA4 hA5 hf03 hf04 hpa3 hpa4 hT3 hT4 hf45 hpc3 hi0 hz0 hz1 hz2 hbig
  have hpc5 := hpa5.cells
  go_wp2_with fail
  refine hbw5.mono ?_
  rintro e w6 ⟨rfl, hf6⟩
  have hA6 := hA5'.keep hf6
  have hA6' := hA4'.keep hf6
  have hf06 := hf05.none hf6
  have hpa6 := hpa5.keep hf6 (fun x => x)
  have hq6 := hq5.keep hf6 (fun x => x)
  have hpc6 := hpa6.cells
  clear hpc5 hpa5 hq5 hA5' hA4' hf05 hf6 hbw5 hT5
  go_wp2_with fail
  refine (Hrw.out w6 hA6).mono ?_
  rintro e w7 ⟨rfl, hf7⟩
  have hA7 := hA6.keep hf7
  have hA8 := hA6'.keep hf7
  have hf07 := hf06.none hf7
  have hpa7 := hpa6.keep hf7 (fun x => x)
  have hq7 := hq6.keep hf7 (fun x => x)
  clear hpc6 hpa6 hq6 hA6 hA6' hf06 hf7
  have hpc5 := hpa7.cells
  have hqc5 := hq7.cells
  go_wp2_with fail
  have hsm := sameTft ⟨op, bk, tx, dt, fs⟩ A3 Ao cap3 cap w7
  simp only [tftC, Hn.out] at hsm
  refine (hsm (by omega) hA8 hA7).mono ?_
  rintro e w8 ⟨rfl, hf8⟩
  go_wp2_with fail
  go_ret
  exact ⟨rfl, hf07.none hf8⟩
end Go.Proofs.YtcbkaiakdhiloabDoor
