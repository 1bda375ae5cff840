/- Parts of the walk; written by programs, merged. -/
import Derived.Test.YtcbkaiakdhiloabGreatDoorRaa
import Derived.Deep.DeepMust
import Derived.Deep.RegionHeld3
import Derived.Deep.RegionLaw
import Derived.Deep.LoopGhost
import Derived.Deep.Cut
import Derived.Deep.CutRange
import Derived.Deep.QuietTactic
import Derived.BigQuiet
set_option linter.unusedSimpArgs false
set_option linter.unusedVariables false
set_option maxRecDepth 20000
set_option maxHeartbeats 8000000
namespace Go.Proofs.YtcbkaiakdhiloabGreatDoor
open Go.RowKit Go.Proofs
theorem u8_info : (Tryz.prog.info? 5).map (fun i => (i.zero, i.size, i.bytes)) = some (some (.int .u8 0), 1, 1) := by kernel_rfl
def wrS (p : Nat) (A : Option Addr) : Nat → Prop := fun k => k = p ∨ ∃ a, A = some a ∧ a.block = k
def Wr (w : World) (p : Nat) (A : Option Addr) (l : List UInt8) : Prop :=
  ∃ cap, Bk w p 125 #[.slice A l.length cap] ∧ w.ownsRow 0 5 1 (.slice A l.length cap) l.length (u8s l) ∧ ∀ a, A = some a → a.block ≠ p
def Wto (w : World) (p : Nat) (A : Option Addr) (w' : World) (l : List UInt8) : Prop :=
  ∃ A', Wr w' p A' l ∧ Fr (wrS p A) w w' ∧ ∀ a', A' = some a' → (w.heap.size ≤ a'.block ∨ ∃ a, A = some a ∧ a.block = a'.block)
theorem Wr.wto {w : World} {p : Nat} {A : Option Addr} {l : List UInt8} (h : Wr w p A l) : Wto w p A w l := ⟨A, h, Fr.refl _ _, fun a' e => .inr ⟨a', e, rfl⟩⟩
theorem Wto.comp {w w1 w2 : World} {p : Nat} {A A1 : Option Addr} {l : List UInt8} (hp : p < w.heap.size) (hf : Fr (wrS p A) w w1)
    (ha : ∀ a', A1 = some a' → (w.heap.size ≤ a'.block ∨ ∃ a, A = some a ∧ a.block = a'.block)) (h : Wto w1 p A1 w2 l) : Wto w p A w2 l := by
  obtain ⟨A2, hW, hf2, ha2⟩ := h
  refine ⟨A2, hW, hf.trans' hf2 ?_, ?_⟩
  · rintro b hb (rfl | ⟨a, e, rfl⟩)
    · exact .inl rfl
    · rcases ha a e with h1 | ⟨a0, e0, h0⟩
      · omega
      · exact .inr ⟨a0, e0, h0⟩
  · intro a' e
    rcases ha2 a' e with h1 | ⟨a1, e1, h1⟩
    · exact .inl (Nat.le_trans hf.size h1)
    · rcases ha a1 e1 with h2 | h2
      · exact .inl (by omega)
      · rw [h1] at h2; exact .inr h2
theorem Wr.lt {w : World} {p : Nat} {A : Option Addr} {l : List UInt8} (h : Wr w p A l) : p < w.heap.size := by
  obtain ⟨_, h, _⟩ := h; exact h.lt
theorem Wr.step {w w1 : World} {p cap cap' : Nat} {A A' : Option Addr} {l news : List UInt8} (hb : Bk w p 125 #[.slice A l.length cap])
    (hn : ∀ a, A = some a → a.block ≠ p) (m : Nat) (hm : m = news.length) (h : Apd w w1 0 5 1 A A' cap' (l.length + m) (u8s l ++ u8s news)) :
    Wto w p A (w1.setCell ⟨p, 0, none⟩ (.slice A' (l.length + m) cap')) (l ++ news) := by
  subst hm
  have hne : ∀ a, A' = some a → a.block ≠ p := by
    intro a e
    rcases h.at_ a e with h1 | ⟨a0, e0, h1⟩
    · have := hb.lt; omega
    · rw [← h1]; exact hn _ e0
  have hb1 : Bk w1 p 125 #[.slice A l.length cap] := hb.keep h.fr (by rintro ⟨a, e, rfl⟩; exact hn a e rfl)
  refine ⟨A', ⟨cap', ?_, ?_, hne⟩, ?_, ?_⟩
  · simpa using hb1.set 0 (.slice A' (l.length + news.length) cap')
  · have ho := h.own
    rw [← u8s_append] at ho
    rw [List.length_append]
    refine ho.kept (row := some p) ⟨rfl, rfl, rfl, by simp [World.setCell], fun k _ hk => Below.heap_setCell _ _ _ k (by rintro rfl; exact hk rfl)⟩ ?_
    cases A' with
    | none => exact .inl rfl
    | some a => right; simp [Value.ownBlock]; exact hne a rfl
  · exact (h.fr.mono fun b _ hx => .inr hx).setCell (fun _ => .inl rfl) _
  · exact h.at_
theorem Apd.cellp {w w1 : World} {p cap' n : Nat} {A A' : Option Addr} {v : Value} {xs : List Value} {t e : TypeId} (h : Apd w w1 0 e 1 A A' cap' n xs) (hb : Bk w p t #[v]) (hn : ∀ a, A = some a → a.block ≠ p) :
    w1.cell? ⟨p, 0, none⟩ = some v ∧ w1.frozen? ⟨p, 0, none⟩ = false := by
  have hb1 : Bk w1 p t #[v] := hb.keep h.fr (by rintro ⟨a, e, rfl⟩; exact hn a e rfl)
  exact ⟨by simpa using hb1.cell 0, hb1.free 0⟩
def wPost (p : Nat) (A : Option Addr) (w : World) (l : List UInt8) (e : Ending) (w' : World) : Prop := e = .returned (.pointer (some ⟨p, 0, none⟩)) ∧ Wto w p A w' l
theorem wU8 (p : Nat) (A0 : Option Addr) (l : List UInt8) (w : World) (A : Option Addr) (n c : Nat) (xs : List UInt8) (S : Nat → Prop) (hW : Wr w p A0 l) (hr : SlR w S 1 A n (u8s xs)) (hl : l.length + n ≤ 100000000000) :
    Calls Tryz.prog 68 #[.pointer (some ⟨p, 0, none⟩), .slice A n c] w (wPost p A0 w (l ++ xs)) := by
  obtain ⟨i0, hi0, hz0, hz1, hz2⟩ := info_parts u8_info
  obtain ⟨cap, hb, hown, hne⟩ := hW
  have hc0 : w.cell? ⟨p, 0, none⟩ = some (.slice A0 l.length cap) := by simpa using hb.cell 0
  have hf0 := hb.free 0
  obtain rfl : n = xs.length := by have := hr.1; rw [u8s_length] at this; omega
  go_enter Tryz.func68, Tryz.ntmps68
  go_wp2_with (at_builtin
               go_must (refine wpList_app rfl (.tmp 9) (.tmp 10) _ rfl 0 5 i0 _ 1 1 Tryz.underlying98 hi0 hz0 hz1 hz2 rfl (by omega) A0 _ _ _ rfl hown S A _ c (u8s xs) rfl hr (u8s_one _) (by unfold maxLen; omega) (by omega) (Nat.zero_le _) ?_)
               intro A1 cap1 w1 hap
               go_must (obtain ⟨hc1, hf1⟩ := hap.cellp hb hne))
  go_ret
  exact ⟨rfl, Wr.step hb hne _ rfl hap⟩
theorem big_byte (x : Int) (h0 : 0 ≤ x) (j : Nat) : Value.int .u8 (IntKind.u8.wrap (x / 2 ^ (8 * (j : Int)).toNat)) = .int .u8 ((UInt8.ofNat (x.toNat / 256 ^ j)).toNat : Int) := by
  obtain ⟨n, rfl⟩ := Int.eq_ofNat_of_zero_le h0
  rw [IntKind.wrap_u8']
  congr 1
  have e : (8 * (j : Int)).toNat = 8 * j := by omega
  rw [e, Int.toNat_natCast, UInt8.toNat_ofNat', show (2 : Int) ^ (8 * j) = ((2 ^ (8 * j) : Nat) : Int) by simp, show (256 : Nat) ^ j = 2 ^ (8 * j) by rw [show (256 : Nat) = 2 ^ 8 from rfl, ← Nat.pow_mul]]
  omega
def bigFrom (n j x : Nat) : List UInt8 := big (n - j) (x / 256 ^ j)
theorem bigFrom_step (n j x : Nat) (h : j < n) : bigFrom n j x = bigFrom n (j + 1) x ++ [UInt8.ofNat (x / 256 ^ j)] := by
  unfold bigFrom
  rw [show n - j = (n - (j + 1)) + 1 by omega, big, Nat.div_div_eq_div_mul, ← Nat.pow_succ]
theorem wNum (n : Nat) (x : Int) (p : Nat) (A0 : Option Addr) (l : List UInt8) (w : World) (hW : Wr w p A0 l) (hx0 : 0 ≤ x) (hx1 : x ≤ 4294967295) (hn : n ≤ 4) (hl : l.length ≤ 1000000000) :
    Calls Tryz.prog 108 #[.pointer (some ⟨p, 0, none⟩), .int .i64 n, .int .u32 x] w (wPost p A0 w (l ++ big n x.toNat)) := by
  obtain ⟨i0, hi0, hz0, hz1, hz2⟩ := info_parts u8_info
  have hp := hW.lt
  go_enter Tryz.func108, Tryz.ntmps108
  go_wp2_with fail
  go_loopw [7] (fun k wr => ∃ j : Nat, j ≤ n ∧ k = .int .i64 ((j : Int) - 1) ∧ Wto w p A0 wr (l ++ bigFrom n j x.toNat)) (fun k _ => (intOf k + 1).toNat)
  case atStart => exact ⟨n, Nat.le_refl _, rfl, by simpa [bigFrom, big] using hW.wto⟩
  case round =>
    obtain ⟨j, hj, rfl, A1, hW1, hf1, ha1⟩ := hrel
    rcases j with _ | j
    · go_wp2_with fail
      go_ret
      refine ⟨rfl, ?_⟩
      have e : bigFrom n 0 x.toNat = big n x.toNat := by simp [bigFrom]
      rw [e] at hW1
      exact ⟨A1, hW1, hf1, ha1⟩
    · have hlen : (l ++ bigFrom n (j + 1) x.toNat).length ≤ 1000000004 := by simp [bigFrom, big_length]; omega
      have hlst : bigFrom n j x.toNat = bigFrom n (j + 1) x.toNat ++ [UInt8.ofNat (x.toNat / 256 ^ j)] := bigFrom_step n j _ (by omega)
      rw [show (l ++ bigFrom n (j + 1) x.toNat) = l ++ bigFrom n (j + 1) x.toNat from rfl] at hW1
      generalize hq : l ++ bigFrom n (j + 1) x.toNat = q at *
      have Hlst : Hid (l ++ bigFrom n j x.toNat = q ++ [UInt8.ofNat (x.toNat / 256 ^ j)]) := by
        unfold Hid
        rw [hlst, ← List.append_assoc, hq]
      clear hlst hq
      obtain ⟨cap, hb, hown, hne⟩ := hW1
      have hc0 : wr.cell? ⟨p, 0, none⟩ = some (.slice A1 q.length cap) := by simpa using hb.cell 0
      have hf0 := hb.free 0
      have e1 : ((j + 1 : Nat) : Int) - 1 = (j : Int) := by omega
      rw [e1]
      clear e1
      have a1 : (0 : Int) ≤ (j : Int) := by omega
      have a2 : (j : Int) ≤ 4 := by omega
      have a3 : (0 : Int) ≤ 8 * (j : Int) := by omega
      have a4 : 8 * (j : Int) ≤ 32 := by omega
      have a5 : IntKind.i64.wrap (8 * (j : Int)) = 8 * (j : Int) := IntWalk.i64_in _ (by omega)
      have hbb := big_byte x hx0 j
      generalize UInt8.ofNat (x.toNat / 256 ^ j) = b at *
      have hsr : SlR (wr.alloc (.cells #[.int .u8 (b.toNat : Int)] 5)).drew noB 1 (some ⟨wr.heap.size, 0, none⟩) 1 (u8s [b]) :=
        SlR.of_bk (n := 1) (size := 1) (S := noB) (Bk.new wr 5 #[.int .u8 (b.toNat : Int)]) (fun x => x) rfl
      have hown2 : (wr.alloc (.cells #[.int .u8 (b.toNat : Int)] 5)).drew.ownsRow 0 5 1 (.slice A1 q.length cap) q.length (u8s q) := hown.alloc _
      have hb2 : Bk (wr.alloc (.cells #[.int .u8 (b.toNat : Int)] 5)).drew p 125 #[.slice A1 q.length cap] := (hb.alloc _).drew
      have HB := Lib.hid hb2
      have hca : (wr.alloc (.cells #[.int .u8 (b.toNat : Int)] 5)).cell? ⟨p, 0, none⟩ = some (.slice A1 q.length cap) := by simpa using (hb.alloc (.cells #[.int .u8 (b.toNat : Int)] 5)).cell 0
      have hbound : q.length + 1 ≤ maxLen := by unfold maxLen; omega
      have HL := Lib.hid hbound
      clear hbound hb2
      go_wp2_with fail
      go_region_law ((refine step_app (by rfl) (.tmp 18) (.tmp 24) _ (by rfl) 0 5 i0 _ 1 1 Tryz.underlying98 hi0 hz0 hz1 hz2 rfl Nat.one_pos A1 _ _ _ (by rfl) hown2 noB _ 1 1 _ (by rfl) hsr (u8s_one _) HL.out (by omega) (Nat.zero_le _) ?_
                      intro A2 cap1 w1 hap
                      obtain ⟨hc1, hf1'⟩ := hap.cellp HB.out hne))
      all_goals
        go_wp2_with fail
        go_roundw
        case rel =>
          refine ⟨j, by omega, rfl, ?_⟩
          rw [Hlst.out]
          have h1 := Wr.step HB.out hne 1 rfl hap
          have h2 : Wto wr p A1 _ (q ++ [b]) := Wto.comp (A1 := A1) hb.lt (((Fr.refl _ _).alloc _).drew) (fun a' e => .inr ⟨a', e, rfl⟩) h1
          exact Wto.comp hp hf1 ha1 h2
        case measure => simp [intOf]
def nums (k : IntKind) (l : List Int) : List Value := l.map (.int k)
theorem nums_length (k : IntKind) (l : List Int) : (nums k l).length = l.length := by simp [nums]
theorem nums_get (k : IntKind) (l : List Int) (i : Nat) (h : i < l.length) : (nums k l)[i]? = some (.int k l[i]) := by simp [nums, h]
def bigs (n : Nat) (l : List Int) : List UInt8 := l.flatMap fun x => big n x.toNat
theorem bigs_take (n : Nat) (l : List Int) (k : Nat) (h : k < l.length) : bigs n (l.take (k + 1)) = bigs n (l.take k) ++ big n l[k].toNat := by
  unfold bigs; rw [List.take_succ_eq_append_getElem h, List.flatMap_append]; simp
theorem bigs_length (n : Nat) (l : List Int) : (bigs n l).length = l.length * n := by
  induction l with
  | nil => simp [bigs]
  | cons a r ih => simp only [bigs, List.flatMap_cons, List.length_append, big_length, List.length_cons] at ih ⊢; rw [ih, Nat.add_mul]; omega
theorem wU16 (p : Nat) (A0 : Option Addr) (l : List UInt8) (w : World) (A : Option Addr) (n c : Nat) (xs : List Int) (hW : Wr w p A0 l) (hr : SlR w (wrS p A0) 1 A n (nums .u16 xs)) (hx : ∀ x ∈ xs, 0 ≤ x ∧ x ≤ 65535) (hn : n ≤ 1000) (hl : l.length ≤ 100000000) :
    Calls Tryz.prog 56 #[.pointer (some ⟨p, 0, none⟩), .slice A n c] w (wPost p A0 w (l ++ bigs 2 xs)) := by
  have hp := hW.lt
  have hlen : xs.length = n := by have := hr.1; rw [nums_length] at this; omega
  go_enter Tryz.func56, Tryz.ntmps56
  go_wp2_with fail
  go_loopw [9] (fun i wr => ∃ k : Nat, k ≤ n ∧ i = .int .i64 k ∧ Wto w p A0 wr (l ++ bigs 2 (xs.take k))) (fun i _ => n - (intOf i).toNat)
  case atStart => exact ⟨0, Nat.zero_le _, rfl, by simpa [bigs] using hW.wto⟩
  case round =>
    obtain ⟨k, hk, rfl, A1, hW1, hf1, ha1⟩ := hrel
    by_cases hlt : k < n
    · obtain ⟨ad, u, rfl, hu, hc⟩ := (hr.keep hf1).at_ hlt
      rw [nums_get _ xs k (by omega)] at hu
      injection hu with hu
      subst hu
      have hx1 := hx xs[k] (List.getElem_mem _)
      have hl1 : (l ++ bigs 2 (xs.take k)).length ≤ 1000000000 := by rw [List.length_append, bigs_length, List.length_take]; omega
      have Hsn := Lib.hid (bigs_take 2 xs k (by omega))
      generalize xs[k] = x at *
      obtain ⟨x0, x1⟩ := hx1
      have hxw : x % 4294967296 = x := by omega
      go_wp2_with fail
      refine (wNum 2 x p A1 _ _ hW1 x0 (by omega) (by omega) hl1).mono ?_
      rintro e w1 ⟨rfl, h1⟩
      go_wp2_with fail
      go_roundw
      case rel => exact ⟨k + 1, by omega, by go_num, by rw [Hsn.out, ← List.append_assoc]; exact Wto.comp hp hf1 ha1 h1⟩
      case measure => simp [intOf]; omega
    · go_wp2_with fail
      go_ret
      obtain rfl : k = n := by omega
      rw [List.take_of_length_le (by omega)] at hW1
      exact ⟨rfl, A1, hW1, hf1, ha1⟩
theorem wIP (p : Nat) (A0 : Option Addr) (l : List UInt8) (w : World) (A : Option Addr) (n c : Nat) (xs : List Int) (hW : Wr w p A0 l) (hr : SlR w (wrS p A0) 1 A n (nums .u32 xs)) (hx : ∀ x ∈ xs, 0 ≤ x ∧ x ≤ 4294967295) (hn : n ≤ 1000) (hl : l.length ≤ 100000000) :
    Calls Tryz.prog 69 #[.pointer (some ⟨p, 0, none⟩), .slice A n c] w (wPost p A0 w (l ++ bigs 4 xs)) := by
  have hp := hW.lt
  have hlen : xs.length = n := by have := hr.1; rw [nums_length] at this; omega
  go_enter Tryz.func69, Tryz.ntmps69
  go_wp2_with fail
  go_loopw [9] (fun i wr => ∃ k : Nat, k ≤ n ∧ i = .int .i64 k ∧ Wto w p A0 wr (l ++ bigs 4 (xs.take k))) (fun i _ => n - (intOf i).toNat)
  case atStart => exact ⟨0, Nat.zero_le _, rfl, by simpa [bigs] using hW.wto⟩
  case round =>
    obtain ⟨k, hk, rfl, A1, hW1, hf1, ha1⟩ := hrel
    by_cases hlt : k < n
    · obtain ⟨ad, u, rfl, hu, hc⟩ := (hr.keep hf1).at_ hlt
      rw [nums_get _ xs k (by omega)] at hu
      injection hu with hu
      subst hu
      have hx1 := hx xs[k] (List.getElem_mem _)
      have hl1 : (l ++ bigs 4 (xs.take k)).length ≤ 1000000000 := by rw [List.length_append, bigs_length, List.length_take]; omega
      have Hsn := Lib.hid (bigs_take 4 xs k (by omega))
      generalize xs[k] = x at *
      obtain ⟨x0, x1⟩ := hx1
      go_wp2_with fail
      refine (wNum 4 x p A1 _ _ hW1 x0 (by omega) (by omega) hl1).mono ?_
      rintro e w1 ⟨rfl, h1⟩
      go_wp2_with fail
      go_roundw
      case rel => exact ⟨k + 1, by omega, by go_num, by rw [Hsn.out, ← List.append_assoc]; exact Wto.comp hp hf1 ha1 h1⟩
      case measure => simp [intOf]; omega
    · go_wp2_with fail
      go_ret
      obtain rfl : k = n := by omega
      rw [List.take_of_length_le (by omega)] at hW1
      exact ⟨rfl, A1, hW1, hf1, ha1⟩
theorem Wr.keep {S : Nat → Prop} {w w' : World} {p : Nat} {A : Option Addr} {l : List UInt8} (h : Wr w p A l) (hf : Fr S w w') (hS : ∀ b, b < w.heap.size → wrS p A b → ¬ S b) : Wr w' p A l := by
  obtain ⟨cap, hb, hown, hne⟩ := h
  have hlt := hown.lt
  refine ⟨cap, hb.keep hf (hS _ hb.lt (.inl rfl)), ⟨hown.1, ?_⟩, hne⟩
  rcases hown.2 with h0 | ⟨g, cap', cur, hv, h0, hh, hrest⟩
  · exact .inl h0
  · have hA : A = some ⟨g, 0, none⟩ := by injection hv
    have hg : g < w.heap.size := (hlt g (by rw [hv]; rfl)).2
    exact .inr ⟨g, cap', cur, hv, h0, (hf.block g hg (hS g hg (.inr ⟨_, hA, rfl⟩))).trans hh, hrest⟩
theorem wString (p : Nat) (A0 : Option Addr) (l : List UInt8) (w : World) (hW : Wr w p A0 l) :
    Calls Tryz.prog 59 #[.pointer (some ⟨p, 0, none⟩)] w fun e w' => e = .returned (.string (bs l)) ∧ w = w' := by
  obtain ⟨cap, hb, hown, hne⟩ := hW
  have hc0 : w.cell? ⟨p, 0, none⟩ = some (.slice A0 l.length cap) := by simpa using hb.cell 0
  have hsr : SlR w noB 1 A0 l.length (u8s l) := by
    refine ⟨by simp [u8s_length], fun h0 => ?_⟩
    rcases hown.2 with ⟨_, h⟩ | ⟨g, cap', cur, hv, _⟩
    · omega
    · have hA : A0 = some ⟨g, 0, none⟩ := by injection hv
      subst hA
      exact ⟨_, rfl, (hown.lt g rfl).2, fun x => x, hown.cells (g := g) rfl⟩
  have hA : A0 = none ∨ ∃ g o, A0 = some ⟨g, o, none⟩ := by
    rcases hown.2 with ⟨h, _⟩ | ⟨g, cap', cur, hv, _⟩
    · left; injection h
    · right; exact ⟨g, 0, by injection hv⟩
  have hcv := run_str_of (P := Tryz.prog) w 98 9 5 Tryz.underlying98 Tryz.underlying5 Tryz.underlying9 noB A0 l.length cap l hsr hA
  go_enter Tryz.func59, Tryz.ntmps59
  go_wp2_with fail
  go_ret
  exact ⟨rfl, rfl⟩
abbrev Mac := UInt8 × UInt8 × UInt8 × UInt8 × UInt8 × UInt8
def macB (m : Mac) : List UInt8 := [m.1, m.2.1, m.2.2.1, m.2.2.2.1, m.2.2.2.2.1, m.2.2.2.2.2]
end Go.Proofs.YtcbkaiakdhiloabGreatDoor
namespace Go.Proofs.YtcbkaiakdhiloabGreatDoor
open Go.RowKit Go.Proofs
def AlS (L : Bool) (v : Value) (n : Nat) (t : TypeId) (cells : Array Value) (B : Nat) (A : Option Addr) (w : World) : Prop :=
  L = true → ∃ g, v = .slice (some ⟨g, 0, none⟩) n n ∧ Bk w g t cells ∧ B ≤ g ∧ ∀ a, A = some a → a.block ≠ g
structure Chn (w1 : World) (p B : Nat) (A : Option Addr) (l : List UInt8) (w : World) : Prop where
  wr : Wr w p A l
  row : ∀ a, A = some a → B ≤ a.block
  fr : Fr (oneB p) w1 w
  eB : B = w1.heap.size
  lt : p < B
section
variable {w1 w w' : World} {p B n : Nat} {A : Option Addr} {l l' : List UInt8} {L : Bool} {v : Value} {t : TypeId} {cs : Array Value}
theorem Wr.row_lt (h : Wr w p A l) : ∀ a, A = some a → a.block < w.heap.size := by
  obtain ⟨cap, hb, hown, hne⟩ := h
  rintro a rfl
  exact (hown.lt a.block rfl).2
theorem Wr.alloc (h : Wr w p A l) (o : Obj) : Wr (w.alloc o) p A l := h.keep (S := noB) ((Fr.refl _ _).alloc o) (fun _ _ _ x => x)
theorem Chn.start0 (h : Wr w1 p A l) (hA : A = none) : Chn w1 p w1.heap.size A l w1 :=
  ⟨h, (fun a e => by rw [hA] at e; cases e), (Fr.refl _ _), rfl, h.lt⟩
theorem Chn.alloc (h : Chn w1 p B A l w) (o : Obj) : Chn w1 p B A l (w.alloc o) := ⟨h.wr.alloc o, h.row, h.fr.alloc o, h.eB, h.lt⟩
theorem Chn.call (h : Chn w1 p B A l w) (hw : Wto w p A w' l') :
    ∃ A', Chn w1 p B A' l' w' ∧ ∀ (L : Bool) (v : Value) (n : Nat) (t : TypeId) (cs : Array Value), AlS L v n t cs B A w → AlS L v n t cs B A' w' := by
  obtain ⟨A', W', fr', at'⟩ := hw
  have hB := h.eB
  have hp := h.lt
  have hsz := h.fr.size
  refine ⟨A', ⟨W', ?_, h.fr.trans' fr' ?_, hB, hp⟩, ?_⟩
  · intro a' e
    rcases at' a' e with h1 | ⟨a, ea, h1⟩
    · omega
    · rw [← h1]; exact h.row a ea
  · rintro b hb (rfl | ⟨a, ea, rfl⟩)
    · rfl
    · have := h.row a ea; omega
  · intro L v n t cs hal hL
    obtain ⟨g, hv, hb, hg, hne⟩ := hal hL
    have hgl := hb.lt
    refine ⟨g, hv, hb.keep fr' ?_, hg, ?_⟩
    · rintro (e | ⟨a, ea, e⟩)
      · omega
      · exact hne a ea e
    · intro a' e
      rcases at' a' e with h1 | ⟨a, ea, h1⟩
      · omega
      · rw [← h1]; exact hne a ea
theorem AlS.alloc (h : AlS L v n t cs B A w) (o : Obj) : AlS L v n t cs B A (w.alloc o) := fun hL => by
  obtain ⟨g, hv, hb, hg, hne⟩ := h hL
  exact ⟨g, hv, hb.alloc o, hg, hne⟩
theorem AlS.quiet (h : AlS L v n t cs B A w) (hf : Fr noB w w') : AlS L v n t cs B A w' := fun hL => by
  obtain ⟨g, hv, hb, hg, hne⟩ := h hL
  exact ⟨g, hv, hb.keep hf (fun x => x), hg, hne⟩
theorem AlS.new (h : Chn w1 p B A l w) (n : Nat) (t : TypeId) (cs : Array Value) : AlS L (.slice (some ⟨w.heap.size, 0, none⟩) n n) n t cs B A (w.alloc (.cells cs t)) := fun _ =>
  ⟨w.heap.size, rfl, Bk.new w t cs, by have := h.fr.size; have := h.eB; omega, fun a e => by have := h.wr.row_lt a e; omega⟩
theorem AlS.not {g : Nat} (h : Chn w1 p B A l w) (hg : B ≤ g) (hne : ∀ a, A = some a → a.block ≠ g) : ¬ wrS p A g := by
  have := h.lt
  rintro (e | ⟨a, ea, e⟩)
  · omega
  · exact hne a ea e
end
theorem AlS.false {v : Value} {n : Nat} {t : TypeId} {cs : Array Value} {B : Nat} {A : Option Addr} {w : World} : AlS false v n t cs B A w := fun h => by cases h
theorem AlS.new0 {L : Bool} (w : World) (n : Nat) (t : TypeId) (cs : Array Value) : AlS L (.slice (some ⟨w.heap.size, 0, none⟩) n n) n t cs 0 none (w.alloc (.cells cs t)) := fun _ =>
  ⟨w.heap.size, rfl, Bk.new w t cs, Nat.zero_le _, fun a e => by cases e⟩
theorem Wr.zero {w : World} {p : Nat} (h : Bk w p 125 #[.slice none 0 0]) : Wr w p none [] :=
  ⟨0, h, ⟨by simp [u8s], .inl ⟨rfl, rfl⟩⟩, fun a e => by cases e⟩
end Go.Proofs.YtcbkaiakdhiloabGreatDoor
namespace Go.Proofs.YtcbkaiakdhiloabGreatDoor
open Go.RowKit Go.Proofs
attribute [local go_sem] bs_size bs_append bs_extract big_length
theorem one_str (P : Program) (w : World) (b : UInt8) (t : TypeId) (src dst e : TypeId) (hs : P.underlying src = some (.slice e)) (he : P.underlying e = some (.int .u8)) (hd : P.underlying dst = some .string) :
    (convert src dst (.slice (some ⟨w.heap.size, 0, none⟩) 1 1)).run P (w.alloc (.cells #[.int .u8 (b.toNat : Int)] t)) = .ok (.string (bs [b])) (w.alloc (.cells #[.int .u8 (b.toNat : Int)] t)) :=
  run_str_of _ src dst e hs he hd noB _ 1 1 [b] (SlR.of_bk (n := 1) (size := 1) (S := noB) (Bk.new w t #[.int .u8 (b.toNat : Int)]) (fun x => x) rfl) (.inr ⟨_, _, rfl⟩)
theorem big_add (n j x : Nat) : big (n + j) x = big n (x / 256 ^ j) ++ big j x := by
  induction j generalizing x with
  | zero => simp [big]
  | succ j ih =>
    rw [show n + (j + 1) = (n + j) + 1 by omega, big, ih, big, Nat.div_div_eq_div_mul, Nat.mul_comm 256, ← Nat.pow_succ, List.append_assoc]
theorem big_cons (j x : Nat) : big (j + 1) x = UInt8.ofNat (x / 256 ^ j) :: big j x := by
  rw [show j + 1 = 1 + j by omega, big_add]; rfl
theorem big_wrap (x : Nat) : Value.int .u8 (IntKind.u8.wrap (x : Int)) = .int .u8 ((UInt8.ofNat x).toNat : Int) := by
  rw [IntKind.wrap_u8', UInt8.toNat_ofNat']; congr 1
theorem refBig (x n : Nat) (w : World) (hx : x ≤ 4611686018427387904) (hn : n ≤ 1000) :
    Calls Tryz.prog 259 #[.int .i64 x, .int .i64 n] w fun e w' => e = .returned (.string (bs (big n x))) ∧ Fr noB w w' := by
  go_enter Tryz.func259, Tryz.ntmps259
  go_wp2_with fail
  go_loopw [0, 1, 5] (fun y m s wr => ∃ j : Nat, j ≤ n ∧ m = .int .i64 ((n - j : Nat) : Int) ∧ y = .int .i64 ((x / 256 ^ j : Nat) : Int) ∧ s = .string (bs (big j x)) ∧ Fr noB w wr) (fun _ m _ _ => (intOf m).toNat)
  case atStart => exact ⟨0, Nat.zero_le _, rfl, by simp, by simp [big, bs], Fr.refl _ _⟩
  case round =>
    obtain ⟨j, hj, rfl, rfl, rfl, hfr⟩ := hrel
    by_cases hlt : j < n
    · have hy : x / 256 ^ j ≤ x := Nat.div_le_self _ _
      have Hb := Lib.hid (big_cons j x)
      have Hd : Hid (x / 256 ^ (j + 1) = x / 256 ^ j / 256) := by unfold Hid; rw [Nat.pow_succ, Nat.div_div_eq_div_mul]
      generalize x / 256 ^ j = y at *
      have hy2 : (y : Int) ≤ 4611686018427387904 := by omega
      have hm : (0 : Int) < ((n - j : Nat) : Int) := by omega
      have hm2 : ((n - j : Nat) : Int) ≤ 1000 := by omega
      have Hm : Hid ((n - (j + 1) : Nat) = (n - j) - 1) := by unfold Hid; omega
      generalize n - j = m at *
      have hbw := big_wrap y
      have hcv := fun w : World => one_str Tryz.prog w (UInt8.ofNat y) 5 98 9 5 Tryz.underlying98 Tryz.underlying5 Tryz.underlying9
      generalize UInt8.ofNat y = b at *
      go_wp2_with fail
      refine ⟨⟨j + 1, by omega, by rw [Hm.out] <;> go_num, by rw [Hd.out] <;> go_num, by rw [Hb.out] <;> rfl, hfr.alloc _⟩, by simp [intOf] <;> omega⟩
    · go_wp2_with fail
      go_ret
      obtain rfl : j = n := by omega
      exact ⟨rfl, hfr⟩
theorem refIp (x : Nat) (w : World) (hx : x ≤ 4294967295) :
    Calls Tryz.prog 214 #[.int .u32 x] w fun e w' => e = .returned (.string (bs (big 4 x))) ∧ Fr noB w w' := by
  go_enter Tryz.func214, Tryz.ntmps214
  go_wp2_with fail
  refine (refBig x 4 _ (by omega) (by omega)).mono ?_
  rintro e w1 ⟨rfl, h1⟩
  go_wp2_with fail
  go_ret
  exact ⟨rfl, h1⟩
def macV (m : Mac) : Value := .agg #[.int .u8 (m.1.toNat : Int), .int .u8 (m.2.1.toNat : Int), .int .u8 (m.2.2.1.toNat : Int), .int .u8 (m.2.2.2.1.toNat : Int), .int .u8 (m.2.2.2.2.1.toNat : Int), .int .u8 (m.2.2.2.2.2.toNat : Int)]
end Go.Proofs.YtcbkaiakdhiloabGreatDoor
namespace Go.Proofs.YtcbkaiakdhiloabGreatDoor
open Go.RowKit Go.Proofs
attribute [local go_sem] bs_size bs_append bs_sub bs_toList
def ethBody (tm fm : Mac) (ty : Nat) (ld : List UInt8) : List UInt8 := macB tm ++ macB fm ++ big 2 ty ++ ld
def ethBytes (tm fm : Mac) (ty : Nat) (ld : List UInt8) : List UInt8 := ethBody tm fm ty ld ++ List.replicate (60 - (ethBody tm fm ty ld).length) 0
def wrEther (tm fm : Mac) (ty : Nat) (ld : List UInt8) : List UInt8 × Nat := if ty < 1536 then ([], 3) else if 1500 < ld.length then ([], 7) else (ethBytes tm fm ty ld, 0)
end Go.Proofs.YtcbkaiakdhiloabGreatDoor
namespace Go.Proofs.YtcbkaiakdhiloabGreatDoor
open Go.RowKit Go.Proofs
attribute [local go_sem] bs_size bs_append bs_sub bs_toList
def arpBytes (op : Nat) (fm : Mac) (fi : Nat) (tm : Mac) (ti : Nat) : List UInt8 := [0, 1, 8, 0, 6, 4] ++ big 2 op ++ macB fm ++ big 4 fi ++ macB tm ++ big 4 ti
def wrARP (op : Nat) (fm : Mac) (fi : Nat) (tm : Mac) (ti : Nat) : List UInt8 × Nat := if op = 1 ∨ op = 2 then (arpBytes op fm fi tm ti, 0) else ([], 2)
end Go.Proofs.YtcbkaiakdhiloabGreatDoor
namespace Go.Proofs.YtcbkaiakdhiloabGreatDoor
open Go.RowKit Go.Proofs
def strs (l : List (List UInt8)) : List Value := l.map fun p => .string (bs p)
theorem strs_length (l : List (List UInt8)) : (strs l).length = l.length := by simp [strs]
theorem strs_get (l : List (List UInt8)) (k : Nat) (hk : k < l.length) : (strs l)[k]? = some (.string (bs l[k])) := by simp [strs, hk]
def CkRel (st : Bool × Nat) (o s : Value) : Prop := o = .bool st.1 ∧ s = .int .u32 (st.2 : Int)
theorem ret_u16 {a b : Int} (h : a = b) : Ending.returned (.int .u16 a) = .returned (.int .u16 b) := by rw [h]
theorem ck_tail (y : Nat) (hy : y < 200000) : (bits .and .u32 (y : Int) 65535 + (y : Int) / 65536) % 4294967296 = ((y % 65536 + y / 65536 : Nat) : Int) := by
  have h := u32_and_nat y 65535 (by omega) (by omega)
  rw [nat_mask16] at h
  rw [show (65535 : Int) = ((65535 : Nat) : Int) from rfl, h]; omega
theorem ck_false (s : Nat) (b : UInt8) (hs : s ≤ 65535) : CkRel (ckStep (false, s) b) (.bool true)
    (.int .u32 ((bits .and .u32 (((s : Int) + (b.toNat : Int) % 4294967296 * 256) % 4294967296) 65535 + ((s : Int) + (b.toNat : Int) % 4294967296 * 256) % 4294967296 / 65536) % 4294967296)) := by
  have hb := b.toNat_lt
  have e : ((s : Int) + (b.toNat : Int) % 4294967296 * 256) % 4294967296 = ((s + b.toNat * 256 : Nat) : Int) := by omega
  rw [e, ck_tail _ (by omega)]
  exact ⟨rfl, by simp [ckStep]⟩
theorem ck_true (s : Nat) (b : UInt8) (hs : s ≤ 65535) : CkRel (ckStep (true, s) b) (.bool false)
    (.int .u32 ((bits .and .u32 (((s : Int) + (b.toNat : Int)) % 4294967296) 65535 + ((s : Int) + (b.toNat : Int)) % 4294967296 / 65536) % 4294967296)) := by
  have hb := b.toNat_lt
  have e : ((s : Int) + (b.toNat : Int)) % 4294967296 = ((s + b.toNat : Nat) : Int) := by omega
  rw [e, ck_tail _ (by omega)]
  exact ⟨rfl, by simp [ckStep]⟩
theorem ck_end (l : List UInt8) : bits .xor .u16 IntKind.u16.max (IntKind.u16.wrap ((ck l).2 : Int)) = (check l : Int) := by
  have h := ck_le l
  rw [IntKind.wrap_u16, show IntKind.u16.max = ((65535 : Nat) : Int) from rfl, show ((ck l).2 : Int) % 65536 = (((ck l).2 : Nat) : Int) by omega, u16_xor_nat _ _ (by omega) (by omega), xor_max16 _ (by omega), ck_check]
theorem hashCheck_any (A : Option Addr) (n c : Nat) (ps : List (List UInt8)) (w : World) (S : Nat → Prop) (hr : SlR w S 1 A n (strs ps)) (hn : n ≤ 9223372036854775807) (hz : ∀ p ∈ ps, p.length ≤ 9223372036854775807) :
    Calls Tryz.prog 28 #[.slice A n c] w fun e w' => e = .returned (.int .u16 (check ps.flatten)) ∧ w = w' := by
  have hlen : ps.length = n := by have := hr.1; rw [strs_length] at this; omega
  go_enter Tryz.func28, Tryz.ntmps28
  go_wp2_with fail
  go_loop [3, 4, 11] (fun s o i => ∃ k : Nat, k ≤ n ∧ i = .int .i64 k ∧ CkRel (ck (ps.take k).flatten) o s) (fun _ _ i => n - (intOf i).toNat)
  case atStart => exact ⟨0, Nat.zero_le _, rfl, rfl, rfl⟩
  case round =>
    obtain ⟨k, hk, rfl, rfl, rfl⟩ := hrel
    by_cases hlt : k < n
    · obtain ⟨ad, u, rfl, hu, hc⟩ := hr.at_ hlt
      rw [strs_get ps k (by omega)] at hu
      have hp : ps[k].length ≤ 9223372036854775807 := hz _ (List.getElem_mem _)
      injection hu with hu
      subst hu
      have hp0 : ((ps.take k).flatten ++ ps[k].take 0) = (ps.take k).flatten := by simp
      generalize hpk : ps[k] = p at *
      have Hpk := Lib.hid hpk
      clear hpk
      generalize hpre : (ps.take k).flatten = pre at *
      have Hpre := Lib.hid hpre
      have Hp0 := Lib.hid hp0
      clear hpre hp0
      have hbz := bs_size p
      go_wp2_with fail
      go_loop [3, 4, 17] (fun s o i => ∃ j : Nat, j ≤ p.length ∧ i = .int .i64 j ∧ CkRel (ck (pre ++ p.take j)) o s) (fun _ _ i => p.length - (intOf i).toNat)
      case atStart => exact ⟨0, Nat.zero_le _, rfl, by rw [Hp0.out]; exact ⟨rfl, rfl⟩⟩
      case round =>
        obtain ⟨j, hj, rfl, rfl, rfl⟩ := hrel
        by_cases hlj : j < p.length
        · have hck := ck_le (pre ++ p.take j)
          have hsn : ck (pre ++ p.take (j + 1)) = ckStep (ck (pre ++ p.take j)) p[j] := by
            rw [List.take_succ_eq_append_getElem hlj, ← List.append_assoc, ck_snoc]
          have Hsn := Lib.hid hsn
          clear hsn
          generalize hst : ck (pre ++ p.take j) = st at *
          have Hst := Lib.hid hst
          clear hst
          obtain ⟨o, s⟩ := st
          cases o
          · go_wp2_with fail
            go_round
            case rel => exact ⟨j + 1, by omega, by go_num, by rw [Hsn.out, bs_get]; exact ck_false s _ hck⟩
            case measure => simp [intOf]; omega
          · go_wp2_with fail
            go_round
            case rel => exact ⟨j + 1, by omega, by go_num, by rw [Hsn.out, bs_get]; exact ck_true s _ hck⟩
            case measure => simp [intOf]; omega
        · go_wp2_with fail
          obtain rfl : j = p.length := by omega
          refine ⟨⟨k + 1, by omega, by go_num, ?_⟩, by simp [intOf]; omega⟩
          have e : (ps.take (k + 1)).flatten = pre ++ p.take p.length := by
            rw [List.take_succ_eq_append_getElem (by omega), List.flatten_append, Hpre.out, Hpk.out]; simp
          rw [e]; exact ⟨rfl, rfl⟩
    · go_wp2_with fail
      go_ret
      obtain rfl : k = n := by omega
      refine ⟨ret_u16 ?_, rfl⟩
      rw [ck_end, List.take_of_length_le (by omega)]
theorem ret_i64 {a b : Int} (h : a = b) : Ending.returned (.int .i64 a) = .returned (.int .i64 b) := by rw [h]
theorem bs_pad (l : List UInt8) (h : l.length % 2 = 1) : bs l ++ { data := #[0] } = bs (padded l) := by
  rw [show ({ data := #[0] } : ByteArray) = bs [0] from rfl, bs_append]; unfold padded; rw [if_pos h]
theorem words_le : ∀ (q : List UInt8), words q ≤ 65535 * q.length
  | [] => by simp [words]
  | [_] => by simp [words]
  | a :: b :: r => by
    have := words_le r
    have ha := a.toNat_lt
    have hb := b.toNat_lt
    simp [words]; omega
theorem words_take_le (q : List UInt8) (k : Nat) (hq : q.length ≤ 1000001) : words (q.take k) ≤ 65536000000 := by
  have h := words_le (q.take k)
  have h2 : (q.take k).length ≤ 1000001 := by rw [List.length_take]; omega
  omega
theorem padded_even (l : List UInt8) : (padded l).length % 2 = 0 := by unfold padded; split <;> (try simp) <;> omega
theorem padded_le (l : List UInt8) : (padded l).length ≤ l.length + 1 := by unfold padded; split <;> simp
theorem words_val (s : Nat) (a b : UInt8) (hs : s ≤ 65536000000) :
    Value.int .i64 (wrap64 ((s : Int) + wrap64 (wrap64 (256 * wrap64 (a.toNat : Int)) + wrap64 (b.toNat : Int)))) = .int .i64 ((s + a.toNat * 256 + b.toNat : Nat) : Int) := by
  have ha := a.toNat_lt
  have hb := b.toNat_lt
  rw [wr64 (n := (a.toNat : Int)) (by omega) (by omega), wr64 (n := (b.toNat : Int)) (by omega) (by omega), wr64 (n := 256 * (a.toNat : Int)) (by omega) (by omega),
    wr64 (n := 256 * (a.toNat : Int) + (b.toNat : Int)) (by omega) (by omega), wr64 (by omega) (by omega)]
  congr 1; omega
def Even (k : Nat) : Prop := k % 2 = 0
def SumIs (q : List UInt8) (k : Nat) (s i : Value) : Prop := k ≤ q.length ∧ Even k ∧ i = .int .i64 (k : Int) ∧ s = .int .i64 (words (q.take k) : Int)
theorem words_next (q : List UInt8) (k : Nat) (hk : Even k) (h : k + 1 < q.length) : words (q.take (k + 2)) = words (q.take k) + q[k].toNat * 256 + q[k + 1].toNat := by
  obtain ⟨j, rfl⟩ : ∃ j, k = 2 * j := ⟨k / 2, by unfold Even at hk; omega⟩
  exact words_take j q _ _ (List.getElem?_eq_getElem (by omega)) (List.getElem?_eq_getElem h)
def LeftIs (l : List UInt8) (s : Value) : Prop := ∃ a : Nat, a ≤ 65536000000 ∧ Kept a (wsum false l) ∧ s = .int .i64 (a : Int)
theorem refCheck_any (l : List UInt8) (w : World) (hl : l.length ≤ 1000000) :
    Calls Tryz.prog 228 #[.string (bs l)] w fun e w' => e = .returned (.int .i64 (check l)) ∧ Fr noB w w' := by
  go_enter Tryz.func228, Tryz.ntmps228
  have hz := bs_size l
  have hpw := words_padded l
  have hpe := padded_even l
  have hpl := padded_le l
  by_cases hodd : l.length % 2 = 1
  all_goals
    go_wp2_with fail
    first
      | rw [bs_pad l hodd]
      | (have epad : padded l = l := by unfold padded; rw [if_neg hodd]
         rw [show bs l = bs (padded l) by rw [epad]]
         clear epad)
    clear hz
    have hz := bs_size (padded l)
    generalize padded l = q at *
    have Hpw := Lib.hid hpw
    clear hpw hodd
    go_loopw [3, 4] (fun s i wr => ∃ k : Nat, SumIs q k s i ∧ Fr noB w wr) (fun _ i _ => q.length - (intOf i).toNat)
    case atStart => exact ⟨0, ⟨by omega, rfl, rfl, rfl⟩, Fr.refl _ _⟩
    case round =>
      obtain ⟨k, ⟨hk, hev, rfl, rfl⟩, hfr⟩ := hrel
      by_cases hlt : k < q.length
      · have hk1 : k + 1 < q.length := by unfold Even at hev; omega
        have hwn := Lib.hid (words_next q k hev hk1)
        have hq0 : (k : Int) < (q.length : Int) := by omega
        have hq1 : (k : Int) + 1 < (q.length : Int) := by omega
        have hq2 := words_take_le q k (by omega)
        have hq3 : IntKind.i64.wrap ((k : Int) + 1) = (k : Int) + 1 := IntWalk.i64_in _ (by omega)
        have hq4 : (0 : Int) ≤ (k : Int) + 1 := by omega
        have hq5 : ((k : Int) + 1).toNat = k + 1 := by omega
        generalize hwt : words (q.take k) = s at *
        have Hwt := Lib.hid hwt
        clear hwt
        go_wp2_with fail
        go_quiet (fail)
        go_wp2_with fail
        go_roundw
        case rel => exact ⟨k + 2, ⟨by omega, by unfold Even at *; omega, by go_num, by rw [hwn.out]; exact words_val s _ _ hq2⟩, hfr.drewN _⟩
        case measure => simp [intOf]; omega
      · go_wp2_with fail
        obtain rfl : k = q.length := by omega
        rw [List.take_length] at *
        have hw0 := words_take_le q q.length (by omega)
        rw [List.take_length] at hw0
        rw [Hpw.out] at *
        go_loop [3] (fun s => LeftIs l s) (fun s => (intOf s).toNat)
        case atStart => exact ⟨_, hw0, rfl, rfl⟩
        case round =>
          obtain ⟨a, ha, hka, rfl⟩ := hrel
          by_cases hgt : 65535 < a
          · go_wp2_with fail
            go_round
            case rel => exact ⟨a / 65536 + a % 65536, by omega, hka.step, by go_num⟩
            case measure => simp [intOf]; omega
          · go_wp2_with fail
            go_ret
            have hd := hka.done (by omega)
            have hnl := norm_le (wsum false l)
            exact ⟨ret_i64 (by unfold check; omega), hfr⟩
end Go.Proofs.YtcbkaiakdhiloabGreatDoor
namespace Go.Proofs.YtcbkaiakdhiloabGreatDoor
open Go.RowKit Go.Proofs
attribute [local go_sem] bs_size bs_append bs_sub bs_toList
def ipHd1 (id : Nat) (ttl pr : UInt8) (n : Nat) : List UInt8 := [69, 0] ++ big 2 (20 + n) ++ big 2 id ++ [64, 0] ++ [ttl, pr]
def ipHd2 (fi ti : Nat) : List UInt8 := big 4 fi ++ big 4 ti
def ipHead (id : Nat) (ttl pr : UInt8) (fi ti n sum : Nat) : List UInt8 := ipHd1 id ttl pr n ++ big 2 sum ++ ipHd2 fi ti
def ipBytes (id : Nat) (ttl pr : UInt8) (fi ti : Nat) (ld : List UInt8) : List UInt8 := ipHead id ttl pr fi ti ld.length (check (ipHead id ttl pr fi ti ld.length 0)) ++ ld
def wrIP (id : Nat) (ttl pr : UInt8) (fi ti : Nat) (ld : List UInt8) : List UInt8 × Nat := if ttl.toNat = 0 then ([], 2) else if 1480 < ld.length then ([], 7) else (ipBytes id ttl pr fi ti ld, 0)
end Go.Proofs.YtcbkaiakdhiloabGreatDoor
namespace Go.Proofs.YtcbkaiakdhiloabGreatDoor
open Go.RowKit Go.Proofs
attribute [local go_sem] bs_size bs_append bs_sub bs_toList
def besideB (fi ti n : Nat) : List UInt8 := big 4 fi ++ big 4 ti ++ [0, 17] ++ big 2 n
theorem beside_length (fi ti n : Nat) : (besideB fi ti n).length = 12 := by simp [besideB, big_length]
theorem beside_lst (fi ti : Nat) (n : Int) : ([] ++ bigs 4 [(fi : Int), (ti : Int)] ++ [0, 17] ++ bigs 2 [n]) = besideB fi ti n.toNat := by
  simp only [bigs, List.flatMap_cons, List.flatMap_nil, List.append_nil, Int.toNat_natCast, List.nil_append, besideB, List.append_assoc]
theorem hashCheck_two (A : Option Addr) (c : Nat) (p q : List UInt8) (w : World) (hr : SlR w noB 1 A 2 (strs [p, q])) (hz : p.length ≤ 9223372036854775807) (hy : q.length ≤ 9223372036854775807) :
    Calls Tryz.prog 28 #[.slice A 2 c] w fun e w' => e = .returned (.int .u16 (check (p ++ q))) ∧ w = w' := by
  have h := hashCheck_any A 2 c [p, q] w noB hr (by omega) (by intro x hx; simp at hx; rcases hx with rfl | rfl <;> assumption)
  simpa using h
theorem refBigI (x : Int) (n : Nat) (w : World) (h0 : 0 ≤ x) (hx : x ≤ 4611686018427387904) (hn : n ≤ 1000) :
    Calls Tryz.prog 259 #[.int .i64 x, .int .i64 n] w fun e w' => e = .returned (.string (bs (big n x.toNat))) ∧ Fr noB w w' := by
  have h := refBig x.toNat n w (by omega) hn
  rw [Int.toNat_of_nonneg h0] at h
  exact h
theorem pseudoFn (fi ti : Nat) (n : Int) (w : World) (hfi : fi < 4294967296) (hti : ti < 4294967296) (hn0 : 0 ≤ n) (hn1 : n ≤ 65535) :
    Calls Tryz.prog 76 #[.int .u32 (fi : Int), .int .u32 (ti : Int), .int .i64 n] w (fun e w' => e = .returned (.string (bs (besideB fi ti n.toNat))) ∧ Fr noB w w') := by
  have hbw := Bk.new w 125 #[.slice none 0 0]
  have hf0 : Fr noB w (w.alloc (.cells #[.slice none 0 0] 125)) := (Fr.refl _ _).alloc _
  have hsz : (w.alloc (.cells #[.slice none 0 0] 125)).heap.size = w.heap.size + 1 := by simp
  go_enter Tryz.func76, Tryz.ntmps76
  go_upto_region 2 with fail
  generalize w.alloc (.cells #[.slice none 0 0] 125) = w1 at *
  have hwr0 := Wr.zero hbw
  obtain ⟨lst, Q0, Q1, Q2, Q3⟩ : ∃ lst : Nat → List UInt8, Hid (lst 0 = ([] : List UInt8)) ∧ Hid (lst 1 = lst 0 ++ bigs 4 [(fi : Int), (ti : Int)]) ∧ Hid (lst 2 = lst 1 ++ [0, 17]) ∧ Hid (lst 3 = lst 2 ++ bigs 2 [n]) := by
    exact ⟨fun k => match k with | 0 => ([] : List UInt8) | 1 => (([] : List UInt8) ++ bigs 4 [(fi : Int), (ti : Int)]) | 2 => ((([] : List UInt8) ++ bigs 4 [(fi : Int), (ti : Int)]) ++ [0, 17]) | _ => (((([] : List UInt8) ++ bigs 4 [(fi : Int), (ti : Int)]) ++ [0, 17]) ++ bigs 2 [n]), rfl, rfl, rfl, rfl⟩
  have N0 : Hid ((lst 0).length ≤ 0) := by unfold Hid; rw [Q0.out]; simp
  have N1 : Hid ((lst 1).length ≤ 0 + (8)) := by have h0 := N0.out; have h1 : ((bigs 4 [(fi : Int), (ti : Int)] : List UInt8)).length ≤ 8 := (by simp [bigs_length, macB, big_length] <;> omega); unfold Hid; rw [Q1.out, List.length_append]; omega
  have N2 : Hid ((lst 2).length ≤ 0 + (8) + (2)) := by have h0 := N1.out; have h1 : (([0, 17] : List UInt8)).length ≤ 2 := (by simp [bigs_length, macB, big_length] <;> omega); unfold Hid; rw [Q2.out, List.length_append]; omega
  have N3 : Hid ((lst 3).length ≤ 0 + (8) + (2) + (2)) := by have h0 := N2.out; have h1 : ((bigs 2 [n] : List UInt8)).length ≤ 2 := (by simp [bigs_length, macB, big_length] <;> omega); unfold Hid; rw [Q3.out, List.length_append]; omega
  obtain ⟨V, hV⟩ : ∃ V : Nat → Value, V = (fun j => match j with | 0 => .pointer (some ⟨w.heap.size, 0, none⟩) | 1 => .int .u32 (fi : Int) | 2 => .int .u32 (ti : Int) | 4 => .pointer (some ⟨w.heap.size, 0, none⟩) | 6 => .pointer (some ⟨w.heap.size, 0, none⟩) | 7 => .int .i64 n | 8 => .int .u16 n | 10 => .pointer (some ⟨w.heap.size, 0, none⟩) | 11 => .string (bs (lst 3)) | 12 => .string (bs (lst 3)) | _ => undef) := ⟨_, rfl⟩
  have v0 : V 0 = .pointer (some ⟨w.heap.size, 0, none⟩) := congrFun hV 0
  have v1 : V 1 = .int .u32 (fi : Int) := congrFun hV 1
  have v2 : V 2 = .int .u32 (ti : Int) := congrFun hV 2
  have v4 : V 4 = .pointer (some ⟨w.heap.size, 0, none⟩) := congrFun hV 4
  have v6 : V 6 = .pointer (some ⟨w.heap.size, 0, none⟩) := congrFun hV 6
  have v7 : V 7 = .int .i64 n := congrFun hV 7
  have v8 : V 8 = .int .u16 n := congrFun hV 8
  have v10 : V 10 = .pointer (some ⟨w.heap.size, 0, none⟩) := congrFun hV 10
  have v11 : V 11 = .string (bs (lst 3)) := congrFun hV 11
  have v12 : V 12 = .string (bs (lst 3)) := congrFun hV 12
  clear hV
  refine wp_region_ssau_plain (by kernel_rfl) (by kernel_rfl) (by kernel_rfl)
    (fun u => ⟨#[.int .u32 (fi : Int), .int .u32 (ti : Int), .int .i64 n, undef, undef, undef, u 12, .pointer (some ⟨w.heap.size, 0, none⟩), .agg #[.slice none 0 0], .pointer (some ⟨w.heap.size, 0, none⟩), u 0, u 1, u 2, u 3, u 4, u 5, u 6, u 7, u 8, u 9, u 10, u 11], []⟩)
    (fun j v w3 => if j = 3 then True else if j = 5 then True else if j = 9 then True else v = V j)
    (fun L u w3 => ∃ (c : Nat) (A : Option Addr), (L 4 = decide (0 < c) ∧ L 6 = decide (1 < c) ∧ L 10 = decide (2 < c)) ∧ c ≤ 3 ∧ Chn w1 w.heap.size w1.heap.size A (lst c) w3 ∧ AlS (L 3) (u 3) 2 34 #[.int .u32 (fi : Int), .int .u32 (ti : Int)] w1.heap.size A w3 ∧ AlS (L 5) (u 5) 2 5 #[.int .u8 0, .int .u8 17] w1.heap.size A w3 ∧ AlS (L 9) (u 9) 1 24 #[.int .u16 n] w1.heap.size A w3) (fun j => if j = 12 then .string ⟨#[]⟩ else undef) ⟨0, none, ⟨rfl, rfl, rfl⟩, by omega, by rw [Q0.out]; exact Chn.start0 hwr0 rfl, AlS.false, AlS.false, AlS.false⟩ ?_ ?_
  · rintro L u w3 i o hG hΦ ho hL hd K hK
    match i, ho with
    | 0, ho =>
      simp at ho; subst ho
      clear hΦ hd
      go_simp
      exact hK _ _ v0.symm hG (fun _ _ _ h => h)
    | 1, ho =>
      simp at ho; subst ho
      clear hΦ hd
      go_simp
      exact hK _ _ v1.symm hG (fun _ _ _ h => h)
    | 2, ho =>
      simp at ho; subst ho
      clear hΦ hd
      go_simp
      exact hK _ _ v2.symm hG (fun _ _ _ h => h)
    | 3, ho =>
      simp at ho; subst ho
      have hu1 : u 1 = V 1 := hΦ 1 (hd ⟨1, .data⟩ (by simp) (by rfl))
      rw [v1] at hu1
      have hu2 : u 2 = V 2 := hΦ 2 (hd ⟨2, .data⟩ (by simp) (by rfl))
      rw [v2] at hu2
      clear hΦ hd
      obtain ⟨c, A, ⟨e0, e1, e2⟩, hcn, hch, s3, s5, s9⟩ := hG
      have hx : ∃ x, u = (upd (upd x 1 (.int .u32 (fi : Int))) 2 (.int .u32 (ti : Int))) := ⟨u, by rw [← upd_self hu1, ← upd_self hu2]⟩
      clear hu1 hu2
      obtain ⟨x, rfl⟩ := hx
      simp only [upd, reduceIte, Nat.reduceEqDiff]
      go_simp
      exact hK _ _ trivial ⟨c, A, ⟨e0, e1, e2⟩, hcn, hch.alloc _, AlS.new hch 2 34 #[.int .u32 (fi : Int), .int .u32 (ti : Int)], AlS.alloc s5 _, AlS.alloc s9 _⟩ (fun _ _ _ h => h)
    | 4, ho =>
      simp at ho; subst ho
      have hu0 : u 0 = V 0 := hΦ 0 (hd ⟨0, .data⟩ (by simp) (by rfl))
      rw [v0] at hu0
      have hl3 : L 3 = true := hd ⟨3, .data⟩ (by simp) (by rfl)
      clear hΦ hd
      obtain ⟨c, A, ⟨e0, e1, e2⟩, hcn, hch, s3, s5, s9⟩ := hG
      have hck : c = 0 := by
        have h1 := hL.symm.trans e0
        simp at h1; omega
      subst hck
      obtain ⟨g3, hg3, hb3, hB3, hn3⟩ := s3 hl3
      have hx : ∃ x, u = (upd (upd x 0 (.pointer (some ⟨w.heap.size, 0, none⟩))) 3 (.slice (some ⟨g3, 0, none⟩) 2 2)) := ⟨u, by rw [← upd_self hu0, ← upd_self hg3]⟩
      clear hu0 hg3
      obtain ⟨x, rfl⟩ := hx
      simp only [upd, reduceIte, Nat.reduceEqDiff]
      go_simp
      refine (wIP w.heap.size A _ w3 _ 2 2 [(fi : Int), (ti : Int)] hch.wr (SlR.of_bk (n := 2) (size := 1) hb3 (AlS.not hch hB3 hn3) rfl) (by intro x hx; simp at hx; omega) (by omega) (by have := N0.out; first | omega | (simp; omega))).mono ?_
      rintro e w4 ⟨rfl, hw4⟩
      obtain ⟨A', hch', hal⟩ := hch.call hw4
      exact hK _ _ v4.symm ⟨1, A', ⟨rfl, e1, e2⟩, by omega, by rw [Q1.out]; exact hch', hal _ _ _ _ _ s3, hal _ _ _ _ _ s5, hal _ _ _ _ _ s9⟩ (fun _ _ _ h => h)
    | 5, ho =>
      simp at ho; subst ho
      clear hΦ hd
      obtain ⟨c, A, ⟨e0, e1, e2⟩, hcn, hch, s3, s5, s9⟩ := hG
      go_simp
      exact hK _ _ trivial ⟨c, A, ⟨e0, e1, e2⟩, hcn, hch.alloc _, AlS.alloc s3 _, AlS.new hch 2 5 #[.int .u8 0, .int .u8 17], AlS.alloc s9 _⟩ (fun _ _ _ h => h)
    | 6, ho =>
      simp at ho; subst ho
      have hu4 : u 4 = V 4 := hΦ 4 (hd ⟨4, .data⟩ (by simp) (by rfl))
      rw [v4] at hu4
      have hl5 : L 5 = true := hd ⟨5, .data⟩ (by simp) (by rfl)
      have hlc : L 4 = true := hd ⟨4, .chain⟩ (by simp) (by rfl)
      clear hΦ hd
      obtain ⟨c, A, ⟨e0, e1, e2⟩, hcn, hch, s3, s5, s9⟩ := hG
      have hck : c = 1 := by
        have h1 := hL.symm.trans e1
        have h2 := hlc.symm.trans e0
        simp at h1 h2; omega
      subst hck
      obtain ⟨g5, hg5, hb5, hB5, hn5⟩ := s5 hl5
      have hx : ∃ x, u = (upd (upd x 4 (.pointer (some ⟨w.heap.size, 0, none⟩))) 5 (.slice (some ⟨g5, 0, none⟩) 2 2)) := ⟨u, by rw [← upd_self hu4, ← upd_self hg5]⟩
      clear hu4 hg5
      obtain ⟨x, rfl⟩ := hx
      simp only [upd, reduceIte, Nat.reduceEqDiff]
      go_simp
      refine (wU8 w.heap.size A _ w3 _ 2 2 [0, 17] (wrS w.heap.size A) hch.wr (SlR.of_bk (n := 2) (size := 1) hb5 (AlS.not hch hB5 hn5) rfl) (by have := N1.out; first | omega | (simp; omega))).mono ?_
      rintro e w4 ⟨rfl, hw4⟩
      obtain ⟨A', hch', hal⟩ := hch.call hw4
      exact hK _ _ v6.symm ⟨2, A', ⟨e0, rfl, e2⟩, by omega, by rw [Q2.out]; exact hch', hal _ _ _ _ _ s3, hal _ _ _ _ _ s5, hal _ _ _ _ _ s9⟩ (fun _ _ _ h => h)
    | 7, ho =>
      simp at ho; subst ho
      clear hΦ hd
      go_simp
      exact hK _ _ v7.symm hG (fun _ _ _ h => h)
    | 8, ho =>
      simp at ho; subst ho
      have hu7 : u 7 = V 7 := hΦ 7 (hd ⟨7, .data⟩ (by simp) (by rfl))
      rw [v7] at hu7
      clear hΦ hd
      have hx : ∃ x, u = (upd x 7 (.int .i64 n)) := ⟨u, by rw [← upd_self hu7]⟩
      clear hu7
      obtain ⟨x, rfl⟩ := hx
      simp only [upd, reduceIte, Nat.reduceEqDiff]
      have e8 : IntKind.u16.wrap n = n := by rw [IntKind.wrap_u16]; omega
      have e8' : n % 65536 = n := by omega
      go_simp
      exact hK _ _ v8.symm hG (fun _ _ _ h => h)
    | 9, ho =>
      simp at ho; subst ho
      have hu8 : u 8 = V 8 := hΦ 8 (hd ⟨8, .data⟩ (by simp) (by rfl))
      rw [v8] at hu8
      clear hΦ hd
      obtain ⟨c, A, ⟨e0, e1, e2⟩, hcn, hch, s3, s5, s9⟩ := hG
      have hx : ∃ x, u = (upd x 8 (.int .u16 n)) := ⟨u, by rw [← upd_self hu8]⟩
      clear hu8
      obtain ⟨x, rfl⟩ := hx
      simp only [upd, reduceIte, Nat.reduceEqDiff]
      go_simp
      exact hK _ _ trivial ⟨c, A, ⟨e0, e1, e2⟩, hcn, hch.alloc _, AlS.alloc s3 _, AlS.alloc s5 _, AlS.new hch 1 24 #[.int .u16 n]⟩ (fun _ _ _ h => h)
    | 10, ho =>
      simp at ho; subst ho
      have hu6 : u 6 = V 6 := hΦ 6 (hd ⟨6, .data⟩ (by simp) (by rfl))
      rw [v6] at hu6
      have hl9 : L 9 = true := hd ⟨9, .data⟩ (by simp) (by rfl)
      have hlc : L 6 = true := hd ⟨6, .chain⟩ (by simp) (by rfl)
      clear hΦ hd
      obtain ⟨c, A, ⟨e0, e1, e2⟩, hcn, hch, s3, s5, s9⟩ := hG
      have hck : c = 2 := by
        have h1 := hL.symm.trans e2
        have h2 := hlc.symm.trans e1
        simp at h1 h2; omega
      subst hck
      obtain ⟨g9, hg9, hb9, hB9, hn9⟩ := s9 hl9
      have hx : ∃ x, u = (upd (upd x 6 (.pointer (some ⟨w.heap.size, 0, none⟩))) 9 (.slice (some ⟨g9, 0, none⟩) 1 1)) := ⟨u, by rw [← upd_self hu6, ← upd_self hg9]⟩
      clear hu6 hg9
      obtain ⟨x, rfl⟩ := hx
      simp only [upd, reduceIte, Nat.reduceEqDiff]
      go_simp
      refine (wU16 w.heap.size A _ w3 _ 1 1 [n] hch.wr (SlR.of_bk (n := 1) (size := 1) hb9 (AlS.not hch hB9 hn9) rfl) (by intro x hx; simp at hx; omega) (by omega) (by have := N2.out; first | omega | (simp; omega))).mono ?_
      rintro e w4 ⟨rfl, hw4⟩
      obtain ⟨A', hch', hal⟩ := hch.call hw4
      exact hK _ _ v10.symm ⟨3, A', ⟨e0, e1, rfl⟩, by omega, by rw [Q3.out]; exact hch', hal _ _ _ _ _ s3, hal _ _ _ _ _ s5, hal _ _ _ _ _ s9⟩ (fun _ _ _ h => h)
    | 11, ho =>
      simp at ho; subst ho
      have hu10 : u 10 = V 10 := hΦ 10 (hd ⟨10, .data⟩ (by simp) (by rfl))
      rw [v10] at hu10
      have hlc : L 10 = true := hd ⟨10, .chain⟩ (by simp) (by rfl)
      clear hΦ hd
      obtain ⟨c, A, ⟨e0, e1, e2⟩, hcn, hch, s3, s5, s9⟩ := hG
      have hck : c = 3 := by
        have h2 := hlc.symm.trans e2
        simp at h2; omega
      subst hck
      have hx : ∃ x, u = (upd x 10 (.pointer (some ⟨w.heap.size, 0, none⟩))) := ⟨u, by rw [← upd_self hu10]⟩
      clear hu10
      obtain ⟨x, rfl⟩ := hx
      simp only [upd, reduceIte, Nat.reduceEqDiff]
      go_simp
      refine (wString w.heap.size _ _ _ hch.wr).mono ?_
      rintro e w4 ⟨rfl, rfl⟩
      exact hK _ _ v11.symm ⟨3, A, ⟨e0, e1, e2⟩, hcn, hch, s3, s5, s9⟩ (fun _ _ _ h => h)
    | 12, ho =>
      simp at ho; subst ho
      have hu11 : u 11 = V 11 := hΦ 11 (hd ⟨11, .data⟩ (by simp) (by rfl))
      rw [v11] at hu11
      clear hΦ hd
      have hx : ∃ x, u = (upd x 11 (.string (bs (lst 3)))) := ⟨u, by rw [← upd_self hu11]⟩
      clear hu11
      obtain ⟨x, rfl⟩ := hx
      simp only [upd, reduceIte, Nat.reduceEqDiff]
      go_simp
      exact hK _ _ v12.symm hG (fun _ _ _ h => h)
  · rintro u w3 hu L hall hG
    obtain ⟨c, A, ⟨e0, e1, e2⟩, hcn, hch, s3, s5, s9⟩ := hG
    have h12 : u 12 = V 12 := hu 12 (by simp)
    rw [v12] at h12
    clear hu
    rw [h12]
    have hby : lst 3 = besideB fi ti n.toNat := by rw [Q3.out, Q2.out, Q1.out, Q0.out]; exact beside_lst _ _ _
    rw [hby]
    have hfr := hf0.trans' hch.fr (fun b hb e => by unfold oneB at e; omega)
    generalize hR : besideB fi ti n.toNat = R at *
    have HR := Lib.hid hR
    clear hR
    go_wp2_with fail
    go_ret
    exact ⟨by rw [HR.out]; rfl, hfr⟩
theorem refBeside (fi ti : Nat) (n : Int) (w : World) (hfi : fi < 4294967296) (hti : ti < 4294967296) (hn0 : 0 ≤ n) (hn1 : n ≤ 65535) :
    Calls Tryz.prog 229 #[.int .u32 (fi : Int), .int .u32 (ti : Int), .int .i64 n] w (fun e w' => e = .returned (.string (bs (besideB fi ti n.toNat))) ∧ Fr noB w w') := by
  go_enter Tryz.func229, Tryz.ntmps229
  go_upto_region 1 with fail
  obtain ⟨y1, Hy1⟩ : ∃ s : List UInt8, Hid (s = big 4 fi) := ⟨big 4 fi, Lib.hid rfl⟩
  obtain ⟨y2, Hy2⟩ : ∃ s : List UInt8, Hid (s = big 4 ti) := ⟨big 4 ti, Lib.hid rfl⟩
  obtain ⟨t1, Ht1⟩ : ∃ s : List UInt8, Hid (s = y1 ++ y2) := ⟨y1 ++ y2, Lib.hid rfl⟩
  obtain ⟨c1, Hc1⟩ : ∃ s : List UInt8, Hid (s = [0, 17]) := ⟨[0, 17], Lib.hid rfl⟩
  obtain ⟨t2, Ht2⟩ : ∃ s : List UInt8, Hid (s = t1 ++ c1) := ⟨t1 ++ c1, Lib.hid rfl⟩
  obtain ⟨y3, Hy3⟩ : ∃ s : List UInt8, Hid (s = big 2 n.toNat) := ⟨big 2 n.toNat, Lib.hid rfl⟩
  obtain ⟨t3, Ht3⟩ : ∃ s : List UInt8, Hid (s = t2 ++ y3) := ⟨t2 ++ y3, Lib.hid rfl⟩
  have Ly1 : Hid (y1.length ≤ 4) := by unfold Hid; rw [Hy1.out]; (simp [big_length, macB, bigs_length] <;> omega)
  have Ly2 : Hid (y2.length ≤ 4) := by have l_y1 := Ly1.out; unfold Hid; rw [Hy2.out]; (simp [big_length, macB, bigs_length] <;> omega)
  have Lt1 : Hid (t1.length ≤ 8) := by have l_y1 := Ly1.out; have l_y2 := Ly2.out; unfold Hid; rw [Ht1.out]; (simp [big_length, macB, bigs_length] <;> omega)
  have Lc1 : Hid (c1.length ≤ 2) := by have l_y1 := Ly1.out; have l_y2 := Ly2.out; have l_t1 := Lt1.out; unfold Hid; rw [Hc1.out]; (simp [big_length, macB, bigs_length] <;> omega)
  have Lt2 : Hid (t2.length ≤ 10) := by have l_y1 := Ly1.out; have l_y2 := Ly2.out; have l_t1 := Lt1.out; have l_c1 := Lc1.out; unfold Hid; rw [Ht2.out]; (simp [big_length, macB, bigs_length] <;> omega)
  have Ly3 : Hid (y3.length ≤ 2) := by have l_y1 := Ly1.out; have l_y2 := Ly2.out; have l_t1 := Lt1.out; have l_c1 := Lc1.out; have l_t2 := Lt2.out; unfold Hid; rw [Hy3.out]; (simp [big_length, macB, bigs_length] <;> omega)
  have Lt3 : Hid (t3.length ≤ 12) := by have l_y1 := Ly1.out; have l_y2 := Ly2.out; have l_t1 := Lt1.out; have l_c1 := Lc1.out; have l_t2 := Lt2.out; have l_y3 := Ly3.out; unfold Hid; rw [Ht3.out]; (simp [big_length, macB, bigs_length] <;> omega)
  obtain ⟨V, hV⟩ : ∃ V : Nat → Value, V = (fun j => match j with | 0 => .int .u32 (fi : Int) | 1 => .string (bs y1) | 2 => .int .u32 (ti : Int) | 3 => .string (bs y2) | 4 => .string (bs t1) | 5 => .string (bs t2) | 6 => .int .i64 n | 7 => .string (bs y3) | 8 => .string (bs t3) | 9 => .string (bs t3) | _ => undef) := ⟨_, rfl⟩
  have v0 : V 0 = .int .u32 (fi : Int) := congrFun hV 0
  have v1 : V 1 = .string (bs y1) := congrFun hV 1
  have v2 : V 2 = .int .u32 (ti : Int) := congrFun hV 2
  have v3 : V 3 = .string (bs y2) := congrFun hV 3
  have v4 : V 4 = .string (bs t1) := congrFun hV 4
  have v5 : V 5 = .string (bs t2) := congrFun hV 5
  have v6 : V 6 = .int .i64 n := congrFun hV 6
  have v7 : V 7 = .string (bs y3) := congrFun hV 7
  have v8 : V 8 = .string (bs t3) := congrFun hV 8
  have v9 : V 9 = .string (bs t3) := congrFun hV 9
  clear hV
  refine wp_region_ssau_plain (by kernel_rfl) (by kernel_rfl) (by kernel_rfl)
    (fun u => ⟨#[.int .u32 (fi : Int), .int .u32 (ti : Int), .int .i64 n, undef, undef, undef, u 9, u 0, u 1, u 2, u 3, u 4, u 5, u 6, u 7, u 8], []⟩)
    (fun j v w3 => v = V j)
    (fun L u w3 => Fr noB w w3) (fun j => if j = 9 then .string ⟨#[]⟩ else undef) ((Fr.refl _ _)) ?_ ?_
  · rintro L u w3 i o hG hΦ ho hL hd K hK
    match i, ho with
    | 0, ho =>
      simp at ho; subst ho
      clear hΦ hd
      go_simp
      exact hK _ _ v0.symm hG (fun _ _ _ h => h)
    | 1, ho =>
      simp at ho; subst ho
      have hu0 : u 0 = V 0 := hΦ 0 (hd ⟨0, .data⟩ (by simp) (by rfl))
      rw [v0] at hu0
      clear hΦ hd
      have hG0 := hG
      have hx : ∃ x, u = (upd x 0 (.int .u32 (fi : Int))) := ⟨u, by rw [← upd_self hu0]⟩
      clear hu0
      obtain ⟨x, rfl⟩ := hx
      simp only [upd, reduceIte, Nat.reduceEqDiff]
      go_simp
      refine (refIp fi w3 (by omega)).mono ?_
      rintro e w4 ⟨rfl, hf4⟩
      rw [← Hy1.out]
      exact hK _ _ v1.symm (hG0.none hf4) (fun _ _ _ h => h)
    | 2, ho =>
      simp at ho; subst ho
      clear hΦ hd
      go_simp
      exact hK _ _ v2.symm hG (fun _ _ _ h => h)
    | 3, ho =>
      simp at ho; subst ho
      have hu2 : u 2 = V 2 := hΦ 2 (hd ⟨2, .data⟩ (by simp) (by rfl))
      rw [v2] at hu2
      clear hΦ hd
      have hG0 := hG
      have hx : ∃ x, u = (upd x 2 (.int .u32 (ti : Int))) := ⟨u, by rw [← upd_self hu2]⟩
      clear hu2
      obtain ⟨x, rfl⟩ := hx
      simp only [upd, reduceIte, Nat.reduceEqDiff]
      go_simp
      refine (refIp ti w3 (by omega)).mono ?_
      rintro e w4 ⟨rfl, hf4⟩
      rw [← Hy2.out]
      exact hK _ _ v3.symm (hG0.none hf4) (fun _ _ _ h => h)
    | 4, ho =>
      simp at ho; subst ho
      have hu1 : u 1 = V 1 := hΦ 1 (hd ⟨1, .data⟩ (by simp) (by rfl))
      rw [v1] at hu1
      have hu3 : u 3 = V 3 := hΦ 3 (hd ⟨3, .data⟩ (by simp) (by rfl))
      rw [v3] at hu3
      clear hΦ hd
      have hx : ∃ x, u = (upd (upd x 1 (.string (bs y1))) 3 (.string (bs y2))) := ⟨u, by rw [← upd_self hu1, ← upd_self hu3]⟩
      clear hu1 hu3
      obtain ⟨x, rfl⟩ := hx
      simp only [upd, reduceIte, Nat.reduceEqDiff]
      have hln : ¬ 9223372036854775807 < y1.length + y2.length := by have l1 := Ly1.out; have l2 := Ly2.out; omega
      go_simp
      rw [← Ht1.out]
      exact hK _ _ v4.symm hG (fun _ _ _ h => h)
    | 5, ho =>
      simp at ho; subst ho
      have hu4 : u 4 = V 4 := hΦ 4 (hd ⟨4, .data⟩ (by simp) (by rfl))
      rw [v4] at hu4
      clear hΦ hd
      have hx : ∃ x, u = (upd x 4 (.string (bs t1))) := ⟨u, by rw [← upd_self hu4]⟩
      clear hu4
      obtain ⟨x, rfl⟩ := hx
      simp only [upd, reduceIte, Nat.reduceEqDiff]
      have hln : ¬ 9223372036854775807 < t1.length + c1.length := by have l1 := Lt1.out; have l2 := Lc1.out; omega
      have hcs : (⟨#[0, 17]⟩ : ByteArray) = bs c1 := by rw [Hc1.out]; rfl
      go_simp
      rw [← Ht2.out]
      exact hK _ _ v5.symm hG (fun _ _ _ h => h)
    | 6, ho =>
      simp at ho; subst ho
      clear hΦ hd
      go_simp
      exact hK _ _ v6.symm hG (fun _ _ _ h => h)
    | 7, ho =>
      simp at ho; subst ho
      have hu6 : u 6 = V 6 := hΦ 6 (hd ⟨6, .data⟩ (by simp) (by rfl))
      rw [v6] at hu6
      clear hΦ hd
      have hG0 := hG
      have hx : ∃ x, u = (upd x 6 (.int .i64 n)) := ⟨u, by rw [← upd_self hu6]⟩
      clear hu6
      obtain ⟨x, rfl⟩ := hx
      simp only [upd, reduceIte, Nat.reduceEqDiff]
      go_simp
      refine (refBigI n 2 w3 hn0 (by omega) (by omega)).mono ?_
      rintro e w4 ⟨rfl, hf4⟩
      rw [← Hy3.out]
      exact hK _ _ v7.symm (hG0.none hf4) (fun _ _ _ h => h)
    | 8, ho =>
      simp at ho; subst ho
      have hu5 : u 5 = V 5 := hΦ 5 (hd ⟨5, .data⟩ (by simp) (by rfl))
      rw [v5] at hu5
      have hu7 : u 7 = V 7 := hΦ 7 (hd ⟨7, .data⟩ (by simp) (by rfl))
      rw [v7] at hu7
      clear hΦ hd
      have hx : ∃ x, u = (upd (upd x 5 (.string (bs t2))) 7 (.string (bs y3))) := ⟨u, by rw [← upd_self hu5, ← upd_self hu7]⟩
      clear hu5 hu7
      obtain ⟨x, rfl⟩ := hx
      simp only [upd, reduceIte, Nat.reduceEqDiff]
      have hln : ¬ 9223372036854775807 < t2.length + y3.length := by have l1 := Lt2.out; have l2 := Ly3.out; omega
      go_simp
      rw [← Ht3.out]
      exact hK _ _ v8.symm hG (fun _ _ _ h => h)
    | 9, ho =>
      simp at ho; subst ho
      have hu8 : u 8 = V 8 := hΦ 8 (hd ⟨8, .data⟩ (by simp) (by rfl))
      rw [v8] at hu8
      clear hΦ hd
      have hx : ∃ x, u = (upd x 8 (.string (bs t3))) := ⟨u, by rw [← upd_self hu8]⟩
      clear hu8
      obtain ⟨x, rfl⟩ := hx
      simp only [upd, reduceIte, Nat.reduceEqDiff]
      go_simp
      exact hK _ _ v9.symm hG (fun _ _ _ h => h)
  · rintro u w3 hu L hall hG
    have hG0 := hG
    have h9 : u 9 = V 9 := hu 9 (by simp)
    rw [v9] at h9
    clear hu hall
    rw [h9]
    have hA : t3 = besideB fi ti n.toNat := by rw [Ht3.out, Ht2.out, Ht1.out, Hc1.out, Hy1.out, Hy2.out, Hy3.out]; rfl
    rw [hA]
    clear hA
    generalize hR : besideB fi ti n.toNat = R at *
    have HR := Lib.hid hR
    clear hR
    go_wp2_with fail
    go_ret
    exact ⟨by rw [HR.out]; rfl, hG0⟩
end Go.Proofs.YtcbkaiakdhiloabGreatDoor
namespace Go.Proofs.YtcbkaiakdhiloabGreatDoor
open Go.RowKit Go.Proofs
attribute [local go_sem] bs_size bs_append bs_sub bs_toList
def udpA (fm tp n : Nat) : List UInt8 := big 2 fm ++ big 2 tp ++ big 2 n
def udpWith (fm tp : Nat) (ld : List UInt8) (sum : Nat) : List UInt8 := udpA fm tp (8 + ld.length) ++ big 2 sum ++ ld
def udpSum0 (fm tp fi ti : Nat) (ld : List UInt8) : Nat := check (besideB fi ti (8 + ld.length) ++ udpA fm tp (8 + ld.length) ++ [0, 0] ++ ld)
def udpSum (fm tp fi ti : Nat) (ld : List UInt8) : Nat := if udpSum0 fm tp fi ti ld = 0 then 65535 else udpSum0 fm tp fi ti ld
def wrUDP (fm tp fi ti : Nat) (ld : List UInt8) : List UInt8 × Nat := if 1480 < 8 + ld.length then ([], 7) else (udpWith fm tp ld (udpSum fm tp fi ti ld), 0)
end Go.Proofs.YtcbkaiakdhiloabGreatDoor
namespace Go.Proofs.YtcbkaiakdhiloabGreatDoor
open Go.RowKit Go.Proofs
attribute [local go_sem] bs_size bs_append bs_extract
def chrOk (c : UInt8) : Bool := decide (33 ≤ c.toNat) && decide (c.toNat ≤ 126)
def wordB (l : List UInt8) : Bool := l.all chrOk && decide (0 < l.length)
theorem wordB_bad {l : List UInt8} {i : Nat} {c : UInt8} (h : l[i]? = some c) (hc : chrOk c = false) : wordB l = false := by
  unfold wordB
  have : l.all chrOk = false := by
    rw [List.all_eq_false]
    exact ⟨c, List.mem_of_getElem? h, by rw [hc]; decide⟩
  rw [this]; rfl
theorem take_all {l : List UInt8} {i : Nat} {c : UInt8} (h : l[i]? = some c) (ha : (l.take i).all chrOk = true) (hc : chrOk c = true) : (l.take (i + 1)).all chrOk = true := by
  rw [List.take_add_one, h]; simp [List.all_append, ha, hc]
theorem refWord (l : List UInt8) (w : World) (hl : l.length ≤ 4611686018427387904) :
    Calls Tryz.prog 144 #[.string (bs l)] w fun e w' => e = .returned (.bool (wordB l)) ∧ w' = w := by
  go_enter Tryz.func144, Tryz.ntmps144
  go_wp2_with fail
  go_loopw [3] (fun iv wr => ∃ (i : Nat), i ≤ l.length ∧ iv = .int .i64 (i : Int) ∧ (l.take i).all chrOk = true ∧ wr = w) (fun iv _ => l.length - (intOf iv).toNat)
  case atStart => exact ⟨0, by omega, rfl, rfl, rfl⟩
  case round =>
    obtain ⟨i, hi, rfl, ha, hw⟩ := hrel
    subst hw
    by_cases hlt : i < l.length
    · obtain ⟨c, hc⟩ : ∃ c, l[i]? = some c := ⟨_, List.getElem?_eq_getElem hlt⟩
      have hgi : ∀ h : i < (bs l).size, (bs l)[i]'h = c := fun h => by rw [bs_get l i h]; rw [List.getElem?_eq_getElem hlt] at hc; injection hc
      have hcl := c.toNat_lt
      have Hc := Lib.hid hc
      clear hc
      by_cases h1 : c.toNat < 33
      · have hbad : wordB l = false := wordB_bad Hc.out (by unfold chrOk; simp; omega)
        have Hbad := Lib.hid hbad
        clear hbad
        have h1i : (c.toNat : Int) < 33 := by omega
        go_wp2_with fail
        go_ret
        exact ⟨congrArg (fun b => Ending.returned (.bool b)) Hbad.out.symm, rfl⟩
      · have h1i : ¬ (c.toNat : Int) < 33 := by omega
        by_cases h2 : 126 < c.toNat
        · have hbad : wordB l = false := wordB_bad Hc.out (by unfold chrOk; simp; omega)
          have Hbad := Lib.hid hbad
          clear hbad
          have h2i : 126 < (c.toNat : Int) := by omega
          go_wp2_with fail
          go_ret
          exact ⟨congrArg (fun b => Ending.returned (.bool b)) Hbad.out.symm, rfl⟩
        · have h2i : ¬ 126 < (c.toNat : Int) := by omega
          have ha2 := take_all Hc.out ha (by unfold chrOk; simp; omega)
          have Ha2 := Lib.hid ha2
          clear ha2 ha
          go_wp2_with fail
          exact ⟨⟨i + 1, by omega, by rw [Int.natCast_add]; rfl, Ha2.out, trivial⟩, by simp only [intOf]; omega⟩
    · obtain rfl : i = l.length := by omega
      rw [List.take_length] at ha
      have hfin : wordB l = decide (0 < l.length) := by unfold wordB; rw [ha]; rfl
      have Hfin := Lib.hid hfin
      clear ha hfin
      go_wp2_with fail
      go_ret
      exact ⟨congrArg (fun b => Ending.returned (.bool b)) (by rw [Hfin.out]; try simp), rfl⟩
end Go.Proofs.YtcbkaiakdhiloabGreatDoor
namespace Go.Proofs.YtcbkaiakdhiloabGreatDoor
open Go.RowKit Go.Proofs
attribute [local go_sem] bs_size bs_append bs_extract
def lowC (c : UInt8) : UInt8 := if 65 ≤ c.toNat ∧ c.toNat ≤ 90 then c + 32 else c
def lowL (l : List UInt8) : List UInt8 := l.map lowC
end Go.Proofs.YtcbkaiakdhiloabGreatDoor
