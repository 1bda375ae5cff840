/- Parts of the walk; written by programs, merged. -/
import Derived.Test.YtcbkaiakdhiloacGreatDoorMaa
import Derived.Deep.DeepMust
import Derived.Deep.RegionHeld3
import Derived.Deep.RegionLaw
import Derived.Deep.LoopGhost
import Derived.Deep.Cut
import Derived.Deep.CutRange
import Derived.Deep.QuietTactic
import Derived.BigQuiet
set_option linter.unusedSimpArgs false
set_option linter.unusedVariables false
set_option maxRecDepth 20000
set_option maxHeartbeats 8000000
namespace Go.Proofs.YtcbkaiakdhiloacGreatDoor
open Go.RowKit Go.Proofs
theorem u8_info : (Tryz.prog.info? 5).map (fun i => (i.zero, i.size, i.bytes)) = some (some (.int .u8 0), 1, 1) := by kernel_rfl
def wrS (p : Nat) (A : Option Addr) : Nat → Prop := fun k => k = p ∨ ∃ a, A = some a ∧ a.block = k
def Wr (w : World) (p : Nat) (A : Option Addr) (l : List UInt8) : Prop :=
  ∃ cap, Bk w p 226 #[.slice A l.length cap] ∧ w.ownsRow 0 5 1 (.slice A l.length cap) l.length (u8s l) ∧ ∀ a, A = some a → a.block ≠ p
def Wto (w : World) (p : Nat) (A : Option Addr) (w' : World) (l : List UInt8) : Prop :=
  ∃ A', Wr w' p A' l ∧ Fr (wrS p A) w w' ∧ ∀ a', A' = some a' → (w.heap.size ≤ a'.block ∨ ∃ a, A = some a ∧ a.block = a'.block)
theorem Wr.wto {w : World} {p : Nat} {A : Option Addr} {l : List UInt8} (h : Wr w p A l) : Wto w p A w l := ⟨A, h, Fr.refl _ _, fun a' e => .inr ⟨a', e, rfl⟩⟩
theorem Wto.comp {w w1 w2 : World} {p : Nat} {A A1 : Option Addr} {l : List UInt8} (hp : p < w.heap.size) (hf : Fr (wrS p A) w w1)
    (ha : ∀ a', A1 = some a' → (w.heap.size ≤ a'.block ∨ ∃ a, A = some a ∧ a.block = a'.block)) (h : Wto w1 p A1 w2 l) : Wto w p A w2 l := by
  obtain ⟨A2, hW, hf2, ha2⟩ := h
  refine ⟨A2, hW, hf.trans' hf2 ?_, ?_⟩
  · rintro b hb (rfl | ⟨a, e, rfl⟩)
    · exact .inl rfl
    · rcases ha a e with h1 | ⟨a0, e0, h0⟩
      · omega
      · exact .inr ⟨a0, e0, h0⟩
  · intro a' e
    rcases ha2 a' e with h1 | ⟨a1, e1, h1⟩
    · exact .inl (Nat.le_trans hf.size h1)
    · rcases ha a1 e1 with h2 | h2
      · exact .inl (by omega)
      · rw [h1] at h2; exact .inr h2
theorem Wr.lt {w : World} {p : Nat} {A : Option Addr} {l : List UInt8} (h : Wr w p A l) : p < w.heap.size := by
  obtain ⟨_, h, _⟩ := h; exact h.lt
theorem Wr.step {w w1 : World} {p cap cap' : Nat} {A A' : Option Addr} {l news : List UInt8} (hb : Bk w p 226 #[.slice A l.length cap])
    (hn : ∀ a, A = some a → a.block ≠ p) (m : Nat) (hm : m = news.length) (h : Apd w w1 0 5 1 A A' cap' (l.length + m) (u8s l ++ u8s news)) :
    Wto w p A (w1.setCell ⟨p, 0, none⟩ (.slice A' (l.length + m) cap')) (l ++ news) := by
  subst hm
  have hne : ∀ a, A' = some a → a.block ≠ p := by
    intro a e
    rcases h.at_ a e with h1 | ⟨a0, e0, h1⟩
    · have := hb.lt; omega
    · rw [← h1]; exact hn _ e0
  have hb1 : Bk w1 p 226 #[.slice A l.length cap] := hb.keep h.fr (by rintro ⟨a, e, rfl⟩; exact hn a e rfl)
  refine ⟨A', ⟨cap', ?_, ?_, hne⟩, ?_, ?_⟩
  · simpa using hb1.set 0 (.slice A' (l.length + news.length) cap')
  · have ho := h.own
    rw [← u8s_append] at ho
    rw [List.length_append]
    refine ho.kept (row := some p) ⟨rfl, rfl, rfl, by simp [World.setCell], fun k _ hk => Below.heap_setCell _ _ _ k (by rintro rfl; exact hk rfl)⟩ ?_
    cases A' with
    | none => exact .inl rfl
    | some a => right; simp [Value.ownBlock]; exact hne a rfl
  · exact (h.fr.mono fun b _ hx => .inr hx).setCell (fun _ => .inl rfl) _
  · exact h.at_
theorem Apd.cellp {w w1 : World} {p cap' n : Nat} {A A' : Option Addr} {v : Value} {xs : List Value} {t e : TypeId} (h : Apd w w1 0 e 1 A A' cap' n xs) (hb : Bk w p t #[v]) (hn : ∀ a, A = some a → a.block ≠ p) :
    w1.cell? ⟨p, 0, none⟩ = some v ∧ w1.frozen? ⟨p, 0, none⟩ = false := by
  have hb1 : Bk w1 p t #[v] := hb.keep h.fr (by rintro ⟨a, e, rfl⟩; exact hn a e rfl)
  exact ⟨by simpa using hb1.cell 0, hb1.free 0⟩
def wPost (p : Nat) (A : Option Addr) (w : World) (l : List UInt8) (e : Ending) (w' : World) : Prop := e = .returned (.pointer (some ⟨p, 0, none⟩)) ∧ Wto w p A w' l
theorem wU8 (p : Nat) (A0 : Option Addr) (l : List UInt8) (w : World) (A : Option Addr) (n c : Nat) (xs : List UInt8) (S : Nat → Prop) (hW : Wr w p A0 l) (hr : SlR w S 1 A n (u8s xs)) (hl : l.length + n ≤ 100000000000) :
    Calls Tryz.prog 148 #[.pointer (some ⟨p, 0, none⟩), .slice A n c] w (wPost p A0 w (l ++ xs)) := by
  obtain ⟨i0, hi0, hz0, hz1, hz2⟩ := info_parts u8_info
  obtain ⟨cap, hb, hown, hne⟩ := hW
  have hc0 : w.cell? ⟨p, 0, none⟩ = some (.slice A0 l.length cap) := by simpa using hb.cell 0
  have hf0 := hb.free 0
  obtain rfl : n = xs.length := by have := hr.1; rw [u8s_length] at this; omega
  go_enter Tryz.func148, Tryz.ntmps148
  go_wp2_with (at_builtin
               go_must (refine wpList_app rfl (.tmp 9) (.tmp 10) _ rfl 0 5 i0 _ 1 1 Tryz.underlying102 hi0 hz0 hz1 hz2 rfl (by omega) A0 _ _ _ rfl hown S A _ c (u8s xs) rfl hr (u8s_one _) (by unfold maxLen; omega) (by omega) (Nat.zero_le _) ?_)
               intro A1 cap1 w1 hap
               go_must (obtain ⟨hc1, hf1⟩ := hap.cellp hb hne))
  go_ret
  exact ⟨rfl, Wr.step hb hne _ rfl hap⟩
theorem big_byte (x : Int) (h0 : 0 ≤ x) (j : Nat) : Value.int .u8 (IntKind.u8.wrap (x / 2 ^ (8 * (j : Int)).toNat)) = .int .u8 ((UInt8.ofNat (x.toNat / 256 ^ j)).toNat : Int) := by
  obtain ⟨n, rfl⟩ := Int.eq_ofNat_of_zero_le h0
  rw [IntKind.wrap_u8']
  congr 1
  have e : (8 * (j : Int)).toNat = 8 * j := by omega
  rw [e, Int.toNat_natCast, UInt8.toNat_ofNat', show (2 : Int) ^ (8 * j) = ((2 ^ (8 * j) : Nat) : Int) by simp, show (256 : Nat) ^ j = 2 ^ (8 * j) by rw [show (256 : Nat) = 2 ^ 8 from rfl, ← Nat.pow_mul]]
  omega
def bigFrom (n j x : Nat) : List UInt8 := big (n - j) (x / 256 ^ j)
theorem bigFrom_step (n j x : Nat) (h : j < n) : bigFrom n j x = bigFrom n (j + 1) x ++ [UInt8.ofNat (x / 256 ^ j)] := by
  unfold bigFrom
  rw [show n - j = (n - (j + 1)) + 1 by omega, big, Nat.div_div_eq_div_mul, ← Nat.pow_succ]
theorem wNum (n : Nat) (x : Int) (p : Nat) (A0 : Option Addr) (l : List UInt8) (w : World) (hW : Wr w p A0 l) (hx0 : 0 ≤ x) (hx1 : x ≤ 4294967295) (hn : n ≤ 4) (hl : l.length ≤ 1000000000) :
    Calls Tryz.prog 200 #[.pointer (some ⟨p, 0, none⟩), .int .i64 n, .int .u32 x] w (wPost p A0 w (l ++ big n x.toNat)) := by
  obtain ⟨i0, hi0, hz0, hz1, hz2⟩ := info_parts u8_info
  have hp := hW.lt
  go_enter Tryz.func200, Tryz.ntmps200
  go_wp2_with fail
  go_loopw [7] (fun k wr => ∃ j : Nat, j ≤ n ∧ k = .int .i64 ((j : Int) - 1) ∧ Wto w p A0 wr (l ++ bigFrom n j x.toNat)) (fun k _ => (intOf k + 1).toNat)
  case atStart => exact ⟨n, Nat.le_refl _, rfl, by simpa [bigFrom, big] using hW.wto⟩
  case round =>
    obtain ⟨j, hj, rfl, A1, hW1, hf1, ha1⟩ := hrel
    rcases j with _ | j
    · go_wp2_with fail
      go_ret
      refine ⟨rfl, ?_⟩
      have e : bigFrom n 0 x.toNat = big n x.toNat := by simp [bigFrom]
      rw [e] at hW1
      exact ⟨A1, hW1, hf1, ha1⟩
    · have hlen : (l ++ bigFrom n (j + 1) x.toNat).length ≤ 1000000004 := by simp [bigFrom, big_length]; omega
      have hlst : bigFrom n j x.toNat = bigFrom n (j + 1) x.toNat ++ [UInt8.ofNat (x.toNat / 256 ^ j)] := bigFrom_step n j _ (by omega)
      rw [show (l ++ bigFrom n (j + 1) x.toNat) = l ++ bigFrom n (j + 1) x.toNat from rfl] at hW1
      generalize hq : l ++ bigFrom n (j + 1) x.toNat = q at *
      have Hlst : Hid (l ++ bigFrom n j x.toNat = q ++ [UInt8.ofNat (x.toNat / 256 ^ j)]) := by
        unfold Hid
        rw [hlst, ← List.append_assoc, hq]
      clear hlst hq
      obtain ⟨cap, hb, hown, hne⟩ := hW1
      have hc0 : wr.cell? ⟨p, 0, none⟩ = some (.slice A1 q.length cap) := by simpa using hb.cell 0
      have hf0 := hb.free 0
      have e1 : ((j + 1 : Nat) : Int) - 1 = (j : Int) := by omega
      rw [e1]
      clear e1
      have a1 : (0 : Int) ≤ (j : Int) := by omega
      have a2 : (j : Int) ≤ 4 := by omega
      have a3 : (0 : Int) ≤ 8 * (j : Int) := by omega
      have a4 : 8 * (j : Int) ≤ 32 := by omega
      have a5 : IntKind.i64.wrap (8 * (j : Int)) = 8 * (j : Int) := IntWalk.i64_in _ (by omega)
      have hbb := big_byte x hx0 j
      generalize UInt8.ofNat (x.toNat / 256 ^ j) = b at *
      have hsr : SlR (wr.alloc (.cells #[.int .u8 (b.toNat : Int)] 5)).drew noB 1 (some ⟨wr.heap.size, 0, none⟩) 1 (u8s [b]) :=
        SlR.of_bk (n := 1) (size := 1) (S := noB) (Bk.new wr 5 #[.int .u8 (b.toNat : Int)]) (fun x => x) rfl
      have hown2 : (wr.alloc (.cells #[.int .u8 (b.toNat : Int)] 5)).drew.ownsRow 0 5 1 (.slice A1 q.length cap) q.length (u8s q) := hown.alloc _
      have hb2 : Bk (wr.alloc (.cells #[.int .u8 (b.toNat : Int)] 5)).drew p 226 #[.slice A1 q.length cap] := (hb.alloc _).drew
      have HB := Lib.hid hb2
      have hca : (wr.alloc (.cells #[.int .u8 (b.toNat : Int)] 5)).cell? ⟨p, 0, none⟩ = some (.slice A1 q.length cap) := by simpa using (hb.alloc (.cells #[.int .u8 (b.toNat : Int)] 5)).cell 0
      have hbound : q.length + 1 ≤ maxLen := by unfold maxLen; omega
      have HL := Lib.hid hbound
      clear hbound hb2
      go_wp2_with fail
      go_region_law ((refine step_app (by rfl) (.tmp 18) (.tmp 24) _ (by rfl) 0 5 i0 _ 1 1 Tryz.underlying102 hi0 hz0 hz1 hz2 rfl Nat.one_pos A1 _ _ _ (by rfl) hown2 noB _ 1 1 _ (by rfl) hsr (u8s_one _) HL.out (by omega) (Nat.zero_le _) ?_
                      intro A2 cap1 w1 hap
                      obtain ⟨hc1, hf1'⟩ := hap.cellp HB.out hne))
      all_goals
        go_wp2_with fail
        go_roundw
        case rel =>
          refine ⟨j, by omega, rfl, ?_⟩
          rw [Hlst.out]
          have h1 := Wr.step HB.out hne 1 rfl hap
          have h2 : Wto wr p A1 _ (q ++ [b]) := Wto.comp (A1 := A1) hb.lt (((Fr.refl _ _).alloc _).drew) (fun a' e => .inr ⟨a', e, rfl⟩) h1
          exact Wto.comp hp hf1 ha1 h2
        case measure => simp [intOf]
def nums (k : IntKind) (l : List Int) : List Value := l.map (.int k)
theorem nums_length (k : IntKind) (l : List Int) : (nums k l).length = l.length := by simp [nums]
theorem nums_get (k : IntKind) (l : List Int) (i : Nat) (h : i < l.length) : (nums k l)[i]? = some (.int k l[i]) := by simp [nums, h]
def bigs (n : Nat) (l : List Int) : List UInt8 := l.flatMap fun x => big n x.toNat
theorem bigs_take (n : Nat) (l : List Int) (k : Nat) (h : k < l.length) : bigs n (l.take (k + 1)) = bigs n (l.take k) ++ big n l[k].toNat := by
  unfold bigs; rw [List.take_succ_eq_append_getElem h, List.flatMap_append]; simp
theorem bigs_length (n : Nat) (l : List Int) : (bigs n l).length = l.length * n := by
  induction l with
  | nil => simp [bigs]
  | cons a r ih => simp only [bigs, List.flatMap_cons, List.length_append, big_length, List.length_cons] at ih ⊢; rw [ih, Nat.add_mul]; omega
theorem wU16 (p : Nat) (A0 : Option Addr) (l : List UInt8) (w : World) (A : Option Addr) (n c : Nat) (xs : List Int) (hW : Wr w p A0 l) (hr : SlR w (wrS p A0) 1 A n (nums .u16 xs)) (hx : ∀ x ∈ xs, 0 ≤ x ∧ x ≤ 65535) (hn : n ≤ 1000) (hl : l.length ≤ 100000000) :
    Calls Tryz.prog 149 #[.pointer (some ⟨p, 0, none⟩), .slice A n c] w (wPost p A0 w (l ++ bigs 2 xs)) := by
  have hp := hW.lt
  have hlen : xs.length = n := by have := hr.1; rw [nums_length] at this; omega
  go_enter Tryz.func149, Tryz.ntmps149
  go_wp2_with fail
  go_loopw [9] (fun i wr => ∃ k : Nat, k ≤ n ∧ i = .int .i64 k ∧ Wto w p A0 wr (l ++ bigs 2 (xs.take k))) (fun i _ => n - (intOf i).toNat)
  case atStart => exact ⟨0, Nat.zero_le _, rfl, by simpa [bigs] using hW.wto⟩
  case round =>
    obtain ⟨k, hk, rfl, A1, hW1, hf1, ha1⟩ := hrel
    by_cases hlt : k < n
    · obtain ⟨ad, u, rfl, hu, hc⟩ := (hr.keep hf1).at_ hlt
      rw [nums_get _ xs k (by omega)] at hu
      injection hu with hu
      subst hu
      have hx1 := hx xs[k] (List.getElem_mem _)
      have hl1 : (l ++ bigs 2 (xs.take k)).length ≤ 1000000000 := by rw [List.length_append, bigs_length, List.length_take]; omega
      have Hsn := Lib.hid (bigs_take 2 xs k (by omega))
      generalize xs[k] = x at *
      obtain ⟨x0, x1⟩ := hx1
      have hxw : x % 4294967296 = x := by omega
      go_wp2_with fail
      refine (wNum 2 x p A1 _ _ hW1 x0 (by omega) (by omega) hl1).mono ?_
      rintro e w1 ⟨rfl, h1⟩
      go_wp2_with fail
      go_roundw
      case rel => exact ⟨k + 1, by omega, by go_num, by rw [Hsn.out, ← List.append_assoc]; exact Wto.comp hp hf1 ha1 h1⟩
      case measure => simp [intOf]; omega
    · go_wp2_with fail
      go_ret
      obtain rfl : k = n := by omega
      rw [List.take_of_length_le (by omega)] at hW1
      exact ⟨rfl, A1, hW1, hf1, ha1⟩
theorem wIP (p : Nat) (A0 : Option Addr) (l : List UInt8) (w : World) (A : Option Addr) (n c : Nat) (xs : List Int) (hW : Wr w p A0 l) (hr : SlR w (wrS p A0) 1 A n (nums .u32 xs)) (hx : ∀ x ∈ xs, 0 ≤ x ∧ x ≤ 4294967295) (hn : n ≤ 1000) (hl : l.length ≤ 100000000) :
    Calls Tryz.prog 147 #[.pointer (some ⟨p, 0, none⟩), .slice A n c] w (wPost p A0 w (l ++ bigs 4 xs)) := by
  have hp := hW.lt
  have hlen : xs.length = n := by have := hr.1; rw [nums_length] at this; omega
  go_enter Tryz.func147, Tryz.ntmps147
  go_wp2_with fail
  go_loopw [9] (fun i wr => ∃ k : Nat, k ≤ n ∧ i = .int .i64 k ∧ Wto w p A0 wr (l ++ bigs 4 (xs.take k))) (fun i _ => n - (intOf i).toNat)
  case atStart => exact ⟨0, Nat.zero_le _, rfl, by simpa [bigs] using hW.wto⟩
  case round =>
    obtain ⟨k, hk, rfl, A1, hW1, hf1, ha1⟩ := hrel
    by_cases hlt : k < n
    · obtain ⟨ad, u, rfl, hu, hc⟩ := (hr.keep hf1).at_ hlt
      rw [nums_get _ xs k (by omega)] at hu
      injection hu with hu
      subst hu
      have hx1 := hx xs[k] (List.getElem_mem _)
      have hl1 : (l ++ bigs 4 (xs.take k)).length ≤ 1000000000 := by rw [List.length_append, bigs_length, List.length_take]; omega
      have Hsn := Lib.hid (bigs_take 4 xs k (by omega))
      generalize xs[k] = x at *
      obtain ⟨x0, x1⟩ := hx1
      go_wp2_with fail
      refine (wNum 4 x p A1 _ _ hW1 x0 (by omega) (by omega) hl1).mono ?_
      rintro e w1 ⟨rfl, h1⟩
      go_wp2_with fail
      go_roundw
      case rel => exact ⟨k + 1, by omega, by go_num, by rw [Hsn.out, ← List.append_assoc]; exact Wto.comp hp hf1 ha1 h1⟩
      case measure => simp [intOf]; omega
    · go_wp2_with fail
      go_ret
      obtain rfl : k = n := by omega
      rw [List.take_of_length_le (by omega)] at hW1
      exact ⟨rfl, A1, hW1, hf1, ha1⟩
theorem Wr.keep {S : Nat → Prop} {w w' : World} {p : Nat} {A : Option Addr} {l : List UInt8} (h : Wr w p A l) (hf : Fr S w w') (hS : ∀ b, b < w.heap.size → wrS p A b → ¬ S b) : Wr w' p A l := by
  obtain ⟨cap, hb, hown, hne⟩ := h
  have hlt := hown.lt
  refine ⟨cap, hb.keep hf (hS _ hb.lt (.inl rfl)), ⟨hown.1, ?_⟩, hne⟩
  rcases hown.2 with h0 | ⟨g, cap', cur, hv, h0, hh, hrest⟩
  · exact .inl h0
  · have hA : A = some ⟨g, 0, none⟩ := by injection hv
    have hg : g < w.heap.size := (hlt g (by rw [hv]; rfl)).2
    exact .inr ⟨g, cap', cur, hv, h0, (hf.block g hg (hS g hg (.inr ⟨_, hA, rfl⟩))).trans hh, hrest⟩
theorem wZero (p : Nat) (A0 : Option Addr) (l : List UInt8) (w : World) (n : Nat) (hW : Wr w p A0 l) (hn : n ≤ 1000) (hl : l.length ≤ 100000000) :
    Calls Tryz.prog 160 #[.pointer (some ⟨p, 0, none⟩), .int .i64 n] w (wPost p A0 w (l ++ List.replicate (n - l.length) 0)) := by
  obtain ⟨i0, hi0, hz0, hz1, hz2⟩ := info_parts u8_info
  have hp := hW.lt
  go_enter Tryz.func160, Tryz.ntmps160
  go_wp2_with fail
  go_loopg [] (n - l.length) (fun k wr => k ≤ n - l.length ∧ Wto w p A0 wr (l ++ List.replicate (n - l.length - k) 0))
  case atStart => exact ⟨Nat.le_refl _, by simpa using hW.wto⟩
  case round =>
    obtain ⟨hk, A1, hW1, hf1, ha1⟩ := hrel
    have hlen : (l ++ List.replicate (n - l.length - gk) (0 : UInt8)).length = l.length + (n - l.length - gk) := by simp
    have hst : gk ≠ 0 → l ++ List.replicate (n - l.length - (gk - 1)) (0 : UInt8) = (l ++ List.replicate (n - l.length - gk) 0) ++ [0] := by
      intro h0
      rw [show n - l.length - (gk - 1) = (n - l.length - gk) + 1 by omega, List.replicate_succ', List.append_assoc]
    generalize hq : l ++ List.replicate (n - l.length - gk) (0 : UInt8) = q at *
    have Hq := Lib.hid hq
    have Hst := Lib.hid hst
    have hlen1 : q.length ≤ 100001000 := by omega
    have Hlen := Lib.hid hlen
    clear hq hst hlen
    obtain ⟨cap, hb, hown, hne⟩ := hW1
    have hc0 : wr.cell? ⟨p, 0, none⟩ = some (.slice A1 q.length cap) := by simpa using hb.cell 0
    have hf0 := hb.free 0
    have hsr : SlR (wr.alloc (.cells #[.int .u8 0] 5)) noB 1 (some ⟨wr.heap.size, 0, none⟩) 1 (u8s [0]) :=
      SlR.of_bk (n := 1) (size := 1) (S := noB) (Bk.new wr 5 #[.int .u8 0]) (fun x => x) rfl
    by_cases h0 : q.length < n
    · go_wp2_with (at_builtin
                   go_must (refine wpList_app rfl (.tmp 16) (.tmp 17) _ rfl 0 5 i0 _ 1 1 Tryz.underlying102 hi0 hz0 hz1 hz2 rfl (by omega) A1 _ _ _ rfl (hown.alloc _) noB _ 1 1 _ rfl hsr (u8s_one _) (by unfold maxLen; omega) (by omega) (Nat.zero_le _) ?_)
                   intro A2 cap1 w1 hap
                   go_must (obtain ⟨hc1, hf1'⟩ := hap.cellp (hb.alloc _) hne))
      have hg : gk ≠ 0 := by have := Hlen.out; omega
      go_roundg (gk - 1)
      case measure => omega
      case rel =>
        refine ⟨by omega, ?_⟩
        rw [Hst.out hg]
        have h1 := Wr.step (hb.alloc _) hne 1 rfl hap
        have h2 : Wto wr p A1 _ (q ++ [0]) := Wto.comp (A1 := A1) hb.lt ((Fr.refl _ _).alloc _) (fun a' e => .inr ⟨a', e, rfl⟩) h1
        exact Wto.comp hp hf1 ha1 h2
    · go_wp2_with fail
      go_ret
      have hg : l ++ List.replicate (n - l.length) (0 : UInt8) = q := by
        have h1 := Hlen.out
        have h2 : n - l.length = n - l.length - gk := by omega
        rw [h2]; exact Hq.out
      rw [hg]
      exact ⟨rfl, A1, ⟨cap, hb, hown, hne⟩, hf1, ha1⟩
def strv (l : List (List UInt8)) : List Value := l.map fun p => .string (bs p)
theorem strv_length (l : List (List UInt8)) : (strv l).length = l.length := by simp [strv]
theorem strv_get (l : List (List UInt8)) (k : Nat) (hk : k < l.length) : (strv l)[k]? = some (.string (bs l[k])) := by simp [strv, hk]
theorem flat_take (l : List (List UInt8)) (k : Nat) (h : k < l.length) : (l.take (k + 1)).flatten = (l.take k).flatten ++ l[k] := by
  rw [List.take_succ_eq_append_getElem h, List.flatten_append]; simp
theorem flat_le (l : List (List UInt8)) (k : Nat) : (l.take k).flatten.length ≤ l.flatten.length := by
  conv => rhs; rw [← List.take_append_drop k l, List.flatten_append, List.length_append]
  omega
theorem mem_flat_le (l : List (List UInt8)) (k : Nat) (h : k < l.length) : (l.take k).flatten.length + l[k].length ≤ l.flatten.length := by
  have := flat_le l (k + 1); rw [flat_take l k h, List.length_append] at this; exact this
theorem wText (p : Nat) (A0 : Option Addr) (l : List UInt8) (w : World) (A : Option Addr) (n c : Nat) (xs : List (List UInt8)) (hW : Wr w p A0 l) (hr : SlR w (wrS p A0) 1 A n (strv xs)) (hn : n ≤ 1000) (hl : l.length + xs.flatten.length ≤ 100000000) :
    Calls Tryz.prog 159 #[.pointer (some ⟨p, 0, none⟩), .slice A n c] w (wPost p A0 w (l ++ xs.flatten)) := by
  obtain ⟨i0, hi0, hz0, hz1, hz2⟩ := info_parts u8_info
  have hp := hW.lt
  have hlen : xs.length = n := by have := hr.1; rw [strv_length] at this; omega
  go_enter Tryz.func159, Tryz.ntmps159
  go_wp2_with fail
  go_loopw [9] (fun i wr => ∃ k : Nat, k ≤ n ∧ i = .int .i64 k ∧ Wto w p A0 wr (l ++ (xs.take k).flatten)) (fun i _ => n - (intOf i).toNat)
  case atStart => exact ⟨0, Nat.zero_le _, rfl, by simpa using hW.wto⟩
  case round =>
    obtain ⟨k, hk, rfl, A1, hW1, hf1, ha1⟩ := hrel
    by_cases hlt : k < n
    · obtain ⟨ad, u, rfl, hu, hc⟩ := (hr.keep hf1).at_ hlt
      rw [strv_get xs k (by omega)] at hu
      injection hu with hu
      subst hu
      have hl1 := mem_flat_le xs k (by omega)
      have Hsn := Lib.hid (flat_take xs k (by omega))
      have Hl := Lib.hid hl
      generalize xs[k] = s at *
      have hq1 : (l ++ (xs.take k).flatten).length + s.length ≤ 100000000 := by rw [List.length_append]; omega
      have Hsn2 : Hid (l ++ (xs.take (k + 1)).flatten = (l ++ (xs.take k).flatten) ++ s) := by unfold Hid; rw [Hsn.out, List.append_assoc]
      clear Hsn hl1 hl
      generalize l ++ (xs.take k).flatten = q at *
      obtain ⟨cap, hb, hown, hne⟩ := hW1
      have hc0 : wr.cell? ⟨p, 0, none⟩ = some (.slice A1 q.length cap) := by simpa using hb.cell 0
      have hf0 := hb.free 0
      go_wp2_with (at_builtin
                   go_must (refine wpList_app_str rfl (.tmp 17) (.tmp 18) _ _ rfl 0 5 i0 Tryz.underlying102 Tryz.underlying9 hi0 hz0 hz1 hz2 A1 _ _ _ rfl hown s rfl (by unfold maxLen; omega) (by omega) (Nat.zero_le _) ?_)
                   intro A2 cap1 w1 hap
                   go_must (obtain ⟨hc1, hf1'⟩ := hap.cellp hb hne))
      go_roundw
      case rel => exact ⟨k + 1, by omega, by go_num, by rw [Hsn2.out]; exact Wto.comp hp hf1 ha1 (Wr.step hb hne _ rfl hap)⟩
      case measure => simp [intOf]; omega
    · go_wp2_with fail
      go_ret
      obtain rfl : k = n := by omega
      rw [List.take_of_length_le (by omega)] at hW1
      exact ⟨rfl, A1, hW1, hf1, ha1⟩
theorem wString (p : Nat) (A0 : Option Addr) (l : List UInt8) (w : World) (hW : Wr w p A0 l) :
    Calls Tryz.prog 150 #[.pointer (some ⟨p, 0, none⟩)] w fun e w' => e = .returned (.string (bs l)) ∧ w = w' := by
  obtain ⟨cap, hb, hown, hne⟩ := hW
  have hc0 : w.cell? ⟨p, 0, none⟩ = some (.slice A0 l.length cap) := by simpa using hb.cell 0
  have hsr : SlR w noB 1 A0 l.length (u8s l) := by
    refine ⟨by simp [u8s_length], fun h0 => ?_⟩
    rcases hown.2 with ⟨_, h⟩ | ⟨g, cap', cur, hv, _⟩
    · omega
    · have hA : A0 = some ⟨g, 0, none⟩ := by injection hv
      subst hA
      exact ⟨_, rfl, (hown.lt g rfl).2, fun x => x, hown.cells (g := g) rfl⟩
  have hA : A0 = none ∨ ∃ g o, A0 = some ⟨g, o, none⟩ := by
    rcases hown.2 with ⟨h, _⟩ | ⟨g, cap', cur, hv, _⟩
    · left; injection h
    · right; exact ⟨g, 0, by injection hv⟩
  have hcv := run_str_of (P := Tryz.prog) w 102 9 5 Tryz.underlying102 Tryz.underlying5 Tryz.underlying9 noB A0 l.length cap l hsr hA
  go_enter Tryz.func150, Tryz.ntmps150
  go_wp2_with fail
  go_ret
  exact ⟨rfl, rfl⟩
abbrev Mac := UInt8 × UInt8 × UInt8 × UInt8 × UInt8 × UInt8
def macB (m : Mac) : List UInt8 := [m.1, m.2.1, m.2.2.1, m.2.2.2.1, m.2.2.2.2.1, m.2.2.2.2.2]
def macsC (l : List Mac) : List Value := l.flatMap fun m => u8s (macB m)
theorem macsC_length (l : List Mac) : (macsC l).length = l.length * 6 := by
  induction l with
  | nil => rfl
  | cons a r ih => simp only [macsC, List.flatMap_cons, List.length_append, List.length_cons] at ih ⊢; rw [ih, u8s_length]; simp [macB]; omega
theorem macsC_get (l : List Mac) (k j : Nat) (hk : k < l.length) (hj : j < 6) : (macsC l)[k * 6 + j]? = (u8s (macB l[k]))[j]? := by
  induction l generalizing k with
  | nil => simp at hk
  | cons a r ih =>
    have h6 : (u8s (macB a)).length = 6 := by rw [u8s_length]; rfl
    simp only [macsC, List.flatMap_cons]
    rcases k with _ | k
    · rw [List.getElem?_append_left (by omega)]; simp
    · rw [List.getElem?_append_right (by omega), h6, show (k + 1) * 6 + j - 6 = k * 6 + j by omega]
      simpa [macsC] using ih k (by simpa using hk)
theorem wMAC (p : Nat) (A0 : Option Addr) (l : List UInt8) (w : World) (g n c : Nat) (xs : List Mac) (hW : Wr w p A0 l) (hr : SlR w (wrS p A0) 6 (some ⟨g, 0, none⟩) n (macsC xs)) (hn : n ≤ 1000) (hl : l.length ≤ 100000000) :
    Calls Tryz.prog 158 #[.pointer (some ⟨p, 0, none⟩), .slice (some ⟨g, 0, none⟩) n c] w (wPost p A0 w (l ++ xs.flatMap macB)) := by
  obtain ⟨i0, hi0, hz0, hz1, hz2⟩ := info_parts u8_info
  have hp := hW.lt
  have hlen : xs.length = n := by have := hr.1; rw [macsC_length] at this; omega
  go_enter Tryz.func158, Tryz.ntmps158
  go_wp2_with fail
  go_loopw [9] (fun i wr => ∃ k : Nat, k ≤ n ∧ i = .int .i64 k ∧ Wto w p A0 wr (l ++ (xs.take k).flatMap macB)) (fun i _ => n - (intOf i).toNat)
  case atStart => exact ⟨0, Nat.zero_le _, rfl, by simpa using hW.wto⟩
  case round =>
    obtain ⟨k, hk, rfl, A1, hW1, hf1, ha1⟩ := hrel
    by_cases hlt : k < n
    · obtain ⟨ad, ead, _, hS, hcell⟩ := (hr.keep hf1).2 (by omega)
      injection ead with ead
      subst ead
      have hc : ∀ j, j < 6 → wr.cell? ⟨g, k * 6 + j, none⟩ = (u8s (macB xs[k]))[j]? := by
        intro j hj
        have h := macsC_get xs k j (by omega) hj
        rw [← h]
        have h2 : (macsC xs)[k * 6 + j]? = some ((macsC xs)[k * 6 + j]'(by rw [macsC_length]; omega)) := List.getElem?_eq_getElem _
        rw [h2]
        have := hcell _ _ h2
        rwa [addr_add, Nat.zero_add] at this
      have Hsn : Hid (l ++ (xs.take (k + 1)).flatMap macB = (l ++ (xs.take k).flatMap macB) ++ macB xs[k]) := by
        unfold Hid; rw [List.take_succ_eq_append_getElem (by omega), List.flatMap_append]; simp
      have Hq : Hid ((l ++ (xs.take k).flatMap macB).length ≤ 100006000) := by
        unfold Hid
        have h1 : ((xs.take k).flatMap macB).length = (xs.take k).length * 6 := by
          have h2 := macsC_length (xs.take k)
          rw [← h2, macsC]
          simp [List.length_flatMap, u8s_length]
        rw [List.length_append, h1, List.length_take]; omega
      have h0 := hc 0 (by omega)
      have h1 := hc 1 (by omega)
      have h2 := hc 2 (by omega)
      have h3 := hc 3 (by omega)
      have h4 := hc 4 (by omega)
      have h5 := hc 5 (by omega)
      generalize xs[k] = m at *
      obtain ⟨m0, m1, m2, m3, m4, m5⟩ := m
      simp [u8s, macB, u8v] at h0 h1 h2 h3 h4 h5
      clear hc hcell
      generalize l ++ (xs.take k).flatMap macB = q at *
      have hql := Hq.out
      obtain ⟨cap, hb, hown, hne⟩ := hW1
      have hc0 : wr.cell? ⟨p, 0, none⟩ = some (.slice A1 q.length cap) := by simpa using hb.cell 0
      have hf0 := hb.free 0
      go_wp2_with fail
      have hbn := Bk.new wr 26 #[.int .u8 (m0.toNat : Int), .int .u8 (m1.toNat : Int), .int .u8 (m2.toNat : Int), .int .u8 (m3.toNat : Int), .int .u8 (m4.toNat : Int), .int .u8 (m5.toNat : Int)]
      have hb2 := hb.alloc (.cells #[.int .u8 (m0.toNat : Int), .int .u8 (m1.toNat : Int), .int .u8 (m2.toNat : Int), .int .u8 (m3.toNat : Int), .int .u8 (m4.toNat : Int), .int .u8 (m5.toNat : Int)] 26)
      have hfa : Fr (wrS p A1) wr (wr.alloc (.cells #[.int .u8 (m0.toNat : Int), .int .u8 (m1.toNat : Int), .int .u8 (m2.toNat : Int), .int .u8 (m3.toNat : Int), .int .u8 (m4.toNat : Int), .int .u8 (m5.toNat : Int)] 26)) := (Fr.refl _ _).alloc _
      have hown2 := hown.alloc (.cells #[.int .u8 (m0.toNat : Int), .int .u8 (m1.toNat : Int), .int .u8 (m2.toNat : Int), .int .u8 (m3.toNat : Int), .int .u8 (m4.toNat : Int), .int .u8 (m5.toNat : Int)] 26)
      generalize wr.alloc (.cells #[.int .u8 (m0.toNat : Int), .int .u8 (m1.toNat : Int), .int .u8 (m2.toNat : Int), .int .u8 (m3.toNat : Int), .int .u8 (m4.toNat : Int), .int .u8 (m5.toNat : Int)] 26) = wa at *
      have hsr : SlR wa.drew noB 1 (some ⟨wr.heap.size, 0, none⟩) 6 (u8s (macB (m0, m1, m2, m3, m4, m5))) :=
        SlR.of_bk (n := 6) (size := 1) (S := noB) hbn.drew (fun x => x) rfl
      have hca : wa.cell? ⟨p, 0, none⟩ = some (.slice A1 q.length cap) := by simpa using hb2.cell 0
      have hown3 : wa.drew.ownsRow 0 5 1 (.slice A1 q.length cap) q.length (u8s q) := hown2
      have HB := Lib.hid hb2.drew
      have hbound : q.length + 6 ≤ maxLen := by unfold maxLen; omega
      have HL := Lib.hid hbound
      clear hbound
      go_region_law ((refine step_app (by rfl) (.tmp 17) (.tmp 18) _ (by rfl) 0 5 i0 _ 1 1 Tryz.underlying102 hi0 hz0 hz1 hz2 rfl Nat.one_pos A1 _ _ _ (by rfl) hown3 noB _ 6 6 _ (by rfl) hsr (u8s_one _) HL.out (by omega) (Nat.zero_le _) ?_
                      intro A2 cap1 w1 hap
                      obtain ⟨hc1, hf1'⟩ := hap.cellp HB.out hne))
      go_wp2_with fail
      go_roundw
      case rel =>
        have h1 := Wr.step hb2.drew hne 6 rfl hap
        exact ⟨k + 1, by omega, by go_num, by rw [Hsn.out]; exact Wto.comp hp hf1 ha1 (Wto.comp (A1 := A1) hb.lt hfa.drew (fun a' e => .inr ⟨a', e, rfl⟩) h1)⟩
      case measure => simp [intOf]; omega
    · go_wp2_with fail
      go_ret
      obtain rfl : k = n := by omega
      rw [List.take_of_length_le (by omega)] at hW1
      exact ⟨rfl, A1, hW1, hf1, ha1⟩
end Go.Proofs.YtcbkaiakdhiloacGreatDoor
namespace Go.Proofs.YtcbkaiakdhiloacGreatDoor
open Go.RowKit Go.Proofs
def AlS (L : Bool) (v : Value) (n : Nat) (t : TypeId) (cells : Array Value) (B : Nat) (A : Option Addr) (w : World) : Prop :=
  L = true → ∃ g, v = .slice (some ⟨g, 0, none⟩) n n ∧ Bk w g t cells ∧ B ≤ g ∧ ∀ a, A = some a → a.block ≠ g
structure Chn (w1 : World) (p B : Nat) (A : Option Addr) (l : List UInt8) (w : World) : Prop where
  wr : Wr w p A l
  row : ∀ a, A = some a → B ≤ a.block
  fr : Fr (oneB p) w1 w
  eB : B = w1.heap.size
  lt : p < B
section
variable {w1 w w' : World} {p B n : Nat} {A : Option Addr} {l l' : List UInt8} {L : Bool} {v : Value} {t : TypeId} {cs : Array Value}
theorem Wr.row_lt (h : Wr w p A l) : ∀ a, A = some a → a.block < w.heap.size := by
  obtain ⟨cap, hb, hown, hne⟩ := h
  rintro a rfl
  exact (hown.lt a.block rfl).2
theorem Wr.alloc (h : Wr w p A l) (o : Obj) : Wr (w.alloc o) p A l := h.keep (S := noB) ((Fr.refl _ _).alloc o) (fun _ _ _ x => x)
theorem Wr.drew (h : Wr w p A l) : Wr w.drew p A l := h.keep (S := noB) ((Fr.refl _ _).drew) (fun _ _ _ x => x)
theorem Chn.start (h : Wr w1 p A l) (hA : A = none) : Chn w1 p w1.heap.size A l w1.drew :=
  ⟨h.drew, (fun a e => by rw [hA] at e; cases e), (Fr.refl _ _).drew, rfl, h.lt⟩
theorem Chn.start0 (h : Wr w1 p A l) (hA : A = none) : Chn w1 p w1.heap.size A l w1 :=
  ⟨h, (fun a e => by rw [hA] at e; cases e), (Fr.refl _ _), rfl, h.lt⟩
theorem Chn.alloc (h : Chn w1 p B A l w) (o : Obj) : Chn w1 p B A l (w.alloc o) := ⟨h.wr.alloc o, h.row, h.fr.alloc o, h.eB, h.lt⟩
theorem Chn.call (h : Chn w1 p B A l w) (hw : Wto w p A w' l') :
    ∃ A', Chn w1 p B A' l' w' ∧ ∀ (L : Bool) (v : Value) (n : Nat) (t : TypeId) (cs : Array Value), AlS L v n t cs B A w → AlS L v n t cs B A' w' := by
  obtain ⟨A', W', fr', at'⟩ := hw
  have hB := h.eB
  have hp := h.lt
  have hsz := h.fr.size
  refine ⟨A', ⟨W', ?_, h.fr.trans' fr' ?_, hB, hp⟩, ?_⟩
  · intro a' e
    rcases at' a' e with h1 | ⟨a, ea, h1⟩
    · omega
    · rw [← h1]; exact h.row a ea
  · rintro b hb (rfl | ⟨a, ea, rfl⟩)
    · rfl
    · have := h.row a ea; omega
  · intro L v n t cs hal hL
    obtain ⟨g, hv, hb, hg, hne⟩ := hal hL
    have hgl := hb.lt
    refine ⟨g, hv, hb.keep fr' ?_, hg, ?_⟩
    · rintro (e | ⟨a, ea, e⟩)
      · omega
      · exact hne a ea e
    · intro a' e
      rcases at' a' e with h1 | ⟨a, ea, h1⟩
      · omega
      · rw [← h1]; exact hne a ea
theorem AlS.alloc (h : AlS L v n t cs B A w) (o : Obj) : AlS L v n t cs B A (w.alloc o) := fun hL => by
  obtain ⟨g, hv, hb, hg, hne⟩ := h hL
  exact ⟨g, hv, hb.alloc o, hg, hne⟩
theorem AlS.quiet (h : AlS L v n t cs B A w) (hf : Fr noB w w') : AlS L v n t cs B A w' := fun hL => by
  obtain ⟨g, hv, hb, hg, hne⟩ := h hL
  exact ⟨g, hv, hb.keep hf (fun x => x), hg, hne⟩
theorem AlS.new (h : Chn w1 p B A l w) (n : Nat) (t : TypeId) (cs : Array Value) : AlS L (.slice (some ⟨w.heap.size, 0, none⟩) n n) n t cs B A (w.alloc (.cells cs t)) := fun _ =>
  ⟨w.heap.size, rfl, Bk.new w t cs, by have := h.fr.size; have := h.eB; omega, fun a e => by have := h.wr.row_lt a e; omega⟩
theorem AlS.not {g : Nat} (h : Chn w1 p B A l w) (hg : B ≤ g) (hne : ∀ a, A = some a → a.block ≠ g) : ¬ wrS p A g := by
  have := h.lt
  rintro (e | ⟨a, ea, e⟩)
  · omega
  · exact hne a ea e
end
theorem AlS.false {v : Value} {n : Nat} {t : TypeId} {cs : Array Value} {B : Nat} {A : Option Addr} {w : World} : AlS false v n t cs B A w := fun h => by cases h
theorem AlS.new0 {L : Bool} (w : World) (n : Nat) (t : TypeId) (cs : Array Value) : AlS L (.slice (some ⟨w.heap.size, 0, none⟩) n n) n t cs 0 none (w.alloc (.cells cs t)) := fun _ =>
  ⟨w.heap.size, rfl, Bk.new w t cs, Nat.zero_le _, fun a e => by cases e⟩
theorem Wr.zero {w : World} {p : Nat} (h : Bk w p 226 #[.slice none 0 0]) : Wr w p none [] :=
  ⟨0, h, ⟨by simp [u8s], .inl ⟨rfl, rfl⟩⟩, fun a e => by cases e⟩
def strPost (r : List UInt8 × Nat) (w : World) (e : Ending) (w' : World) : Prop := e = .returned (.tuple #[.string (bs r.1), .int .i64 (r.2 : Int)]) ∧ Fr noB w w'
end Go.Proofs.YtcbkaiakdhiloacGreatDoor
namespace Go.Proofs.YtcbkaiakdhiloacGreatDoor
open Go.RowKit Go.Proofs
attribute [local go_sem] bs_size bs_append bs_extract big_length
def macV (m : Mac) : Value := .agg #[.int .u8 (m.1.toNat : Int), .int .u8 (m.2.1.toNat : Int), .int .u8 (m.2.2.1.toNat : Int), .int .u8 (m.2.2.2.1.toNat : Int), .int .u8 (m.2.2.2.2.1.toNat : Int), .int .u8 (m.2.2.2.2.2.toNat : Int)]
end Go.Proofs.YtcbkaiakdhiloacGreatDoor
namespace Go.Proofs.YtcbkaiakdhiloacGreatDoor
open Go.RowKit Go.Proofs
attribute [local go_sem] bs_size bs_append bs_sub bs_toList
def ethBody (tm fm : Mac) (ty : Nat) (ld : List UInt8) : List UInt8 := macB tm ++ macB fm ++ big 2 ty ++ ld
def ethBytes (tm fm : Mac) (ty : Nat) (ld : List UInt8) : List UInt8 := ethBody tm fm ty ld ++ List.replicate (60 - (ethBody tm fm ty ld).length) 0
def wrEther (tm fm : Mac) (ty : Nat) (ld : List UInt8) : List UInt8 × Nat := if ty < 1536 then ([], 3) else if 1500 < ld.length then ([], 7) else (ethBytes tm fm ty ld, 0)
theorem eth_lst (tm fm : Mac) (ty : Nat) (ld : List UInt8) : ([] ++ List.flatMap macB [tm, fm] ++ bigs 2 [(ty : Int)] ++ List.flatten [ld]) = ethBody tm fm ty ld := by
  simp [ethBody, bigs]
theorem packetWriteEther (ty : Nat) (ld : List UInt8) (m0 m1 m2 m3 m4 m5 n0 n1 n2 n3 n4 n5 : UInt8) (w : World) (hty : ty < 65536) (hld : ld.length ≤ 9223372036854775807) :
    Calls Tryz.prog 104 #[.agg #[.int .u8 (m0.toNat : Int), .int .u8 (m1.toNat : Int), .int .u8 (m2.toNat : Int), .int .u8 (m3.toNat : Int), .int .u8 (m4.toNat : Int), .int .u8 (m5.toNat : Int), .int .u8 (n0.toNat : Int), .int .u8 (n1.toNat : Int), .int .u8 (n2.toNat : Int), .int .u8 (n3.toNat : Int), .int .u8 (n4.toNat : Int), .int .u8 (n5.toNat : Int), .int .u16 (ty : Int), .string (bs ld)]] w (strPost (wrEther (m0, m1, m2, m3, m4, m5) (n0, n1, n2, n3, n4, n5) ty ld) w) := by
  have hpa := (Bk.new w 49 #[.int .u8 (m0.toNat : Int), .int .u8 (m1.toNat : Int), .int .u8 (m2.toNat : Int), .int .u8 (m3.toNat : Int), .int .u8 (m4.toNat : Int), .int .u8 (m5.toNat : Int), .int .u8 (n0.toNat : Int), .int .u8 (n1.toNat : Int), .int .u8 (n2.toNat : Int), .int .u8 (n3.toNat : Int), .int .u8 (n4.toNat : Int), .int .u8 (n5.toNat : Int), .int .u16 (ty : Int), .string (bs ld)]).alloc (.cells #[.slice none 0 0] 226)
  have hbw := Bk.new (w.alloc (.cells #[.int .u8 (m0.toNat : Int), .int .u8 (m1.toNat : Int), .int .u8 (m2.toNat : Int), .int .u8 (m3.toNat : Int), .int .u8 (m4.toNat : Int), .int .u8 (m5.toNat : Int), .int .u8 (n0.toNat : Int), .int .u8 (n1.toNat : Int), .int .u8 (n2.toNat : Int), .int .u8 (n3.toNat : Int), .int .u8 (n4.toNat : Int), .int .u8 (n5.toNat : Int), .int .u16 (ty : Int), .string (bs ld)] 49)) 226 #[.slice none 0 0]
  rw [show (w.alloc (.cells #[.int .u8 (m0.toNat : Int), .int .u8 (m1.toNat : Int), .int .u8 (m2.toNat : Int), .int .u8 (m3.toNat : Int), .int .u8 (m4.toNat : Int), .int .u8 (m5.toNat : Int), .int .u8 (n0.toNat : Int), .int .u8 (n1.toNat : Int), .int .u8 (n2.toNat : Int), .int .u8 (n3.toNat : Int), .int .u8 (n4.toNat : Int), .int .u8 (n5.toNat : Int), .int .u16 (ty : Int), .string (bs ld)] 49)).heap.size = w.heap.size + 1 by simp] at hbw
  have hpa0 := (Bk.new w 49 #[.int .u8 (m0.toNat : Int), .int .u8 (m1.toNat : Int), .int .u8 (m2.toNat : Int), .int .u8 (m3.toNat : Int), .int .u8 (m4.toNat : Int), .int .u8 (m5.toNat : Int), .int .u8 (n0.toNat : Int), .int .u8 (n1.toNat : Int), .int .u8 (n2.toNat : Int), .int .u8 (n3.toNat : Int), .int .u8 (n4.toNat : Int), .int .u8 (n5.toNat : Int), .int .u16 (ty : Int), .string (bs ld)]).cells
  go_enter Tryz.func104, Tryz.ntmps104
  by_cases h1 : ty < 1536
  · have hs : Hid (wrEther (m0, m1, m2, m3, m4, m5) (n0, n1, n2, n3, n4, n5) ty ld = ([], 3)) := by unfold Hid wrEther; rw [if_pos h1]
    have b1 : (ty : Int) < 1536 := by omega
    clear h1
    go_wp2_with fail
    go_ret2
    exact ⟨by rw [hs.out]; rfl, (Fr.refl _ _).alloc _⟩
  have b1 : ¬ (ty : Int) < 1536 := by omega
  by_cases h2 : 1500 < ld.length
  · have hs : Hid (wrEther (m0, m1, m2, m3, m4, m5) (n0, n1, n2, n3, n4, n5) ty ld = ([], 7)) := by unfold Hid wrEther; rw [if_neg h1, if_pos h2]
    have b2 : 1500 < (ld.length : Int) := by omega
    clear h1 h2
    go_wp2_with fail
    go_ret2
    exact ⟨by rw [hs.out]; rfl, (Fr.refl _ _).alloc _⟩
  have b2 : ¬ 1500 < (ld.length : Int) := by omega
  have hs : Hid (wrEther (m0, m1, m2, m3, m4, m5) (n0, n1, n2, n3, n4, n5) ty ld = (ethBytes (m0, m1, m2, m3, m4, m5) (n0, n1, n2, n3, n4, n5) ty ld, 0)) := by unfold Hid wrEther; rw [if_neg h1, if_neg h2]
  have hl2 : ld.length ≤ 1500 := by omega
  clear h1 h2
  go_upto_region 5 with fail
  go_cut [4] from 5 to 15 (fun q wx => q = .pointer (some ⟨w.heap.size + 1, 0, none⟩) ∧ wx = (w.alloc (.cells #[.int .u8 (m0.toNat : Int), .int .u8 (m1.toNat : Int), .int .u8 (m2.toNat : Int), .int .u8 (m3.toNat : Int), .int .u8 (m4.toNat : Int), .int .u8 (m5.toNat : Int), .int .u8 (n0.toNat : Int), .int .u8 (n1.toNat : Int), .int .u8 (n2.toNat : Int), .int .u8 (n3.toNat : Int), .int .u8 (n4.toNat : Int), .int .u8 (n5.toNat : Int), .int .u16 (ty : Int), .string (bs ld)] 49)).alloc (.cells #[.slice none 0 0] 226))
  case first =>
    go_wp2_with fail
    go_meet
    case rel => exact ⟨rfl, rfl⟩
  case rest =>
  obtain ⟨rfl, rfl⟩ := hcut
  clear hpa0
  go_upto_region 6 with fail
  have hf0 : Fr noB w ((w.alloc (.cells #[.int .u8 (m0.toNat : Int), .int .u8 (m1.toNat : Int), .int .u8 (m2.toNat : Int), .int .u8 (m3.toNat : Int), .int .u8 (m4.toNat : Int), .int .u8 (m5.toNat : Int), .int .u8 (n0.toNat : Int), .int .u8 (n1.toNat : Int), .int .u8 (n2.toNat : Int), .int .u8 (n3.toNat : Int), .int .u8 (n4.toNat : Int), .int .u8 (n5.toNat : Int), .int .u16 (ty : Int), .string (bs ld)] 49)).alloc (.cells #[.slice none 0 0] 226)) := ((Fr.refl _ _).alloc _).alloc _
  have hsz : ((w.alloc (.cells #[.int .u8 (m0.toNat : Int), .int .u8 (m1.toNat : Int), .int .u8 (m2.toNat : Int), .int .u8 (m3.toNat : Int), .int .u8 (m4.toNat : Int), .int .u8 (m5.toNat : Int), .int .u8 (n0.toNat : Int), .int .u8 (n1.toNat : Int), .int .u8 (n2.toNat : Int), .int .u8 (n3.toNat : Int), .int .u8 (n4.toNat : Int), .int .u8 (n5.toNat : Int), .int .u16 (ty : Int), .string (bs ld)] 49)).alloc (.cells #[.slice none 0 0] 226)).heap.size = w.heap.size + 2 := by simp
  generalize (w.alloc (.cells #[.int .u8 (m0.toNat : Int), .int .u8 (m1.toNat : Int), .int .u8 (m2.toNat : Int), .int .u8 (m3.toNat : Int), .int .u8 (m4.toNat : Int), .int .u8 (m5.toNat : Int), .int .u8 (n0.toNat : Int), .int .u8 (n1.toNat : Int), .int .u8 (n2.toNat : Int), .int .u8 (n3.toNat : Int), .int .u8 (n4.toNat : Int), .int .u8 (n5.toNat : Int), .int .u16 (ty : Int), .string (bs ld)] 49)).alloc (.cells #[.slice none 0 0] 226) = w1 at *
  have hwr0 := Wr.zero hbw
  obtain ⟨lst, Q0, Q1, Q2, Q3, Q4⟩ : ∃ lst : Nat → List UInt8, Hid (lst 0 = ([] : List UInt8)) ∧ Hid (lst 1 = lst 0 ++ List.flatMap macB [(m0, m1, m2, m3, m4, m5), (n0, n1, n2, n3, n4, n5)]) ∧ Hid (lst 2 = lst 1 ++ bigs 2 [(ty : Int)]) ∧ Hid (lst 3 = lst 2 ++ List.flatten [ld]) ∧ Hid (lst 4 = lst 3 ++ List.replicate (60 - (lst 3).length) 0) := by
    exact ⟨fun k => match k with | 0 => ([] : List UInt8) | 1 => (([] : List UInt8) ++ List.flatMap macB [(m0, m1, m2, m3, m4, m5), (n0, n1, n2, n3, n4, n5)]) | 2 => ((([] : List UInt8) ++ List.flatMap macB [(m0, m1, m2, m3, m4, m5), (n0, n1, n2, n3, n4, n5)]) ++ bigs 2 [(ty : Int)]) | 3 => (((([] : List UInt8) ++ List.flatMap macB [(m0, m1, m2, m3, m4, m5), (n0, n1, n2, n3, n4, n5)]) ++ bigs 2 [(ty : Int)]) ++ List.flatten [ld]) | _ => ((((([] : List UInt8) ++ List.flatMap macB [(m0, m1, m2, m3, m4, m5), (n0, n1, n2, n3, n4, n5)]) ++ bigs 2 [(ty : Int)]) ++ List.flatten [ld]) ++ List.replicate (60 - ((((([] : List UInt8) ++ List.flatMap macB [(m0, m1, m2, m3, m4, m5), (n0, n1, n2, n3, n4, n5)]) ++ bigs 2 [(ty : Int)]) ++ List.flatten [ld])).length) 0), rfl, rfl, rfl, rfl, rfl⟩
  have N0 : Hid ((lst 0).length ≤ 0) := by unfold Hid; rw [Q0.out]; simp
  have N1 : Hid ((lst 1).length ≤ 0 + (12)) := by have h0 := N0.out; have h1 : ((List.flatMap macB [(m0, m1, m2, m3, m4, m5), (n0, n1, n2, n3, n4, n5)] : List UInt8)).length ≤ 12 := (by simp [bigs_length, macB, big_length] <;> omega); unfold Hid; rw [Q1.out, List.length_append]; omega
  have N2 : Hid ((lst 2).length ≤ 0 + (12) + (2)) := by have h0 := N1.out; have h1 : ((bigs 2 [(ty : Int)] : List UInt8)).length ≤ 2 := (by simp [bigs_length, macB, big_length] <;> omega); unfold Hid; rw [Q2.out, List.length_append]; omega
  have N3 : Hid ((lst 3).length ≤ 0 + (12) + (2) + ((ld).length)) := by have h0 := N2.out; have h1 : ((List.flatten [ld] : List UInt8)).length ≤ (ld).length := (by simp [bigs_length, macB, big_length] <;> omega); unfold Hid; rw [Q3.out, List.length_append]; omega
  have N4 : Hid ((lst 4).length ≤ 0 + (12) + (2) + ((ld).length) + (60)) := by have h0 := N3.out; have h1 : ((List.replicate (60 - (lst 3).length) 0 : List UInt8)).length ≤ 60 := (by simp [bigs_length, macB, big_length] <;> omega); unfold Hid; rw [Q4.out, List.length_append]; omega
  obtain ⟨V, hV⟩ : ∃ V : Nat → Value, V = (fun j => match j with | 0 => .pointer (some ⟨(w.heap.size + 1), 0, none⟩) | 1 => .pointer (some ⟨w.heap.size, 0, none⟩) | 2 => .agg #[.int .u8 (m0.toNat : Int), .int .u8 (m1.toNat : Int), .int .u8 (m2.toNat : Int), .int .u8 (m3.toNat : Int), .int .u8 (m4.toNat : Int), .int .u8 (m5.toNat : Int)] | 3 => .pointer (some ⟨w.heap.size, 6, none⟩) | 4 => .agg #[.int .u8 (n0.toNat : Int), .int .u8 (n1.toNat : Int), .int .u8 (n2.toNat : Int), .int .u8 (n3.toNat : Int), .int .u8 (n4.toNat : Int), .int .u8 (n5.toNat : Int)] | 6 => .pointer (some ⟨(w.heap.size + 1), 0, none⟩) | 7 => .pointer (some ⟨w.heap.size, 12, none⟩) | 8 => .int .u16 (ty : Int) | 10 => .pointer (some ⟨(w.heap.size + 1), 0, none⟩) | 11 => .pointer (some ⟨w.heap.size, 13, none⟩) | 12 => .string (bs ld) | 14 => .pointer (some ⟨(w.heap.size + 1), 0, none⟩) | 15 => .pointer (some ⟨(w.heap.size + 1), 0, none⟩) | 16 => .string (bs (lst 4)) | 17 => .string (bs (lst 4)) | 18 => .int .i64 0 | _ => undef) := ⟨_, rfl⟩
  have v0 : V 0 = .pointer (some ⟨(w.heap.size + 1), 0, none⟩) := congrFun hV 0
  have v1 : V 1 = .pointer (some ⟨w.heap.size, 0, none⟩) := congrFun hV 1
  have v2 : V 2 = .agg #[.int .u8 (m0.toNat : Int), .int .u8 (m1.toNat : Int), .int .u8 (m2.toNat : Int), .int .u8 (m3.toNat : Int), .int .u8 (m4.toNat : Int), .int .u8 (m5.toNat : Int)] := congrFun hV 2
  have v3 : V 3 = .pointer (some ⟨w.heap.size, 6, none⟩) := congrFun hV 3
  have v4 : V 4 = .agg #[.int .u8 (n0.toNat : Int), .int .u8 (n1.toNat : Int), .int .u8 (n2.toNat : Int), .int .u8 (n3.toNat : Int), .int .u8 (n4.toNat : Int), .int .u8 (n5.toNat : Int)] := congrFun hV 4
  have v6 : V 6 = .pointer (some ⟨(w.heap.size + 1), 0, none⟩) := congrFun hV 6
  have v7 : V 7 = .pointer (some ⟨w.heap.size, 12, none⟩) := congrFun hV 7
  have v8 : V 8 = .int .u16 (ty : Int) := congrFun hV 8
  have v10 : V 10 = .pointer (some ⟨(w.heap.size + 1), 0, none⟩) := congrFun hV 10
  have v11 : V 11 = .pointer (some ⟨w.heap.size, 13, none⟩) := congrFun hV 11
  have v12 : V 12 = .string (bs ld) := congrFun hV 12
  have v14 : V 14 = .pointer (some ⟨(w.heap.size + 1), 0, none⟩) := congrFun hV 14
  have v15 : V 15 = .pointer (some ⟨(w.heap.size + 1), 0, none⟩) := congrFun hV 15
  have v16 : V 16 = .string (bs (lst 4)) := congrFun hV 16
  have v17 : V 17 = .string (bs (lst 4)) := congrFun hV 17
  have v18 : V 18 = .int .i64 0 := congrFun hV 18
  clear hV
  refine wp_region_ssau (by kernel_rfl) (by kernel_rfl) (by kernel_rfl)
    (fun u => ⟨#[.agg #[.int .u8 (m0.toNat : Int), .int .u8 (m1.toNat : Int), .int .u8 (m2.toNat : Int), .int .u8 (m3.toNat : Int), .int .u8 (m4.toNat : Int), .int .u8 (m5.toNat : Int), .int .u8 (n0.toNat : Int), .int .u8 (n1.toNat : Int), .int .u8 (n2.toNat : Int), .int .u8 (n3.toNat : Int), .int .u8 (n4.toNat : Int), .int .u8 (n5.toNat : Int), .int .u16 (ty : Int), .string (bs ld)], .pointer (some ⟨w.heap.size, 0, none⟩), u 17, u 18, .pointer (some ⟨(w.heap.size + 1), 0, none⟩), u5, u6, u7, u8, u9, u10, u11, u12, u13, u14, u15, u 0, u 1, u 2, u 3, u 4, u 5, u 6, u 7, u 8, u 9, u 10, u 11, u 12, u 13, u 14, u 15, u 16], []⟩)
    (fun j v w3 => if j = 5 then True else if j = 9 then True else if j = 13 then True else v = V j)
    (fun L u w3 => ∃ (c : Nat) (A : Option Addr), (L 6 = decide (0 < c) ∧ L 10 = decide (1 < c) ∧ L 14 = decide (2 < c) ∧ L 15 = decide (3 < c)) ∧ c ≤ 4 ∧ Chn w1 (w.heap.size + 1) w1.heap.size A (lst c) w3 ∧ AlS (L 5) (u 5) 2 26 #[.int .u8 (m0.toNat : Int), .int .u8 (m1.toNat : Int), .int .u8 (m2.toNat : Int), .int .u8 (m3.toNat : Int), .int .u8 (m4.toNat : Int), .int .u8 (m5.toNat : Int), .int .u8 (n0.toNat : Int), .int .u8 (n1.toNat : Int), .int .u8 (n2.toNat : Int), .int .u8 (n3.toNat : Int), .int .u8 (n4.toNat : Int), .int .u8 (n5.toNat : Int)] w1.heap.size A w3 ∧ AlS (L 9) (u 9) 1 47 #[.int .u16 (ty : Int)] w1.heap.size A w3 ∧ AlS (L 13) (u 13) 1 9 #[.string (bs ld)] w1.heap.size A w3) (fun j => if j = 17 then .string ⟨#[]⟩ else if j = 18 then .int .i64 0 else undef) ⟨0, none, ⟨rfl, rfl, rfl, rfl⟩, by omega, by rw [Q0.out]; exact Chn.start hwr0 rfl, AlS.false, AlS.false, AlS.false⟩ ?_ ?_
  · rintro L u w3 i o hG hΦ ho hL hd K hK
    match i, ho with
    | 0, ho =>
      simp at ho; subst ho
      clear hΦ hd
      go_simp
      exact hK _ _ v0.symm hG (fun _ _ _ h => h)
    | 1, ho =>
      simp at ho; subst ho
      clear hΦ hd
      go_simp
      exact hK _ _ v1.symm hG (fun _ _ _ h => h)
    | 2, ho =>
      simp at ho; subst ho
      have hu1 : u 1 = V 1 := hΦ 1 (hd ⟨1, .data⟩ (by simp) (by rfl))
      rw [v1] at hu1
      clear hΦ hd
      obtain ⟨c, A, ⟨e0, e1, e2, e3⟩, hcn, hch, s5, s9, s13⟩ := hG
      have hx : ∃ x, u = (upd x 1 (.pointer (some ⟨w.heap.size, 0, none⟩))) := ⟨u, by rw [← upd_self hu1]⟩
      clear hu1
      obtain ⟨x, rfl⟩ := hx
      simp only [upd, reduceIte, Nat.reduceEqDiff]
      have hc0 := ((hpa).keep hch.fr (by unfold oneB; omega)).cells
      go_simp
      exact hK _ _ v2.symm ⟨c, A, ⟨e0, e1, e2, e3⟩, hcn, hch, s5, s9, s13⟩ (fun _ _ _ h => h)
    | 3, ho =>
      simp at ho; subst ho
      clear hΦ hd
      go_simp
      exact hK _ _ v3.symm hG (fun _ _ _ h => h)
    | 4, ho =>
      simp at ho; subst ho
      have hu3 : u 3 = V 3 := hΦ 3 (hd ⟨3, .data⟩ (by simp) (by rfl))
      rw [v3] at hu3
      clear hΦ hd
      obtain ⟨c, A, ⟨e0, e1, e2, e3⟩, hcn, hch, s5, s9, s13⟩ := hG
      have hx : ∃ x, u = (upd x 3 (.pointer (some ⟨w.heap.size, 6, none⟩))) := ⟨u, by rw [← upd_self hu3]⟩
      clear hu3
      obtain ⟨x, rfl⟩ := hx
      simp only [upd, reduceIte, Nat.reduceEqDiff]
      have hc0 := ((hpa).keep hch.fr (by unfold oneB; omega)).cells
      go_simp
      exact hK _ _ v4.symm ⟨c, A, ⟨e0, e1, e2, e3⟩, hcn, hch, s5, s9, s13⟩ (fun _ _ _ h => h)
    | 5, ho =>
      simp at ho; subst ho
      have hu2 : u 2 = V 2 := hΦ 2 (hd ⟨2, .data⟩ (by simp) (by rfl))
      rw [v2] at hu2
      have hu4 : u 4 = V 4 := hΦ 4 (hd ⟨4, .data⟩ (by simp) (by rfl))
      rw [v4] at hu4
      clear hΦ hd
      obtain ⟨c, A, ⟨e0, e1, e2, e3⟩, hcn, hch, s5, s9, s13⟩ := hG
      have hx : ∃ x, u = (upd (upd x 2 (.agg #[.int .u8 (m0.toNat : Int), .int .u8 (m1.toNat : Int), .int .u8 (m2.toNat : Int), .int .u8 (m3.toNat : Int), .int .u8 (m4.toNat : Int), .int .u8 (m5.toNat : Int)])) 4 (.agg #[.int .u8 (n0.toNat : Int), .int .u8 (n1.toNat : Int), .int .u8 (n2.toNat : Int), .int .u8 (n3.toNat : Int), .int .u8 (n4.toNat : Int), .int .u8 (n5.toNat : Int)])) := ⟨u, by rw [← upd_self hu2, ← upd_self hu4]⟩
      clear hu2 hu4
      obtain ⟨x, rfl⟩ := hx
      simp only [upd, reduceIte, Nat.reduceEqDiff]
      go_simp
      exact hK _ _ trivial ⟨c, A, ⟨e0, e1, e2, e3⟩, hcn, hch.alloc _, AlS.new hch 2 26 #[.int .u8 (m0.toNat : Int), .int .u8 (m1.toNat : Int), .int .u8 (m2.toNat : Int), .int .u8 (m3.toNat : Int), .int .u8 (m4.toNat : Int), .int .u8 (m5.toNat : Int), .int .u8 (n0.toNat : Int), .int .u8 (n1.toNat : Int), .int .u8 (n2.toNat : Int), .int .u8 (n3.toNat : Int), .int .u8 (n4.toNat : Int), .int .u8 (n5.toNat : Int)], AlS.alloc s9 _, AlS.alloc s13 _⟩ (fun _ _ _ h => h)
    | 6, ho =>
      simp at ho; subst ho
      have hu0 : u 0 = V 0 := hΦ 0 (hd ⟨0, .data⟩ (by simp) (by rfl))
      rw [v0] at hu0
      have hl5 : L 5 = true := hd ⟨5, .data⟩ (by simp) (by rfl)
      clear hΦ hd
      obtain ⟨c, A, ⟨e0, e1, e2, e3⟩, hcn, hch, s5, s9, s13⟩ := hG
      have hck : c = 0 := by
        have h1 := hL.symm.trans e0
        simp at h1; omega
      subst hck
      obtain ⟨g5, hg5, hb5, hB5, hn5⟩ := s5 hl5
      have hx : ∃ x, u = (upd (upd x 0 (.pointer (some ⟨(w.heap.size + 1), 0, none⟩))) 5 (.slice (some ⟨g5, 0, none⟩) 2 2)) := ⟨u, by rw [← upd_self hu0, ← upd_self hg5]⟩
      clear hu0 hg5
      obtain ⟨x, rfl⟩ := hx
      simp only [upd, reduceIte, Nat.reduceEqDiff]
      go_simp
      refine (wMAC (w.heap.size + 1) A _ w3 g5 2 2 [(m0, m1, m2, m3, m4, m5), (n0, n1, n2, n3, n4, n5)] hch.wr (SlR.of_bk (n := 2) (size := 6) hb5 (AlS.not hch hB5 hn5) rfl) (by omega) (by have := N0.out; first | omega | (simp; omega))).mono ?_
      rintro e w4 ⟨rfl, hw4⟩
      obtain ⟨A', hch', hal⟩ := hch.call hw4
      exact hK _ _ v6.symm ⟨1, A', ⟨rfl, e1, e2, e3⟩, by omega, by rw [Q1.out]; exact hch', hal _ _ _ _ _ s5, hal _ _ _ _ _ s9, hal _ _ _ _ _ s13⟩ (fun _ _ _ h => h)
    | 7, ho =>
      simp at ho; subst ho
      clear hΦ hd
      go_simp
      exact hK _ _ v7.symm hG (fun _ _ _ h => h)
    | 8, ho =>
      simp at ho; subst ho
      have hu7 : u 7 = V 7 := hΦ 7 (hd ⟨7, .data⟩ (by simp) (by rfl))
      rw [v7] at hu7
      clear hΦ hd
      obtain ⟨c, A, ⟨e0, e1, e2, e3⟩, hcn, hch, s5, s9, s13⟩ := hG
      have hx : ∃ x, u = (upd x 7 (.pointer (some ⟨w.heap.size, 12, none⟩))) := ⟨u, by rw [← upd_self hu7]⟩
      clear hu7
      obtain ⟨x, rfl⟩ := hx
      simp only [upd, reduceIte, Nat.reduceEqDiff]
      have hc0 := ((hpa).keep hch.fr (by unfold oneB; omega)).cells
      go_simp
      exact hK _ _ v8.symm ⟨c, A, ⟨e0, e1, e2, e3⟩, hcn, hch, s5, s9, s13⟩ (fun _ _ _ h => h)
    | 9, ho =>
      simp at ho; subst ho
      have hu8 : u 8 = V 8 := hΦ 8 (hd ⟨8, .data⟩ (by simp) (by rfl))
      rw [v8] at hu8
      clear hΦ hd
      obtain ⟨c, A, ⟨e0, e1, e2, e3⟩, hcn, hch, s5, s9, s13⟩ := hG
      have hx : ∃ x, u = (upd x 8 (.int .u16 (ty : Int))) := ⟨u, by rw [← upd_self hu8]⟩
      clear hu8
      obtain ⟨x, rfl⟩ := hx
      simp only [upd, reduceIte, Nat.reduceEqDiff]
      go_simp
      exact hK _ _ trivial ⟨c, A, ⟨e0, e1, e2, e3⟩, hcn, hch.alloc _, AlS.alloc s5 _, AlS.new hch 1 47 #[.int .u16 (ty : Int)], AlS.alloc s13 _⟩ (fun _ _ _ h => h)
    | 10, ho =>
      simp at ho; subst ho
      have hu6 : u 6 = V 6 := hΦ 6 (hd ⟨6, .data⟩ (by simp) (by rfl))
      rw [v6] at hu6
      have hl9 : L 9 = true := hd ⟨9, .data⟩ (by simp) (by rfl)
      have hlc : L 6 = true := hd ⟨6, .chain⟩ (by simp) (by rfl)
      clear hΦ hd
      obtain ⟨c, A, ⟨e0, e1, e2, e3⟩, hcn, hch, s5, s9, s13⟩ := hG
      have hck : c = 1 := by
        have h1 := hL.symm.trans e1
        have h2 := hlc.symm.trans e0
        simp at h1 h2; omega
      subst hck
      obtain ⟨g9, hg9, hb9, hB9, hn9⟩ := s9 hl9
      have hx : ∃ x, u = (upd (upd x 6 (.pointer (some ⟨(w.heap.size + 1), 0, none⟩))) 9 (.slice (some ⟨g9, 0, none⟩) 1 1)) := ⟨u, by rw [← upd_self hu6, ← upd_self hg9]⟩
      clear hu6 hg9
      obtain ⟨x, rfl⟩ := hx
      simp only [upd, reduceIte, Nat.reduceEqDiff]
      go_simp
      refine (wU16 (w.heap.size + 1) A _ w3 _ 1 1 [(ty : Int)] hch.wr (SlR.of_bk (n := 1) (size := 1) hb9 (AlS.not hch hB9 hn9) rfl) (by intro x hx; simp at hx; omega) (by omega) (by have := N1.out; first | omega | (simp; omega))).mono ?_
      rintro e w4 ⟨rfl, hw4⟩
      obtain ⟨A', hch', hal⟩ := hch.call hw4
      exact hK _ _ v10.symm ⟨2, A', ⟨e0, rfl, e2, e3⟩, by omega, by rw [Q2.out]; exact hch', hal _ _ _ _ _ s5, hal _ _ _ _ _ s9, hal _ _ _ _ _ s13⟩ (fun _ _ _ h => h)
    | 11, ho =>
      simp at ho; subst ho
      clear hΦ hd
      go_simp
      exact hK _ _ v11.symm hG (fun _ _ _ h => h)
    | 12, ho =>
      simp at ho; subst ho
      have hu11 : u 11 = V 11 := hΦ 11 (hd ⟨11, .data⟩ (by simp) (by rfl))
      rw [v11] at hu11
      clear hΦ hd
      obtain ⟨c, A, ⟨e0, e1, e2, e3⟩, hcn, hch, s5, s9, s13⟩ := hG
      have hx : ∃ x, u = (upd x 11 (.pointer (some ⟨w.heap.size, 13, none⟩))) := ⟨u, by rw [← upd_self hu11]⟩
      clear hu11
      obtain ⟨x, rfl⟩ := hx
      simp only [upd, reduceIte, Nat.reduceEqDiff]
      have hc0 := ((hpa).keep hch.fr (by unfold oneB; omega)).cells
      go_simp
      exact hK _ _ v12.symm ⟨c, A, ⟨e0, e1, e2, e3⟩, hcn, hch, s5, s9, s13⟩ (fun _ _ _ h => h)
    | 13, ho =>
      simp at ho; subst ho
      have hu12 : u 12 = V 12 := hΦ 12 (hd ⟨12, .data⟩ (by simp) (by rfl))
      rw [v12] at hu12
      clear hΦ hd
      obtain ⟨c, A, ⟨e0, e1, e2, e3⟩, hcn, hch, s5, s9, s13⟩ := hG
      have hx : ∃ x, u = (upd x 12 (.string (bs ld))) := ⟨u, by rw [← upd_self hu12]⟩
      clear hu12
      obtain ⟨x, rfl⟩ := hx
      simp only [upd, reduceIte, Nat.reduceEqDiff]
      go_simp
      exact hK _ _ trivial ⟨c, A, ⟨e0, e1, e2, e3⟩, hcn, hch.alloc _, AlS.alloc s5 _, AlS.alloc s9 _, AlS.new hch 1 9 #[.string (bs ld)]⟩ (fun _ _ _ h => h)
    | 14, ho =>
      simp at ho; subst ho
      have hu10 : u 10 = V 10 := hΦ 10 (hd ⟨10, .data⟩ (by simp) (by rfl))
      rw [v10] at hu10
      have hl13 : L 13 = true := hd ⟨13, .data⟩ (by simp) (by rfl)
      have hlc : L 10 = true := hd ⟨10, .chain⟩ (by simp) (by rfl)
      clear hΦ hd
      obtain ⟨c, A, ⟨e0, e1, e2, e3⟩, hcn, hch, s5, s9, s13⟩ := hG
      have hck : c = 2 := by
        have h1 := hL.symm.trans e2
        have h2 := hlc.symm.trans e1
        simp at h1 h2; omega
      subst hck
      obtain ⟨g13, hg13, hb13, hB13, hn13⟩ := s13 hl13
      have hx : ∃ x, u = (upd (upd x 10 (.pointer (some ⟨(w.heap.size + 1), 0, none⟩))) 13 (.slice (some ⟨g13, 0, none⟩) 1 1)) := ⟨u, by rw [← upd_self hu10, ← upd_self hg13]⟩
      clear hu10 hg13
      obtain ⟨x, rfl⟩ := hx
      simp only [upd, reduceIte, Nat.reduceEqDiff]
      go_simp
      refine (wText (w.heap.size + 1) A _ w3 _ 1 1 [ld] hch.wr (SlR.of_bk (n := 1) (size := 1) hb13 (AlS.not hch hB13 hn13) rfl) (by omega) (by have := N2.out; first | omega | (simp; omega))).mono ?_
      rintro e w4 ⟨rfl, hw4⟩
      obtain ⟨A', hch', hal⟩ := hch.call hw4
      exact hK _ _ v14.symm ⟨3, A', ⟨e0, e1, rfl, e3⟩, by omega, by rw [Q3.out]; exact hch', hal _ _ _ _ _ s5, hal _ _ _ _ _ s9, hal _ _ _ _ _ s13⟩ (fun _ _ _ h => h)
    | 15, ho =>
      simp at ho; subst ho
      have hu14 : u 14 = V 14 := hΦ 14 (hd ⟨14, .data⟩ (by simp) (by rfl))
      rw [v14] at hu14
      have hlc : L 14 = true := hd ⟨14, .chain⟩ (by simp) (by rfl)
      clear hΦ hd
      obtain ⟨c, A, ⟨e0, e1, e2, e3⟩, hcn, hch, s5, s9, s13⟩ := hG
      have hck : c = 3 := by
        have h1 := hL.symm.trans e3
        have h2 := hlc.symm.trans e2
        simp at h1 h2; omega
      subst hck
      have hx : ∃ x, u = (upd x 14 (.pointer (some ⟨(w.heap.size + 1), 0, none⟩))) := ⟨u, by rw [← upd_self hu14]⟩
      clear hu14
      obtain ⟨x, rfl⟩ := hx
      simp only [upd, reduceIte, Nat.reduceEqDiff]
      go_simp
      refine (wZero (w.heap.size + 1) A _ w3 60 hch.wr (by omega) (by have := N3.out; first | omega | (simp; omega))).mono ?_
      rintro e w4 ⟨rfl, hw4⟩
      obtain ⟨A', hch', hal⟩ := hch.call hw4
      exact hK _ _ v15.symm ⟨4, A', ⟨e0, e1, e2, rfl⟩, by omega, by rw [Q4.out]; exact hch', hal _ _ _ _ _ s5, hal _ _ _ _ _ s9, hal _ _ _ _ _ s13⟩ (fun _ _ _ h => h)
    | 16, ho =>
      simp at ho; subst ho
      have hu15 : u 15 = V 15 := hΦ 15 (hd ⟨15, .data⟩ (by simp) (by rfl))
      rw [v15] at hu15
      have hlc : L 15 = true := hd ⟨15, .chain⟩ (by simp) (by rfl)
      clear hΦ hd
      obtain ⟨c, A, ⟨e0, e1, e2, e3⟩, hcn, hch, s5, s9, s13⟩ := hG
      have hck : c = 4 := by
        have h2 := hlc.symm.trans e3
        simp at h2; omega
      subst hck
      have hx : ∃ x, u = (upd x 15 (.pointer (some ⟨(w.heap.size + 1), 0, none⟩))) := ⟨u, by rw [← upd_self hu15]⟩
      clear hu15
      obtain ⟨x, rfl⟩ := hx
      simp only [upd, reduceIte, Nat.reduceEqDiff]
      go_simp
      refine (wString (w.heap.size + 1) _ _ _ hch.wr).mono ?_
      rintro e w4 ⟨rfl, rfl⟩
      exact hK _ _ v16.symm ⟨4, A, ⟨e0, e1, e2, e3⟩, hcn, hch, s5, s9, s13⟩ (fun _ _ _ h => h)
    | 17, ho =>
      simp at ho; subst ho
      have hu16 : u 16 = V 16 := hΦ 16 (hd ⟨16, .data⟩ (by simp) (by rfl))
      rw [v16] at hu16
      clear hΦ hd
      have hx : ∃ x, u = (upd x 16 (.string (bs (lst 4)))) := ⟨u, by rw [← upd_self hu16]⟩
      clear hu16
      obtain ⟨x, rfl⟩ := hx
      simp only [upd, reduceIte, Nat.reduceEqDiff]
      go_simp
      exact hK _ _ v17.symm hG (fun _ _ _ h => h)
    | 18, ho =>
      simp at ho; subst ho
      clear hΦ hd
      go_simp
      exact hK _ _ v18.symm hG (fun _ _ _ h => h)
  · rintro u w3 hu L hall hG
    obtain ⟨c, A, ⟨e0, e1, e2, e3⟩, hcn, hch, s5, s9, s13⟩ := hG
    have h17 : u 17 = V 17 := hu 17 (by simp)
    rw [v17] at h17
    have h18 : u 18 = V 18 := hu 18 (by simp)
    rw [v18] at h18
    clear hu
    rw [h17, h18]
    have hby : lst 4 = ethBytes (m0, m1, m2, m3, m4, m5) (n0, n1, n2, n3, n4, n5) ty ld := by
      have h3 : lst 3 = ethBody (m0, m1, m2, m3, m4, m5) (n0, n1, n2, n3, n4, n5) ty ld := by rw [Q3.out, Q2.out, Q1.out, Q0.out]; exact eth_lst _ _ _ _
      rw [Q4.out, h3]; rfl
    rw [hby]
    have hfr := hf0.trans' hch.fr (fun b hb e => by unfold oneB at e; omega)
    skip
    clear hby
    generalize ethBytes (m0, m1, m2, m3, m4, m5) (n0, n1, n2, n3, n4, n5) ty ld = R at *
    go_wp2_with fail
    go_ret2
    exact ⟨by rw [hs.out]; rfl, hfr⟩
end Go.Proofs.YtcbkaiakdhiloacGreatDoor
namespace Go.Proofs.YtcbkaiakdhiloacGreatDoor
open Go.RowKit Go.Proofs
attribute [local go_sem] bs_size bs_append bs_sub bs_toList
def arpBytes (op : Nat) (fm : Mac) (fi : Nat) (tm : Mac) (ti : Nat) : List UInt8 := [0, 1, 8, 0, 6, 4] ++ big 2 op ++ macB fm ++ big 4 fi ++ macB tm ++ big 4 ti
def wrARP (op : Nat) (fm : Mac) (fi : Nat) (tm : Mac) (ti : Nat) : List UInt8 × Nat := if op = 1 ∨ op = 2 then (arpBytes op fm fi tm ti, 0) else ([], 2)
end Go.Proofs.YtcbkaiakdhiloacGreatDoor
namespace Go.Proofs.YtcbkaiakdhiloacGreatDoor
open Go.RowKit Go.Proofs
def strs (l : List (List UInt8)) : List Value := l.map fun p => .string (bs p)
theorem strs_length (l : List (List UInt8)) : (strs l).length = l.length := by simp [strs]
theorem strs_get (l : List (List UInt8)) (k : Nat) (hk : k < l.length) : (strs l)[k]? = some (.string (bs l[k])) := by simp [strs, hk]
def CkRel (st : Bool × Nat) (o s : Value) : Prop := o = .bool st.1 ∧ s = .int .u32 (st.2 : Int)
theorem ret_u16 {a b : Int} (h : a = b) : Ending.returned (.int .u16 a) = .returned (.int .u16 b) := by rw [h]
theorem ck_tail (y : Nat) (hy : y < 200000) : (bits .and .u32 (y : Int) 65535 + (y : Int) / 65536) % 4294967296 = ((y % 65536 + y / 65536 : Nat) : Int) := by
  have h := u32_and_nat y 65535 (by omega) (by omega)
  rw [nat_mask16] at h
  rw [show (65535 : Int) = ((65535 : Nat) : Int) from rfl, h]; omega
theorem ck_false (s : Nat) (b : UInt8) (hs : s ≤ 65535) : CkRel (ckStep (false, s) b) (.bool true)
    (.int .u32 ((bits .and .u32 (((s : Int) + (b.toNat : Int) % 4294967296 * 256) % 4294967296) 65535 + ((s : Int) + (b.toNat : Int) % 4294967296 * 256) % 4294967296 / 65536) % 4294967296)) := by
  have hb := b.toNat_lt
  have e : ((s : Int) + (b.toNat : Int) % 4294967296 * 256) % 4294967296 = ((s + b.toNat * 256 : Nat) : Int) := by omega
  rw [e, ck_tail _ (by omega)]
  exact ⟨rfl, by simp [ckStep]⟩
theorem ck_true (s : Nat) (b : UInt8) (hs : s ≤ 65535) : CkRel (ckStep (true, s) b) (.bool false)
    (.int .u32 ((bits .and .u32 (((s : Int) + (b.toNat : Int)) % 4294967296) 65535 + ((s : Int) + (b.toNat : Int)) % 4294967296 / 65536) % 4294967296)) := by
  have hb := b.toNat_lt
  have e : ((s : Int) + (b.toNat : Int)) % 4294967296 = ((s + b.toNat : Nat) : Int) := by omega
  rw [e, ck_tail _ (by omega)]
  exact ⟨rfl, by simp [ckStep]⟩
theorem ck_end (l : List UInt8) : bits .xor .u16 IntKind.u16.max (IntKind.u16.wrap ((ck l).2 : Int)) = (check l : Int) := by
  have h := ck_le l
  rw [IntKind.wrap_u16, show IntKind.u16.max = ((65535 : Nat) : Int) from rfl, show ((ck l).2 : Int) % 65536 = (((ck l).2 : Nat) : Int) by omega, u16_xor_nat _ _ (by omega) (by omega), xor_max16 _ (by omega), ck_check]
theorem hashCheck_any (A : Option Addr) (n c : Nat) (ps : List (List UInt8)) (w : World) (S : Nat → Prop) (hr : SlR w S 1 A n (strs ps)) (hn : n ≤ 9223372036854775807) (hz : ∀ p ∈ ps, p.length ≤ 9223372036854775807) :
    Calls Tryz.prog 92 #[.slice A n c] w fun e w' => e = .returned (.int .u16 (check ps.flatten)) ∧ w = w' := by
  have hlen : ps.length = n := by have := hr.1; rw [strs_length] at this; omega
  go_enter Tryz.func92, Tryz.ntmps92
  go_wp2_with fail
  go_loop [3, 4, 11] (fun s o i => ∃ k : Nat, k ≤ n ∧ i = .int .i64 k ∧ CkRel (ck (ps.take k).flatten) o s) (fun _ _ i => n - (intOf i).toNat)
  case atStart => exact ⟨0, Nat.zero_le _, rfl, rfl, rfl⟩
  case round =>
    obtain ⟨k, hk, rfl, rfl, rfl⟩ := hrel
    by_cases hlt : k < n
    · obtain ⟨ad, u, rfl, hu, hc⟩ := hr.at_ hlt
      rw [strs_get ps k (by omega)] at hu
      have hp : ps[k].length ≤ 9223372036854775807 := hz _ (List.getElem_mem _)
      injection hu with hu
      subst hu
      have hp0 : ((ps.take k).flatten ++ ps[k].take 0) = (ps.take k).flatten := by simp
      generalize hpk : ps[k] = p at *
      have Hpk := Lib.hid hpk
      clear hpk
      generalize hpre : (ps.take k).flatten = pre at *
      have Hpre := Lib.hid hpre
      have Hp0 := Lib.hid hp0
      clear hpre hp0
      have hbz := bs_size p
      go_wp2_with fail
      go_loop [3, 4, 17] (fun s o i => ∃ j : Nat, j ≤ p.length ∧ i = .int .i64 j ∧ CkRel (ck (pre ++ p.take j)) o s) (fun _ _ i => p.length - (intOf i).toNat)
      case atStart => exact ⟨0, Nat.zero_le _, rfl, by rw [Hp0.out]; exact ⟨rfl, rfl⟩⟩
      case round =>
        obtain ⟨j, hj, rfl, rfl, rfl⟩ := hrel
        by_cases hlj : j < p.length
        · have hck := ck_le (pre ++ p.take j)
          have hsn : ck (pre ++ p.take (j + 1)) = ckStep (ck (pre ++ p.take j)) p[j] := by
            rw [List.take_succ_eq_append_getElem hlj, ← List.append_assoc, ck_snoc]
          have Hsn := Lib.hid hsn
          clear hsn
          generalize hst : ck (pre ++ p.take j) = st at *
          have Hst := Lib.hid hst
          clear hst
          obtain ⟨o, s⟩ := st
          cases o
          · go_wp2_with fail
            go_round
            case rel => exact ⟨j + 1, by omega, by go_num, by rw [Hsn.out, bs_get]; exact ck_false s _ hck⟩
            case measure => simp [intOf]; omega
          · go_wp2_with fail
            go_round
            case rel => exact ⟨j + 1, by omega, by go_num, by rw [Hsn.out, bs_get]; exact ck_true s _ hck⟩
            case measure => simp [intOf]; omega
        · go_wp2_with fail
          obtain rfl : j = p.length := by omega
          refine ⟨⟨k + 1, by omega, by go_num, ?_⟩, by simp [intOf]; omega⟩
          have e : (ps.take (k + 1)).flatten = pre ++ p.take p.length := by
            rw [List.take_succ_eq_append_getElem (by omega), List.flatten_append, Hpre.out, Hpk.out]; simp
          rw [e]; exact ⟨rfl, rfl⟩
    · go_wp2_with fail
      go_ret
      obtain rfl : k = n := by omega
      refine ⟨ret_u16 ?_, rfl⟩
      rw [ck_end, List.take_of_length_le (by omega)]
end Go.Proofs.YtcbkaiakdhiloacGreatDoor
