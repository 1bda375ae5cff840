/- The walks of octets.Reader: bytes that are read one behind the other; what cannot be read panics with a fault. -/
import Derived.Test.YtcbkaiakdhiloabDoorMem
import Derived.Test.YtcbkaiakdhiloabDoorFmt
import Derived.Test.YtcbkaiakdhiloabDoorOctW
import Derived.Test.YtcbkaiakdhiloabDoorRefW
import Derived.Test.YtcbkaiakdhiloabDoorReg
import Derived.Lib.ConvBytes
import Derived.Lib.LazyBuf
set_option linter.unusedSimpArgs false
set_option linter.unusedVariables false
namespace Go.Proofs.YtcbkaiakdhiloabDoor
open Go.RowKit Go.Proofs

attribute [local go_sem] bs_size bs_append bs_extract

/-- what a reader panics with -/
def faultC (e : Int) : List PanicEntry := [{ v := .iface 106 (.agg #[.int .i64 e]), recovered := false }]
/-- The reader at block p has the bytes l still to be read. -/
def Rd (w : World) (p : Nat) (l : List UInt8) : Prop := Bk w p 108 #[.string (bs l)]
/-- What a reader's method leaves: n bytes are taken, or there are too few. -/
def Took (p : Nat) (l : List UInt8) (n : Nat) (w : World) (v : Value) (e : Ending) (w' : World) : Prop :=
  (n ≤ l.length ∧ e = .returned v ∧ Rd w' p (l.drop n) ∧ Fr (oneB p) w w') ∨ (l.length < n ∧ e = .panicked (faultC 1) ∧ Fr (oneB p) w w')

theorem fail_any (e : Int) (w : World) : Calls Tryd.prog 60 #[.int .i64 e] w fun x w' => x = .panicked (faultC e) ∧ w = w' := by
  go_enter Tryd.func60, Tryd.ntmps60
  go_wp2
  exact ⟨rfl, rfl, rfl⟩
theorem must_yes (e : Int) (w : World) : Calls Tryd.prog 39 #[.bool true, .int .i64 e] w fun x w' => x = .returned (.tuple #[]) ∧ w = w' := by
  go_enter Tryd.func39, Tryd.ntmps39
  go_wp2_with fail
  go_end0
  exact ⟨rfl, rfl⟩
theorem must_no (e : Int) (w : World) : Calls Tryd.prog 39 #[.bool false, .int .i64 e] w fun x w' => x = .panicked (faultC e) ∧ w = w' := by
  go_enter Tryd.func39, Tryd.ntmps39
  go_wp2_with fail
  refine (fail_any e _).mono ?_
  rintro x w1 ⟨rfl, rfl⟩
  exact ⟨rfl, rfl, rfl⟩
/-- 'Must', whatever is asked -/
def MustPost (b : Bool) (e : Int) (w : World) (x : Ending) (w' : World) : Prop := (b = true ∧ x = .returned (.tuple #[]) ∧ w = w') ∨ (b = false ∧ x = .panicked (faultC e) ∧ w = w')
theorem must_any (b : Bool) (e : Int) (w : World) : Calls Tryd.prog 39 #[.bool b, .int .i64 e] w (MustPost b e w) := by
  cases b
  · exact (must_no e w).mono fun x w' h => .inr ⟨rfl, h⟩
  · exact (must_yes e w).mono fun x w' h => .inl ⟨rfl, h⟩

theorem rTake (n : Nat) (p : Nat) (l : List UInt8) (w : World) (hR : Rd w p l) (hn : n ≤ 9223372036854775807) (hl : l.length ≤ 9223372036854775807) :
    Calls Tryd.prog 43 #[.pointer (some ⟨p, 0, none⟩), .int .i64 n] w (Took p l n w (.string (bs (l.take n)))) := by
  have hc0 : w.cell? ⟨p, 0, none⟩ = some (.string (bs l)) := by simpa using Bk.cell hR 0
  have hf0 := Bk.free hR 0
  by_cases h : n ≤ l.length
  · have hd : decide (n ≤ l.length) = true := by simpa using h
    go_enter Tryd.func43, Tryd.ntmps43
    go_wp2_with fail
    refine (must_yes 1 _).mono ?_
    rintro x w1 ⟨rfl, rfl⟩
    go_wp2_with fail
    go_ret
    refine .inl ⟨h, ?_, ?_, ?_⟩
    · simp
    · have hs := Bk.set hR 0 (.string (bs (l.drop n)))
      simpa [Rd] using hs
    · exact (Fr.refl (oneB p) w).setCell (p := ⟨p, 0, none⟩) (fun _ => rfl) _
  · go_enter Tryd.func43, Tryd.ntmps43
    go_wp2_with fail
    refine (must_no 1 _).mono ?_
    rintro x w1 ⟨rfl, rfl⟩
    exact ⟨rfl, .inr ⟨by omega, rfl, Fr.refl _ _⟩⟩

theorem num_gen : ∀ (l : List UInt8) (a : Nat), l.foldl (fun n b => 256 * n + b.toNat) a < (a + 1) * 256 ^ l.length
  | [], a => by simp
  | b :: r, a => by
    have hb := b.toNat_lt
    have h := num_gen r (256 * a + b.toNat)
    rw [List.foldl_cons, List.length_cons, Nat.pow_succ]
    have h2 : (256 * a + b.toNat + 1) * 256 ^ r.length ≤ ((a + 1) * 256) * 256 ^ r.length := Nat.mul_le_mul_right _ (by omega)
    have h3 : (a + 1) * (256 ^ r.length * 256) = ((a + 1) * 256) * 256 ^ r.length := by rw [Nat.mul_comm (256 ^ r.length), Nat.mul_assoc]
    omega
theorem num_le (l : List UInt8) : num l < 256 ^ l.length := by
  have h := num_gen l 0; simpa [num] using h
theorem or_byte (x : Nat) (b : UInt8) (hx : x < 16777216) : bits .or .u32 ((x : Int) * 256) ((b.toNat : Int) % 4294967296) = ((256 * x + b.toNat : Nat) : Int) := by
  have hb := b.toNat_lt
  rw [show (x : Int) * 256 = ((x * 256 : Nat) : Int) by omega, show (b.toNat : Int) % 4294967296 = ((b.toNat : Nat) : Int) by omega, u32_or_nat _ _ (by omega) (by omega),
    nat_join 8 (x * 256) b.toNat (by omega) (by omega)]
  omega
set_option maxRecDepth 20000 in
set_option maxHeartbeats 1000000 in
theorem rNum (n : Nat) (p : Nat) (l : List UInt8) (w : World) (hR : Rd w p l) (hn : n ≤ 4) (hl : l.length ≤ 9223372036854775807) :
    Calls Tryd.prog 65 #[.pointer (some ⟨p, 0, none⟩), .int .i64 n] w (Took p l n w (.int .u32 (num (l.take n)))) := by
  have hp := Bk.lt hR
  go_enter Tryd.func65, Tryd.ntmps65
  go_wp2_with fail
  refine (rTake n p l _ hR (by omega) hl).mono ?_
  rintro e w1 (⟨hle, rfl, hR1, hf1⟩ | ⟨hlt, rfl, hf1⟩)
  · have hcv := Go.Lib.run_convert_string_bytes (P := Tryd.prog) w1 9 43 5 (bs (l.take n)) Tryd.underlying9 Tryd.underlying43 Tryd.underlying5
    have hlen : (l.take n).length = n := by rw [List.length_take]; omega
    have hcell : ∀ j, j < n → (Go.Lib.bytesWorld w1 5 (bs (l.take n))).cell? ⟨w1.heap.size, j, none⟩ = some (.int .u8 (((l.take n).getD j 0).toNat : Int)) := by
      intro j hj
      have h := Go.Lib.bytesWorld_cell w1 5 (bs (l.take n)) j (by rw [bs_size]; omega)
      rw [bs_list] at h; exact h
    have hfb : Fr noB w1 (Go.Lib.bytesWorld w1 5 (bs (l.take n))) := by
      refine ⟨rfl, rfl, rfl, ?_, fun k hk _ => Go.Lib.bytesWorld_at_old w1 _ _ k hk⟩
      rw [Go.Lib.bytesWorld_size]; omega
    have Htk : ∀ j, j < n → Hid (num ((l.take n).take (j + 1)) = 256 * num ((l.take n).take j) + ((l.take n).getD j 0).toNat) := by
      intro j hj; unfold Hid
      rw [List.take_succ_eq_append_getElem (by omega), num_snoc]
      simp [List.getD, hlen, hj]
    have Hbd : ∀ j, j < n → num ((l.take n).take j) < 16777216 := by
      intro j hj
      have h := num_le ((l.take n).take j)
      have h2 : ((l.take n).take j).length ≤ 3 := by rw [List.length_take]; omega
      have h3 : 256 ^ ((l.take n).take j).length ≤ 256 ^ 3 := Nat.pow_le_pow_right (by omega) h2
      omega
    have Hl := Lib.hid hlen
    have Hfull : Hid ((l.take n).take n = l.take n) := by unfold Hid; rw [List.take_of_length_le (by omega)]
    have hsz : (bs (l.take n)).size = n := by rw [bs_size]; exact hlen
    clear hlen
    generalize Go.Lib.bytesWorld w1 5 (bs (l.take n)) = w2 at *
    generalize l.take n = t at *
    generalize w1.heap.size = g at *
    go_wp2_with fail
    go_loop [5, 13] (fun x i => ∃ j : Nat, j ≤ n ∧ i = .int .i64 j ∧ x = .int .u32 (num (t.take j) : Int)) (fun _ i => n - (intOf i).toNat)
    case atStart => exact ⟨0, by omega, rfl, rfl⟩
    case round =>
      obtain ⟨j, hj, rfl, rfl⟩ := hrel
      by_cases hlt : j < n
      · have hc := hcell j hlt
        have hbd := Hbd j hlt
        have htk := Htk j hlt
        have hor := or_byte (num (t.take j)) (t.getD j 0) hbd
        clear hcell Hbd Htk
        generalize t.getD j 0 = b at *
        generalize num (t.take j) = x at *
        go_wp2_with fail
        go_round
        case rel => exact ⟨j + 1, by omega, by go_num, by rw [htk.out] <;> go_num⟩
        case measure => simp [intOf]; omega
      · clear hcell Hbd Htk
        go_wp2_with fail
        go_ret
        obtain rfl : j = n := by omega
        rw [Hfull.out]
        exact .inl ⟨hle, rfl, Bk.keep hR1 hfb (fun x => x), hf1.none hfb⟩
  · exact ⟨rfl, .inr ⟨hlt, rfl, hf1⟩⟩

theorem rU8 (p : Nat) (l : List UInt8) (w : World) (hR : Rd w p l) (hl : l.length ≤ 9223372036854775807) :
    Calls Tryd.prog 40 #[.pointer (some ⟨p, 0, none⟩)] w (Took p l 1 w (.int .u8 (num (l.take 1)))) := by
  have hb : num (l.take 1) < 256 := by
    have h := num_le (l.take 1)
    have h2 : (l.take 1).length ≤ 1 := by rw [List.length_take]; omega
    have h3 : 256 ^ (l.take 1).length ≤ 256 ^ 1 := Nat.pow_le_pow_right (by omega) h2
    omega
  go_enter Tryd.func40, Tryd.ntmps40
  go_wp2_with fail
  refine (rNum 1 p l _ hR (by omega) hl).mono ?_
  rintro e w1 (⟨hle, rfl, hR1, hf1⟩ | ⟨hlt, rfl, hf1⟩)
  · generalize num (l.take 1) = x at *
    have hx : IntKind.u8.wrap (x : Int) = x := by rw [IntKind.wrap_u8']; omega
    go_wp2_with fail
    go_ret
    exact .inl ⟨hle, rfl, hR1, hf1⟩
  · exact ⟨rfl, .inr ⟨hlt, rfl, hf1⟩⟩
theorem rU16 (p : Nat) (l : List UInt8) (w : World) (hR : Rd w p l) (hl : l.length ≤ 9223372036854775807) :
    Calls Tryd.prog 41 #[.pointer (some ⟨p, 0, none⟩)] w (Took p l 2 w (.int .u16 (num (l.take 2)))) := by
  have hb : num (l.take 2) < 65536 := by
    have h := num_le (l.take 2)
    have h2 : (l.take 2).length ≤ 2 := by rw [List.length_take]; omega
    have h3 : 256 ^ (l.take 2).length ≤ 256 ^ 2 := Nat.pow_le_pow_right (by omega) h2
    omega
  go_enter Tryd.func41, Tryd.ntmps41
  go_wp2_with fail
  refine (rNum 2 p l _ hR (by omega) hl).mono ?_
  rintro e w1 (⟨hle, rfl, hR1, hf1⟩ | ⟨hlt, rfl, hf1⟩)
  · generalize num (l.take 2) = x at *
    have hx : IntKind.u16.wrap (x : Int) = x := by rw [IntKind.wrap_u16]; omega
    go_wp2_with fail
    go_ret
    exact .inl ⟨hle, rfl, hR1, hf1⟩
  · exact ⟨rfl, .inr ⟨hlt, rfl, hf1⟩⟩
theorem rIP (p : Nat) (l : List UInt8) (w : World) (hR : Rd w p l) (hl : l.length ≤ 9223372036854775807) :
    Calls Tryd.prog 42 #[.pointer (some ⟨p, 0, none⟩)] w (Took p l 4 w (.int .u32 (num (l.take 4)))) := by
  go_enter Tryd.func42, Tryd.ntmps42
  go_wp2_with fail
  refine (rNum 4 p l _ hR (by omega) hl).mono ?_
  rintro e w1 (⟨hle, rfl, hR1, hf1⟩ | ⟨hlt, rfl, hf1⟩)
  · generalize num (l.take 4) = x at *
    go_wp2_with fail
    go_ret
    exact .inl ⟨hle, rfl, hR1, hf1⟩
  · exact ⟨rfl, .inr ⟨hlt, rfl, hf1⟩⟩
theorem rTake_ok (n : Nat) (p : Nat) (l : List UInt8) (w : World) (hR : Rd w p l) (hn : n ≤ l.length) (hl : l.length ≤ 9223372036854775807) :
    Calls Tryd.prog 43 #[.pointer (some ⟨p, 0, none⟩), .int .i64 n] w fun e w' => e = .returned (.string (bs (l.take n))) ∧ Rd w' p (l.drop n) ∧ Fr (oneB p) w w' :=
  (rTake n p l w hR (by omega) hl).mono fun e w' h => by
    rcases h with ⟨_, h⟩ | ⟨h, _⟩
    · exact h
    · omega
theorem rTake_no (n : Nat) (p : Nat) (l : List UInt8) (w : World) (hR : Rd w p l) (hn : l.length < n) (hn2 : n ≤ 9223372036854775807) :
    Calls Tryd.prog 43 #[.pointer (some ⟨p, 0, none⟩), .int .i64 n] w fun e w' => e = .panicked (faultC 1) ∧ Fr (oneB p) w w' :=
  (rTake n p l w hR hn2 (by omega)).mono fun e w' h => by
    rcases h with ⟨h, _⟩ | ⟨_, h⟩
    · omega
    · exact h

def macOf (l : List UInt8) : Mac := (l.getD 0 0, l.getD 1 0, l.getD 2 0, l.getD 3 0, l.getD 4 0, l.getD 5 0)
theorem u8_size (w : World) : (Go.sizeOf 5).run Tryd.prog w = .ok 1 w := by
  obtain ⟨i0, hi0, hz0, hz1, hz2⟩ := info_parts u8_info
  simp [Go.sizeOf, typeInfo, hi0, hz1]
theorem copy6 (w : World) (g : Nat) (t : TypeId) (c0 c1 c2 c3 c4 c5 : Value) (a b c d e f : UInt8) (hb : Bk w g t #[c0, c1, c2, c3, c4, c5]) :
    ∃ w', (Builtin.copy_ #[43, 9] 3 #[.slice (some ⟨g, 0, none⟩) 6 6, .string (bs [a, b, c, d, e, f])]).run Tryd.prog w = .ok (.int .i64 6) w' ∧
      Bk w' g t #[.int .u8 (a.toNat : Int), .int .u8 (b.toNat : Int), .int .u8 (c.toNat : Int), .int .u8 (d.toNat : Int), .int .u8 (e.toNat : Int), .int .u8 (f.toNat : Int)] ∧ Fr (oneB g) w w' := by
  have hz : (bs [a, b, c, d, e, f]).size = 6 := by rw [bs_size]; rfl
  have h := run_copy_string (P := Tryd.prog) w 43 9 3 5 g 0 6 6 (bs [a, b, c, d, e, f]) Tryd.underlying43 u8_size (by rw [hz]; omega)
    (by
      intro j hj; rw [hz] at hj
      have h := hb.cell (0 + j)
      rw [h]
      match j, hj with
      | 0, _ | 1, _ | 2, _ | 3, _ | 4, _ | 5, _ => rfl)
    (fun j _ => hb.free _)
  rw [hz, bs_list] at h
  refine ⟨_, h, ?_, ?_⟩
  · simp only [List.map, World.setCells]
    have h0 := ((((((hb.set 0 (.int .u8 (a.toNat : Int))).set 1 (.int .u8 (b.toNat : Int))).set 2 (.int .u8 (c.toNat : Int))).set 3 (.int .u8 (d.toNat : Int))).set 4 (.int .u8 (e.toNat : Int))).set 5 (.int .u8 (f.toNat : Int)))
    simpa using h0
  · simp only [List.map, World.setCells]
    exact ((((((Fr.refl (oneB g) w).setCell (p := ⟨g, _, none⟩) (fun _ => rfl) _).setCell (p := ⟨g, _, none⟩) (fun _ => rfl) _).setCell (p := ⟨g, _, none⟩) (fun _ => rfl) _).setCell (p := ⟨g, _, none⟩) (fun _ => rfl) _).setCell (p := ⟨g, _, none⟩) (fun _ => rfl) _).setCell (p := ⟨g, _, none⟩) (fun _ => rfl) _
theorem Bk.six {w : World} {g : Nat} {t : TypeId} {c0 c1 c2 c3 c4 c5 : Value} (h : Bk w g t #[c0, c1, c2, c3, c4, c5]) :
    w.cell? ⟨g, 0, none⟩ = some c0 ∧ w.cell? ⟨g, 1, none⟩ = some c1 ∧ w.cell? ⟨g, 2, none⟩ = some c2 ∧ w.cell? ⟨g, 3, none⟩ = some c3 ∧ w.cell? ⟨g, 4, none⟩ = some c4 ∧ w.cell? ⟨g, 5, none⟩ = some c5 :=
  ⟨h.cell 0, h.cell 1, h.cell 2, h.cell 3, h.cell 4, h.cell 5⟩
theorem Bk.free6 {w : World} {g : Nat} {t : TypeId} {cs : Array Value} (h : Bk w g t cs) :
    w.frozen? ⟨g, 0, none⟩ = false ∧ w.frozen? ⟨g, 1, none⟩ = false ∧ w.frozen? ⟨g, 2, none⟩ = false ∧ w.frozen? ⟨g, 3, none⟩ = false ∧ w.frozen? ⟨g, 4, none⟩ = false ∧ w.frozen? ⟨g, 5, none⟩ = false :=
  ⟨h.free 0, h.free 1, h.free 2, h.free 3, h.free 4, h.free 5⟩
def zero6 : Array Value := #[.int .u8 0, .int .u8 0, .int .u8 0, .int .u8 0, .int .u8 0, .int .u8 0]

def Cut (l a r : List UInt8) (n : Nat) : Prop := l = a ++ r ∧ a.length = n
/-- n bytes are taken (a, and r is left), or there are too few. -/
def Takes (p : Nat) (l : List UInt8) (n : Nat) (w : World) (v : List UInt8 → Value) (e : Ending) (w' : World) : Prop :=
  (∃ a r, Cut l a r n ∧ r.length ≤ 9223372036854775807 ∧ e = .returned (v a) ∧ Rd w' p r ∧ Fr (oneB p) w w') ∨ (l.length < n ∧ e = .panicked (faultC 1) ∧ Fr (oneB p) w w')
theorem Took.takes {p : Nat} {l : List UInt8} {n : Nat} {w w' : World} {v : List UInt8 → Value} {e : Ending} (hl : l.length ≤ 9223372036854775807) (h : Took p l n w (v (l.take n)) e w') : Takes p l n w v e w' := by
  rcases h with ⟨h1, h2, h3, h4⟩ | h
  · exact .inl ⟨l.take n, l.drop n, ⟨(List.take_append_drop n l).symm, by rw [List.length_take]; omega⟩, by rw [List.length_drop]; omega, h2, h3, h4⟩
  · exact .inr h
theorem tTake (n p : Nat) (l : List UInt8) (w : World) (hR : Rd w p l) (hn : n ≤ 9223372036854775807) (hl : l.length ≤ 9223372036854775807) :
    Calls Tryd.prog 43 #[.pointer (some ⟨p, 0, none⟩), .int .i64 n] w (Takes p l n w fun a => .string (bs a)) :=
  (rTake n p l w hR hn hl).mono fun _ _ h => h.takes hl
theorem tU8 (p : Nat) (l : List UInt8) (w : World) (hR : Rd w p l) (hl : l.length ≤ 9223372036854775807) :
    Calls Tryd.prog 40 #[.pointer (some ⟨p, 0, none⟩)] w (Takes p l 1 w fun a => .int .u8 (num a)) :=
  (rU8 p l w hR hl).mono fun _ _ h => Took.takes (v := fun a => .int .u8 (num a)) hl h
theorem tU16 (p : Nat) (l : List UInt8) (w : World) (hR : Rd w p l) (hl : l.length ≤ 9223372036854775807) :
    Calls Tryd.prog 41 #[.pointer (some ⟨p, 0, none⟩)] w (Takes p l 2 w fun a => .int .u16 (num a)) :=
  (rU16 p l w hR hl).mono fun _ _ h => Took.takes (v := fun a => .int .u16 (num a)) hl h
theorem tIP (p : Nat) (l : List UInt8) (w : World) (hR : Rd w p l) (hl : l.length ≤ 9223372036854775807) :
    Calls Tryd.prog 42 #[.pointer (some ⟨p, 0, none⟩)] w (Takes p l 4 w fun a => .int .u32 (num a)) :=
  (rIP p l w hR hl).mono fun _ _ h => Took.takes (v := fun a => .int .u32 (num a)) hl h
theorem macOf_take (l : List UInt8) (h : 6 ≤ l.length) : macOf (l.take 6) = macOf l := by
  match l, h with
  | a :: b :: c :: d :: e :: f :: r, _ => rfl
/-- what MAC leaves: the card's number in six letters -/
def TakesM (p : Nat) (l : List UInt8) (w : World) (e : Ending) (w' : World) : Prop :=
  (∃ a0 a1 a2 a3 a4 a5 r, Cut l [a0, a1, a2, a3, a4, a5] r 6 ∧ r.length ≤ 9223372036854775807 ∧
    e = .returned (.agg #[.int .u8 (a0.toNat : Int), .int .u8 (a1.toNat : Int), .int .u8 (a2.toNat : Int), .int .u8 (a3.toNat : Int), .int .u8 (a4.toNat : Int), .int .u8 (a5.toNat : Int)]) ∧ Rd w' p r ∧ Fr (oneB p) w w') ∨
  (l.length < 6 ∧ e = .panicked (faultC 1) ∧ Fr (oneB p) w w')
end Go.Proofs.YtcbkaiakdhiloabDoor
