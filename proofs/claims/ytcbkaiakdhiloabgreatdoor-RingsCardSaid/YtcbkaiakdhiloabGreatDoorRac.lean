/- Parts of the walk; written by programs, merged. -/
import Derived.Test.YtcbkaiakdhiloabGreatDoorRab
import Derived.Lib.ConvBytes
import Derived.Lib.LazyBuf
import Derived.Recover
set_option linter.unusedSimpArgs false
set_option linter.unusedVariables false
set_option maxRecDepth 20000
set_option maxHeartbeats 8000000
namespace Go.Proofs.YtcbkaiakdhiloabGreatDoor
structure FldD where
  name : List UInt8
  value : List UInt8
structure TftD where
  op : Nat
  block : Nat
  text : List UInt8
  data : List UInt8
  fs : List FldD
def tft0 : TftD := ⟨0, 0, [], [], []⟩
def lineOf : List UInt8 → Option (List UInt8 × List UInt8)
  | [] => none
  | c :: r => if c = 0 then some ([], r) else (lineOf r).map fun x => (c :: x.1, x.2)
def named (fs : List FldD) (n : List UInt8) : Bool := fs.any fun f => f.name == n
def fldRead : Nat → List FldD → List UInt8 → Option (List FldD)
  | 0, _, _ => none
  | _ + 1, fs, [] => some fs
  | n + 1, fs, c :: l => match lineOf (c :: l) with
    | none => none
    | some (a, r) => match lineOf r with
      | none => none
      | some (b, r2) => if wordB a && wordB b && !(named fs (lowL a)) then fldRead n (fs ++ [⟨lowL a, b⟩]) r2 else none
def fldRd (fs : List FldD) (l : List UInt8) : Option (List FldD) := fldRead (l.length + 1) fs l
def octet : List UInt8 := [111, 99, 116, 101, 116]
def readTFTP (l : List UInt8) : TftD × Nat :=
  if l.length < 2 then (tft0, 1)
  else if num (sub l 0 2) = 1 then match lineOf (l.drop 2) with
    | none => (tft0, 2)
    | some (a, r) => if wordB a = false then (tft0, 2) else match lineOf r with
      | none => (tft0, 2)
      | some (b, r2) => if lowL b = octet then (match fldRd [] r2 with
        | none => (tft0, 2)
        | some fs => (⟨1, 0, a, [], fs⟩, 0)) else (tft0, 2)
  else if num (sub l 0 2) = 6 then match fldRd [] (l.drop 2) with
    | none => (tft0, 2)
    | some fs => (⟨6, 0, [], [], fs⟩, 0)
  else if num (sub l 0 2) = 3 then if l.length < 4 then (tft0, 1) else if 1024 < (l.drop 4).length then (tft0, 7) else (⟨3, num (sub l 2 4), [], l.drop 4, []⟩, 0)
  else if num (sub l 0 2) = 4 then if l.length < 4 then (tft0, 1) else if l.drop 4 ≠ [] then (tft0, 2) else (⟨4, num (sub l 2 4), [], [], []⟩, 0)
  else if num (sub l 0 2) = 5 then if l.length < 4 then (tft0, 1) else match lineOf (l.drop 4) with
    | some (a, []) => (⟨5, num (sub l 2 4), a, [], []⟩, 0)
    | _ => (tft0, 2)
  else (tft0, 2)
end Go.Proofs.YtcbkaiakdhiloabGreatDoor
namespace Go.Proofs.YtcbkaiakdhiloabGreatDoor
def fldOk (b4 : List FldD) (o : FldD) : Bool := wordB o.name && wordB o.value && (o.name == lowL o.name) && !(named b4 o.name)
def fldW : List FldD → List FldD → Option (List UInt8)
  | _, [] => some []
  | b4, o :: r => if fldOk b4 o then (fldW (b4 ++ [o]) r).map fun t => o.name ++ 0 :: o.value ++ 0 :: t else none
def capT (l : List UInt8) : List UInt8 × Nat := if 1472 < l.length then ([], 7) else (l, 0)
def wrTFTP (d : TftD) : List UInt8 × Nat :=
  if d.op = 1 then if wordB d.text then (match fldW [] d.fs with
    | none => ([], 2)
    | some t => capT (big 2 d.op ++ d.text ++ [0, 111, 99, 116, 101, 116, 0] ++ t)) else ([], 2)
  else if d.op = 6 then (match fldW [] d.fs with
    | none => ([], 2)
    | some t => capT (big 2 d.op ++ t))
  else if d.op = 3 then if 1024 < d.data.length then ([], 7) else capT (big 2 d.op ++ big 2 d.block ++ d.data)
  else if d.op = 4 then capT (big 2 d.op ++ big 2 d.block)
  else if d.op = 5 then if d.text.contains 0 then ([], 2) else capT (big 2 d.op ++ big 2 d.block ++ d.text ++ [0])
  else ([], 2)
end Go.Proofs.YtcbkaiakdhiloabGreatDoor
namespace Go.Proofs.YtcbkaiakdhiloabGreatDoor
open Go.RowKit Go.Proofs
attribute [local go_sem] bs_size bs_append bs_extract
def faultC (e : Int) : List PanicEntry := [{ v := .iface 182 (.agg #[.int .i64 e]), recovered := false }]
def Rd (w : World) (p : Nat) (l : List UInt8) : Prop := Bk w p 184 #[.string (bs l)]
def Took (p : Nat) (l : List UInt8) (n : Nat) (w : World) (v : Value) (e : Ending) (w' : World) : Prop :=
  (n ≤ l.length ∧ e = .returned v ∧ Rd w' p (l.drop n) ∧ Fr (oneB p) w w') ∨ (l.length < n ∧ e = .panicked (faultC 1) ∧ Fr (oneB p) w w')
theorem fail_any (e : Int) (w : World) : Calls Tryz.prog 111 #[.int .i64 e] w fun x w' => x = .panicked (faultC e) ∧ w = w' := by
  go_enter Tryz.func111, Tryz.ntmps111
  go_wp2
  exact ⟨rfl, rfl, rfl⟩
theorem must_yes (e : Int) (w : World) : Calls Tryz.prog 64 #[.bool true, .int .i64 e] w fun x w' => x = .returned (.tuple #[]) ∧ w = w' := by
  go_enter Tryz.func64, Tryz.ntmps64
  go_wp2_with fail
  go_end0
  exact ⟨rfl, rfl⟩
theorem must_no (e : Int) (w : World) : Calls Tryz.prog 64 #[.bool false, .int .i64 e] w fun x w' => x = .panicked (faultC e) ∧ w = w' := by
  go_enter Tryz.func64, Tryz.ntmps64
  go_wp2_with fail
  refine (fail_any e _).mono ?_
  rintro x w1 ⟨rfl, rfl⟩
  exact ⟨rfl, rfl, rfl⟩
def MustPost (b : Bool) (e : Int) (w : World) (x : Ending) (w' : World) : Prop := (b = true ∧ x = .returned (.tuple #[]) ∧ w = w') ∨ (b = false ∧ x = .panicked (faultC e) ∧ w = w')
theorem must_any (b : Bool) (e : Int) (w : World) : Calls Tryz.prog 64 #[.bool b, .int .i64 e] w (MustPost b e w) := by
  cases b
  · exact (must_no e w).mono fun x w' h => .inr ⟨rfl, h⟩
  · exact (must_yes e w).mono fun x w' h => .inl ⟨rfl, h⟩
theorem rTake (n : Nat) (p : Nat) (l : List UInt8) (w : World) (hR : Rd w p l) (hn : n ≤ 9223372036854775807) (hl : l.length ≤ 9223372036854775807) :
    Calls Tryz.prog 74 #[.pointer (some ⟨p, 0, none⟩), .int .i64 n] w (Took p l n w (.string (bs (l.take n)))) := by
  have hc0 : w.cell? ⟨p, 0, none⟩ = some (.string (bs l)) := by simpa using Bk.cell hR 0
  have hf0 := Bk.free hR 0
  by_cases h : n ≤ l.length
  · have hd : decide (n ≤ l.length) = true := by simpa using h
    go_enter Tryz.func74, Tryz.ntmps74
    go_wp2_with fail
    refine (must_yes 1 _).mono ?_
    rintro x w1 ⟨rfl, rfl⟩
    go_wp2_with fail
    go_ret
    refine .inl ⟨h, ?_, ?_, ?_⟩
    · simp
    · have hs := Bk.set hR 0 (.string (bs (l.drop n)))
      simpa [Rd] using hs
    · exact (Fr.refl (oneB p) w).setCell (p := ⟨p, 0, none⟩) (fun _ => rfl) _
  · go_enter Tryz.func74, Tryz.ntmps74
    go_wp2_with fail
    refine (must_no 1 _).mono ?_
    rintro x w1 ⟨rfl, rfl⟩
    exact ⟨rfl, .inr ⟨by omega, rfl, Fr.refl _ _⟩⟩
theorem num_gen : ∀ (l : List UInt8) (a : Nat), l.foldl (fun n b => 256 * n + b.toNat) a < (a + 1) * 256 ^ l.length
  | [], a => by simp
  | b :: r, a => by
    have hb := b.toNat_lt
    have h := num_gen r (256 * a + b.toNat)
    rw [List.foldl_cons, List.length_cons, Nat.pow_succ]
    have h2 : (256 * a + b.toNat + 1) * 256 ^ r.length ≤ ((a + 1) * 256) * 256 ^ r.length := Nat.mul_le_mul_right _ (by omega)
    have h3 : (a + 1) * (256 ^ r.length * 256) = ((a + 1) * 256) * 256 ^ r.length := by rw [Nat.mul_comm (256 ^ r.length), Nat.mul_assoc]
    omega
theorem num_le (l : List UInt8) : num l < 256 ^ l.length := by
  have h := num_gen l 0; simpa [num] using h
theorem or_byte (x : Nat) (b : UInt8) (hx : x < 16777216) : bits .or .u32 ((x : Int) * 256) ((b.toNat : Int) % 4294967296) = ((256 * x + b.toNat : Nat) : Int) := by
  have hb := b.toNat_lt
  rw [show (x : Int) * 256 = ((x * 256 : Nat) : Int) by omega, show (b.toNat : Int) % 4294967296 = ((b.toNat : Nat) : Int) by omega, u32_or_nat _ _ (by omega) (by omega),
    nat_join 8 (x * 256) b.toNat (by omega) (by omega)]
  omega
theorem rNum (n : Nat) (p : Nat) (l : List UInt8) (w : World) (hR : Rd w p l) (hn : n ≤ 4) (hl : l.length ≤ 9223372036854775807) :
    Calls Tryz.prog 110 #[.pointer (some ⟨p, 0, none⟩), .int .i64 n] w (Took p l n w (.int .u32 (num (l.take n)))) := by
  have hp := Bk.lt hR
  go_enter Tryz.func110, Tryz.ntmps110
  go_wp2_with fail
  refine (rTake n p l _ hR (by omega) hl).mono ?_
  rintro e w1 (⟨hle, rfl, hR1, hf1⟩ | ⟨hlt, rfl, hf1⟩)
  · have hcv := Go.Lib.run_convert_string_bytes (P := Tryz.prog) w1 9 98 5 (bs (l.take n)) Tryz.underlying9 Tryz.underlying98 Tryz.underlying5
    have hlen : (l.take n).length = n := by rw [List.length_take]; omega
    have hcell : ∀ j, j < n → (Go.Lib.bytesWorld w1 5 (bs (l.take n))).cell? ⟨w1.heap.size, j, none⟩ = some (.int .u8 (((l.take n).getD j 0).toNat : Int)) := by
      intro j hj
      have h := Go.Lib.bytesWorld_cell w1 5 (bs (l.take n)) j (by rw [bs_size]; omega)
      rw [bs_list] at h; exact h
    have hfb : Fr noB w1 (Go.Lib.bytesWorld w1 5 (bs (l.take n))) := by
      refine ⟨rfl, rfl, rfl, ?_, fun k hk _ => Go.Lib.bytesWorld_at_old w1 _ _ k hk⟩
      rw [Go.Lib.bytesWorld_size]; omega
    have Htk : ∀ j, j < n → Hid (num ((l.take n).take (j + 1)) = 256 * num ((l.take n).take j) + ((l.take n).getD j 0).toNat) := by
      intro j hj; unfold Hid
      rw [List.take_succ_eq_append_getElem (by omega), num_snoc]
      simp [List.getD, hlen, hj]
    have Hbd : ∀ j, j < n → num ((l.take n).take j) < 16777216 := by
      intro j hj
      have h := num_le ((l.take n).take j)
      have h2 : ((l.take n).take j).length ≤ 3 := by rw [List.length_take]; omega
      have h3 : 256 ^ ((l.take n).take j).length ≤ 256 ^ 3 := Nat.pow_le_pow_right (by omega) h2
      omega
    have Hl := Lib.hid hlen
    have Hfull : Hid ((l.take n).take n = l.take n) := by unfold Hid; rw [List.take_of_length_le (by omega)]
    have hsz : (bs (l.take n)).size = n := by rw [bs_size]; exact hlen
    clear hlen
    generalize Go.Lib.bytesWorld w1 5 (bs (l.take n)) = w2 at *
    generalize l.take n = t at *
    generalize w1.heap.size = g at *
    go_wp2_with fail
    go_loop [5, 13] (fun x i => ∃ j : Nat, j ≤ n ∧ i = .int .i64 j ∧ x = .int .u32 (num (t.take j) : Int)) (fun _ i => n - (intOf i).toNat)
    case atStart => exact ⟨0, by omega, rfl, rfl⟩
    case round =>
      obtain ⟨j, hj, rfl, rfl⟩ := hrel
      by_cases hlt : j < n
      · have hc := hcell j hlt
        have hbd := Hbd j hlt
        have htk := Htk j hlt
        have hor := or_byte (num (t.take j)) (t.getD j 0) hbd
        clear hcell Hbd Htk
        generalize t.getD j 0 = b at *
        generalize num (t.take j) = x at *
        go_wp2_with fail
        go_round
        case rel => exact ⟨j + 1, by omega, by go_num, by rw [htk.out] <;> go_num⟩
        case measure => simp [intOf]; omega
      · clear hcell Hbd Htk
        go_wp2_with fail
        go_ret
        obtain rfl : j = n := by omega
        rw [Hfull.out]
        exact .inl ⟨hle, rfl, Bk.keep hR1 hfb (fun x => x), hf1.none hfb⟩
  · exact ⟨rfl, .inr ⟨hlt, rfl, hf1⟩⟩
theorem rU8 (p : Nat) (l : List UInt8) (w : World) (hR : Rd w p l) (hl : l.length ≤ 9223372036854775807) :
    Calls Tryz.prog 72 #[.pointer (some ⟨p, 0, none⟩)] w (Took p l 1 w (.int .u8 (num (l.take 1)))) := by
  have hb : num (l.take 1) < 256 := by
    have h := num_le (l.take 1)
    have h2 : (l.take 1).length ≤ 1 := by rw [List.length_take]; omega
    have h3 : 256 ^ (l.take 1).length ≤ 256 ^ 1 := Nat.pow_le_pow_right (by omega) h2
    omega
  go_enter Tryz.func72, Tryz.ntmps72
  go_wp2_with fail
  refine (rNum 1 p l _ hR (by omega) hl).mono ?_
  rintro e w1 (⟨hle, rfl, hR1, hf1⟩ | ⟨hlt, rfl, hf1⟩)
  · generalize num (l.take 1) = x at *
    have hx : IntKind.u8.wrap (x : Int) = x := by rw [IntKind.wrap_u8']; omega
    go_wp2_with fail
    go_ret
    exact .inl ⟨hle, rfl, hR1, hf1⟩
  · exact ⟨rfl, .inr ⟨hlt, rfl, hf1⟩⟩
theorem rU16 (p : Nat) (l : List UInt8) (w : World) (hR : Rd w p l) (hl : l.length ≤ 9223372036854775807) :
    Calls Tryz.prog 63 #[.pointer (some ⟨p, 0, none⟩)] w (Took p l 2 w (.int .u16 (num (l.take 2)))) := by
  have hb : num (l.take 2) < 65536 := by
    have h := num_le (l.take 2)
    have h2 : (l.take 2).length ≤ 2 := by rw [List.length_take]; omega
    have h3 : 256 ^ (l.take 2).length ≤ 256 ^ 2 := Nat.pow_le_pow_right (by omega) h2
    omega
  go_enter Tryz.func63, Tryz.ntmps63
  go_wp2_with fail
  refine (rNum 2 p l _ hR (by omega) hl).mono ?_
  rintro e w1 (⟨hle, rfl, hR1, hf1⟩ | ⟨hlt, rfl, hf1⟩)
  · generalize num (l.take 2) = x at *
    have hx : IntKind.u16.wrap (x : Int) = x := by rw [IntKind.wrap_u16]; omega
    go_wp2_with fail
    go_ret
    exact .inl ⟨hle, rfl, hR1, hf1⟩
  · exact ⟨rfl, .inr ⟨hlt, rfl, hf1⟩⟩
theorem rIP (p : Nat) (l : List UInt8) (w : World) (hR : Rd w p l) (hl : l.length ≤ 9223372036854775807) :
    Calls Tryz.prog 73 #[.pointer (some ⟨p, 0, none⟩)] w (Took p l 4 w (.int .u32 (num (l.take 4)))) := by
  go_enter Tryz.func73, Tryz.ntmps73
  go_wp2_with fail
  refine (rNum 4 p l _ hR (by omega) hl).mono ?_
  rintro e w1 (⟨hle, rfl, hR1, hf1⟩ | ⟨hlt, rfl, hf1⟩)
  · generalize num (l.take 4) = x at *
    go_wp2_with fail
    go_ret
    exact .inl ⟨hle, rfl, hR1, hf1⟩
  · exact ⟨rfl, .inr ⟨hlt, rfl, hf1⟩⟩
theorem rTake_ok (n : Nat) (p : Nat) (l : List UInt8) (w : World) (hR : Rd w p l) (hn : n ≤ l.length) (hl : l.length ≤ 9223372036854775807) :
    Calls Tryz.prog 74 #[.pointer (some ⟨p, 0, none⟩), .int .i64 n] w fun e w' => e = .returned (.string (bs (l.take n))) ∧ Rd w' p (l.drop n) ∧ Fr (oneB p) w w' :=
  (rTake n p l w hR (by omega) hl).mono fun e w' h => by
    rcases h with ⟨_, h⟩ | ⟨h, _⟩
    · exact h
    · omega
theorem rTake_no (n : Nat) (p : Nat) (l : List UInt8) (w : World) (hR : Rd w p l) (hn : l.length < n) (hn2 : n ≤ 9223372036854775807) :
    Calls Tryz.prog 74 #[.pointer (some ⟨p, 0, none⟩), .int .i64 n] w fun e w' => e = .panicked (faultC 1) ∧ Fr (oneB p) w w' :=
  (rTake n p l w hR hn2 (by omega)).mono fun e w' h => by
    rcases h with ⟨h, _⟩ | ⟨_, h⟩
    · omega
    · exact h
def macOf (l : List UInt8) : Mac := (l.getD 0 0, l.getD 1 0, l.getD 2 0, l.getD 3 0, l.getD 4 0, l.getD 5 0)
theorem u8_size (w : World) : (Go.sizeOf 5).run Tryz.prog w = .ok 1 w := by
  obtain ⟨i0, hi0, hz0, hz1, hz2⟩ := info_parts u8_info
  simp [Go.sizeOf, typeInfo, hi0, hz1]
theorem copy6 (w : World) (g : Nat) (t : TypeId) (c0 c1 c2 c3 c4 c5 : Value) (a b c d e f : UInt8) (hb : Bk w g t #[c0, c1, c2, c3, c4, c5]) :
    ∃ w', (Builtin.copy_ #[98, 9] 3 #[.slice (some ⟨g, 0, none⟩) 6 6, .string (bs [a, b, c, d, e, f])]).run Tryz.prog w = .ok (.int .i64 6) w' ∧
      Bk w' g t #[.int .u8 (a.toNat : Int), .int .u8 (b.toNat : Int), .int .u8 (c.toNat : Int), .int .u8 (d.toNat : Int), .int .u8 (e.toNat : Int), .int .u8 (f.toNat : Int)] ∧ Fr (oneB g) w w' := by
  have hz : (bs [a, b, c, d, e, f]).size = 6 := by rw [bs_size]; rfl
  have h := run_copy_string (P := Tryz.prog) w 98 9 3 5 g 0 6 6 (bs [a, b, c, d, e, f]) Tryz.underlying98 u8_size (by rw [hz]; omega)
    (by
      intro j hj; rw [hz] at hj
      have h := hb.cell (0 + j)
      rw [h]
      match j, hj with
      | 0, _ | 1, _ | 2, _ | 3, _ | 4, _ | 5, _ => rfl)
    (fun j _ => hb.free _)
  rw [hz, bs_list] at h
  refine ⟨_, h, ?_, ?_⟩
  · simp only [List.map, World.setCells]
    have h0 := ((((((hb.set 0 (.int .u8 (a.toNat : Int))).set 1 (.int .u8 (b.toNat : Int))).set 2 (.int .u8 (c.toNat : Int))).set 3 (.int .u8 (d.toNat : Int))).set 4 (.int .u8 (e.toNat : Int))).set 5 (.int .u8 (f.toNat : Int)))
    simpa using h0
  · simp only [List.map, World.setCells]
    exact ((((((Fr.refl (oneB g) w).setCell (p := ⟨g, _, none⟩) (fun _ => rfl) _).setCell (p := ⟨g, _, none⟩) (fun _ => rfl) _).setCell (p := ⟨g, _, none⟩) (fun _ => rfl) _).setCell (p := ⟨g, _, none⟩) (fun _ => rfl) _).setCell (p := ⟨g, _, none⟩) (fun _ => rfl) _).setCell (p := ⟨g, _, none⟩) (fun _ => rfl) _
theorem Bk.six {w : World} {g : Nat} {t : TypeId} {c0 c1 c2 c3 c4 c5 : Value} (h : Bk w g t #[c0, c1, c2, c3, c4, c5]) :
    w.cell? ⟨g, 0, none⟩ = some c0 ∧ w.cell? ⟨g, 1, none⟩ = some c1 ∧ w.cell? ⟨g, 2, none⟩ = some c2 ∧ w.cell? ⟨g, 3, none⟩ = some c3 ∧ w.cell? ⟨g, 4, none⟩ = some c4 ∧ w.cell? ⟨g, 5, none⟩ = some c5 :=
  ⟨h.cell 0, h.cell 1, h.cell 2, h.cell 3, h.cell 4, h.cell 5⟩
theorem Bk.free6 {w : World} {g : Nat} {t : TypeId} {cs : Array Value} (h : Bk w g t cs) :
    w.frozen? ⟨g, 0, none⟩ = false ∧ w.frozen? ⟨g, 1, none⟩ = false ∧ w.frozen? ⟨g, 2, none⟩ = false ∧ w.frozen? ⟨g, 3, none⟩ = false ∧ w.frozen? ⟨g, 4, none⟩ = false ∧ w.frozen? ⟨g, 5, none⟩ = false :=
  ⟨h.free 0, h.free 1, h.free 2, h.free 3, h.free 4, h.free 5⟩
def zero6 : Array Value := #[.int .u8 0, .int .u8 0, .int .u8 0, .int .u8 0, .int .u8 0, .int .u8 0]
theorem rMAC (p : Nat) (l : List UInt8) (w : World) (hR : Rd w p l) (hl : l.length ≤ 9223372036854775807) :
    Calls Tryz.prog 62 #[.pointer (some ⟨p, 0, none⟩)] w (Took p l 6 w (macV (macOf l))) := by
  have hp := Bk.lt hR
  by_cases h : 6 ≤ l.length
  · match l, h with
    | a :: b :: c :: d :: e :: f :: r, h =>
      have hR2 : Rd ((w.alloc (.cells zero6 23)).alloc (.cells zero6 23)) p (a :: b :: c :: d :: e :: f :: r) := Bk.alloc (Bk.alloc hR _) _
      have hf2 : Fr noB w ((w.alloc (.cells zero6 23)).alloc (.cells zero6 23)) := ((Fr.refl _ _).alloc _).alloc _
      have hb1 := (Bk.new w 23 zero6).alloc (.cells zero6 23)
      have hb2 := Bk.new (w.alloc (.cells zero6 23)) 23 zero6
      rw [show (w.alloc (.cells zero6 23)).heap.size = w.heap.size + 1 by simp] at hb2
      have hsz2 : ((w.alloc (.cells zero6 23)).alloc (.cells zero6 23)).heap.size = w.heap.size + 2 := by simp
      go_enter Tryz.func62, Tryz.ntmps62
      go_wp2_with fail
      unfold zero6 at hR2 hf2 hb1 hb2 hsz2
      generalize (w.alloc (.cells #[.int .u8 0, .int .u8 0, .int .u8 0, .int .u8 0, .int .u8 0, .int .u8 0] 23)).alloc (.cells #[.int .u8 0, .int .u8 0, .int .u8 0, .int .u8 0, .int .u8 0, .int .u8 0] 23) = w2 at *
      have H2 := Lib.hid hsz2
      clear hsz2
      have HT := Lib.hid (rTake_ok 6 p (a :: b :: c :: d :: e :: f :: r) w2.drew hR2 (by simp) hl)
      go_region_with ((go_at_call 74; refine HT.out.mono ?_; rintro e' w3 ⟨rfl, hR3, hf3⟩; obtain ⟨w4, hcp, hb4, hf4⟩ := copy6 w3 (w.heap.size + 1) _ _ _ _ _ _ _ a b c d e f (hb2.drew.keep hf3 (by unfold oneB; omega))))
      have h0 : Fr (oneB p) w w4 := ((hf2.of_no (oneB p)).drew.trans hf3).trans' hf4 (fun k hk e => by unfold oneB at e; omega)
      have hb1' : Bk w4 w.heap.size 23 #[.int .u8 0, .int .u8 0, .int .u8 0, .int .u8 0, .int .u8 0, .int .u8 0] := by
        refine (hb1.drew.keep hf3 ?_).keep hf4 ?_ <;> unfold oneB <;> omega
      obtain ⟨k0, k1, k2, k3, k4, k5⟩ := hb4.six
      obtain ⟨n0, n1, n2, n3, n4, n5⟩ := hb1'.six
      obtain ⟨z0, z1, z2, z3, z4, z5⟩ := hb1'.free6
      go_wp2_with fail
      refine bodyPost_ret (v := macV (macOf (a :: b :: c :: d :: e :: f :: r))) (by simp [results, Tryz.results62, go_sem, n0, n1, n2, n3, n4, n5, macV, macOf]) rfl ?_
      refine .inl ⟨h, rfl, ?_, ?_⟩
      · have hr4 : Rd w4 p (List.drop 6 (a :: b :: c :: d :: e :: f :: r)) := Bk.keep hR3 hf4 (by unfold oneB; omega)
        have hne : p ≠ w.heap.size := by omega
        exact (((((Bk.far hr4 (p := ⟨w.heap.size, 0, none⟩) hne _).far (p := ⟨w.heap.size, 1, none⟩) hne _).far (p := ⟨w.heap.size, 2, none⟩) hne _).far (p := ⟨w.heap.size, 3, none⟩) hne _).far (p := ⟨w.heap.size, 4, none⟩) hne _).far (p := ⟨w.heap.size, 5, none⟩) hne _
      · exact (((((h0.setCell (p := ⟨w.heap.size, 0, none⟩) (fun x => absurd x (Nat.lt_irrefl _)) _).setCell (p := ⟨w.heap.size, 1, none⟩) (fun x => absurd x (Nat.lt_irrefl _)) _).setCell (p := ⟨w.heap.size, 2, none⟩) (fun x => absurd x (Nat.lt_irrefl _)) _).setCell (p := ⟨w.heap.size, 3, none⟩) (fun x => absurd x (Nat.lt_irrefl _)) _).setCell (p := ⟨w.heap.size, 4, none⟩) (fun x => absurd x (Nat.lt_irrefl _)) _).setCell (p := ⟨w.heap.size, 5, none⟩) (fun x => absurd x (Nat.lt_irrefl _)) _
  · have hR2 : Rd ((w.alloc (.cells zero6 23)).alloc (.cells zero6 23)) p l := Bk.alloc (Bk.alloc hR _) _
    have hf2 : Fr noB w ((w.alloc (.cells zero6 23)).alloc (.cells zero6 23)) := ((Fr.refl _ _).alloc _).alloc _
    go_enter Tryz.func62, Tryz.ntmps62
    go_wp2_with fail
    unfold zero6 at hR2 hf2
    generalize (w.alloc (.cells #[.int .u8 0, .int .u8 0, .int .u8 0, .int .u8 0, .int .u8 0, .int .u8 0] 23)).alloc (.cells #[.int .u8 0, .int .u8 0, .int .u8 0, .int .u8 0, .int .u8 0, .int .u8 0] 23) = w2 at *
    have hend : ∀ w3, Fr (oneB p) w2.drew w3 → Took p l 6 w (macV (macOf l)) (.panicked (faultC 1)) w3 := fun w3 hf3 => .inr ⟨by omega, rfl, (hf2.of_no (oneB p)).drew.trans hf3⟩
    refine wp_region_ssa (by kernel_rfl) (by kernel_rfl) (by kernel_rfl)
      (fun u => ⟨#[.pointer (some ⟨p, 0, none⟩), undef, .pointer (some ⟨w.heap.size, 0, none⟩), .pointer (some ⟨w.heap.size + 1, 0, none⟩), u 0, u 1, u 2, u 3, undef], []⟩)
      (fun j v _ => match j with | 1 => v = .pointer (some ⟨p, 0, none⟩) | _ => True)
      (fun L w3 => L 2 = false ∧ w3 = w2.drew) (fun _ => undef) ⟨rfl, rfl⟩ ?_ ?_
    · rintro L u w3 i o ⟨hL2, rfl⟩ hΦ ho hL hd K hK
      match i, ho with
      | 0, ho =>
        simp at ho; subst ho
        go_simp
        exact hK (.slice (some ⟨w.heap.size + 1, 0, none⟩) 6 6) _ trivial ⟨hL2, rfl⟩ (fun _ _ _ h => h)
      | 1, ho =>
        simp at ho; subst ho
        go_simp
        exact hK (.pointer (some ⟨p, 0, none⟩)) _ rfl ⟨hL2, rfl⟩ (fun _ _ _ h => h)
      | 2, ho =>
        simp at ho; subst ho
        have hL1 : L 1 = true := hd ⟨1, .data⟩ (by simp) (by rfl)
        have hu1 : u 1 = .pointer (some ⟨p, 0, none⟩) := hΦ 1 hL1
        clear hΦ hd hK
        go_simp
        refine (rTake_no 6 p l w2.drew hR2 (by omega) (by omega)).mono ?_
        rintro e w4 ⟨rfl, hf4⟩
        exact ⟨rfl, hend _ hf4⟩
      | 3, ho =>
        simp at ho; subst ho
        have hL1 : L 2 = true := hd ⟨2, .data⟩ (by simp) (by rfl)
        rw [hL2] at hL1; cases hL1
    · rintro u w3 _ L hall ⟨hL2, _⟩
      rw [hall 2 (by simp)] at hL2; cases hL2
/-! The same, with what is read and what is left as letters: so that a long walk's frame stays small. -/
def Cut (l a r : List UInt8) (n : Nat) : Prop := l = a ++ r ∧ a.length = n
def Takes (p : Nat) (l : List UInt8) (n : Nat) (w : World) (v : List UInt8 → Value) (e : Ending) (w' : World) : Prop :=
  (∃ a r, Cut l a r n ∧ r.length ≤ 9223372036854775807 ∧ e = .returned (v a) ∧ Rd w' p r ∧ Fr (oneB p) w w') ∨ (l.length < n ∧ e = .panicked (faultC 1) ∧ Fr (oneB p) w w')
theorem Took.takes {p : Nat} {l : List UInt8} {n : Nat} {w w' : World} {v : List UInt8 → Value} {e : Ending} (hl : l.length ≤ 9223372036854775807) (h : Took p l n w (v (l.take n)) e w') : Takes p l n w v e w' := by
  rcases h with ⟨h1, h2, h3, h4⟩ | h
  · exact .inl ⟨l.take n, l.drop n, ⟨(List.take_append_drop n l).symm, by rw [List.length_take]; omega⟩, by rw [List.length_drop]; omega, h2, h3, h4⟩
  · exact .inr h
theorem tTake (n p : Nat) (l : List UInt8) (w : World) (hR : Rd w p l) (hn : n ≤ 9223372036854775807) (hl : l.length ≤ 9223372036854775807) :
    Calls Tryz.prog 74 #[.pointer (some ⟨p, 0, none⟩), .int .i64 n] w (Takes p l n w fun a => .string (bs a)) :=
  (rTake n p l w hR hn hl).mono fun _ _ h => h.takes hl
theorem tU8 (p : Nat) (l : List UInt8) (w : World) (hR : Rd w p l) (hl : l.length ≤ 9223372036854775807) :
    Calls Tryz.prog 72 #[.pointer (some ⟨p, 0, none⟩)] w (Takes p l 1 w fun a => .int .u8 (num a)) :=
  (rU8 p l w hR hl).mono fun _ _ h => Took.takes (v := fun a => .int .u8 (num a)) hl h
theorem tU16 (p : Nat) (l : List UInt8) (w : World) (hR : Rd w p l) (hl : l.length ≤ 9223372036854775807) :
    Calls Tryz.prog 63 #[.pointer (some ⟨p, 0, none⟩)] w (Takes p l 2 w fun a => .int .u16 (num a)) :=
  (rU16 p l w hR hl).mono fun _ _ h => Took.takes (v := fun a => .int .u16 (num a)) hl h
theorem tIP (p : Nat) (l : List UInt8) (w : World) (hR : Rd w p l) (hl : l.length ≤ 9223372036854775807) :
    Calls Tryz.prog 73 #[.pointer (some ⟨p, 0, none⟩)] w (Takes p l 4 w fun a => .int .u32 (num a)) :=
  (rIP p l w hR hl).mono fun _ _ h => Took.takes (v := fun a => .int .u32 (num a)) hl h
def TakesM (p : Nat) (l : List UInt8) (w : World) (e : Ending) (w' : World) : Prop :=
  (∃ a0 a1 a2 a3 a4 a5 r, Cut l [a0, a1, a2, a3, a4, a5] r 6 ∧ r.length ≤ 9223372036854775807 ∧
    e = .returned (.agg #[.int .u8 (a0.toNat : Int), .int .u8 (a1.toNat : Int), .int .u8 (a2.toNat : Int), .int .u8 (a3.toNat : Int), .int .u8 (a4.toNat : Int), .int .u8 (a5.toNat : Int)]) ∧ Rd w' p r ∧ Fr (oneB p) w w') ∨
  (l.length < 6 ∧ e = .panicked (faultC 1) ∧ Fr (oneB p) w w')
theorem tMAC (p : Nat) (l : List UInt8) (w : World) (hR : Rd w p l) (hl : l.length ≤ 9223372036854775807) :
    Calls Tryz.prog 62 #[.pointer (some ⟨p, 0, none⟩)] w (TakesM p l w) := by
  refine (rMAC p l w hR hl).mono fun e w' h => ?_
  rcases h with ⟨h1, h2, h3, h4⟩ | h
  · match l, h1 with
    | a :: b :: c :: d :: e' :: f :: r, h1 => exact .inl ⟨a, b, c, d, e', f, r, ⟨rfl, rfl⟩, by simp at hl; omega, h2, h3, h4⟩
  · exact .inr h
end Go.Proofs.YtcbkaiakdhiloabGreatDoor
namespace Go.Proofs.YtcbkaiakdhiloabGreatDoor
open Go.RowKit Go.Proofs
def twoB (a b : Nat) : Nat → Prop := fun k => k = a ∨ k = b
theorem fault_is (er : Int) (w : World) : (Instr.typeAssert (.iface 182 (.agg #[.int .i64 er])) 20 182 true).run Tryz.prog w = .ok (.tuple #[.agg #[.int .i64 er], .bool true]) w := by kernel_rfl
def readPost (z : Array Value) (ok : Array Value → Prop) (bad : Int → Prop) (w : World) (e : Ending) (w' : World) : Prop :=
  ((∃ x, ok x ∧ e = .returned (.tuple #[.agg x, .int .i64 0])) ∨ (∃ er, bad er ∧ e = .returned (.tuple #[.agg z, .int .i64 er]))) ∧ Fr noB w w'
def byPost (ok : Array Value → Prop) (bad : Int → Prop) (p : Nat) (w : World) (e : Ending) (w' : World) : Prop :=
  ((∃ x, ok x ∧ e = .returned (.agg x)) ∨ (∃ er, bad er ∧ e = .panicked (faultC er))) ∧ Fr (oneB p) w w'
theorem results_row_int {P : Program} {fn : Func} {p q : Tmp} {ty te : TypeId} (h : fn.results = #[.cell p ty, .cell q te]) (tmps : Array Value) (w : World) (g ge : Nat) (t t2 : TypeId) (cs : Array Value) (n : Int) (d : TypeDesc) (k : IntKind)
    (hp : tmps.getD p undef = .pointer (some ⟨g, 0, none⟩)) (hq : tmps.getD q undef = .pointer (some ⟨ge, 0, none⟩)) (hg : Bk w g t cs) (he : Bk w ge t2 #[.int .i64 n])
    (hu : P.underlying ty = some d) (hd : (match d with | .struct _ | .array _ _ => true | _ => false) = true) (hi : (P.info? ty).map (·.size) = some cs.size) (hue : P.underlying te = some (.int k)) :
    (results fn tmps).run P w = .ok (.tuple #[.agg cs, .int .i64 n]) w := by
  have hp' : tmps[p]?.getD undef = .pointer (some ⟨g, 0, none⟩) := by simpa using hp
  have hq' : tmps[q]?.getD undef = .pointer (some ⟨ge, 0, none⟩) := by simpa using hq
  have hc := he.cells
  have h1 := run_loadVar_row w g t ty cs (0, 0) d hg hu hd hi
  have h2 : (loadVar te ⟨ge, 0, none⟩).run P w = .ok (.int .i64 n) w := by
    have hc0 := hc 0
    simp at hc0
    simp [go_sem, isAgg, run_underlying hue, hc0]
  simp [results, h, hp', hq', asAddr, h1, h2]
theorem results_row_tmp {P : Program} {fn : Func} {p q : Tmp} {ty : TypeId} (h : fn.results = #[.cell p ty, .tmp q]) (tmps : Array Value) (w : World) (g : Nat) (t : TypeId) (cs : Array Value) (v : Value) (d : TypeDesc)
    (hp : tmps.getD p undef = .pointer (some ⟨g, 0, none⟩)) (hq : tmps.getD q undef = v) (hg : Bk w g t cs)
    (hu : P.underlying ty = some d) (hd : (match d with | .struct _ | .array _ _ => true | _ => false) = true) (hi : (P.info? ty).map (·.size) = some cs.size) :
    (results fn tmps).run P w = .ok (.tuple #[.agg cs, v]) w := by
  have hp' : tmps[p]?.getD undef = .pointer (some ⟨g, 0, none⟩) := by simpa using hp
  have hq' : tmps[q]?.getD undef = v := by simpa using hq
  have h1 := run_loadVar_row w g t ty cs (0, 0) d hg hu hd hi
  simp [results, h, hp', hq', asAddr, h1]
end Go.Proofs.YtcbkaiakdhiloabGreatDoor
namespace Go.Proofs.YtcbkaiakdhiloabGreatDoor
open Go.RowKit Go.Proofs
attribute [local go_sem] bs_size bs_append bs_extract
def zcEth : Array Value := #[.int .u8 0, .int .u8 0, .int .u8 0, .int .u8 0, .int .u8 0, .int .u8 0, .int .u8 0, .int .u8 0, .int .u8 0, .int .u8 0, .int .u8 0, .int .u8 0, .int .u16 0, .string ⟨#[]⟩]
theorem catchEth (gx ge : Nat) (er : Int) (w : World) (hx : Bk w gx 27 zcEth) (he : Bk w ge 28 #[.int .i64 0]) (hne : gx ≠ ge) :
    CallsD Tryz.prog 109 #[.pointer (some ⟨gx, 0, none⟩), .pointer (some ⟨ge, 0, none⟩)] (.panicking (faultC er)) w fun r u' w' =>
      r = .returned (.tuple #[]) ∧ u' = .panicking [{ v := .iface 182 (.agg #[.int .i64 er]), recovered := true }] ∧ Bk w' gx 27 zcEth ∧ Bk w' ge 28 #[.int .i64 er] ∧ Fr (twoB gx ge) w w' := by
  have hta := fault_is er
  have hbf := (Bk.new w 182 #[.int .i64 er]).alloc (.cells zcEth 27)
  have hbz := Bk.new (w.alloc (.cells #[.int .i64 er] 182)) 27 zcEth
  rw [show (w.alloc (.cells #[.int .i64 er] 182)).heap.size = w.heap.size + 1 by simp] at hbz
  have hx2 := (hx.alloc (.cells #[.int .i64 er] 182)).alloc (.cells zcEth 27)
  have he2 := (he.alloc (.cells #[.int .i64 er] 182)).alloc (.cells zcEth 27)
  have hf2 : Fr (twoB gx ge) w ((w.alloc (.cells #[.int .i64 er] 182)).alloc (.cells zcEth 27)) := ((Fr.refl _ _).alloc _).alloc _
  have hgx := hx.lt
  have hge := he.lt
  refine callsD_of_wpS Tryz.func109 rfl fun c₀ cs hu => ?_
  apply wpS_seq
  apply wpS_region
  simp [wpOpsS, go_sem, recoverD, hu, Tryz.ntmps109, Exit.thenS, faultC]
  refine wpS_of_wp ?_
  simp only [Array.replicate_succ, Array.replicate_zero, List.push_toArray, List.append_toArray, List.nil_append, List.cons_append, List.setIfInBounds_toArray, List.set_cons_zero, List.set_cons_succ]
  go_wp2_with fail
  unfold zcEth at hbf hbz hx2 he2 hf2
  generalize (w.alloc (.cells #[.int .i64 er] 182)).alloc (.cells #[.int .u8 0, .int .u8 0, .int .u8 0, .int .u8 0, .int .u8 0, .int .u8 0, .int .u8 0, .int .u8 0, .int .u8 0, .int .u8 0, .int .u8 0, .int .u8 0, .int .u16 0, .string ⟨#[]⟩] 27) = w2 at *
  refine wp_region_ssa (by kernel_rfl) (by kernel_rfl) (by kernel_rfl)
    (fun u => ⟨#[.pointer (some ⟨gx, 0, none⟩), .pointer (some ⟨ge, 0, none⟩), undef, .pointer (some ⟨w.heap.size, 0, none⟩), .pointer (some ⟨w.heap.size + 1, 0, none⟩), undef,
      .iface 182 (.agg #[.int .i64 er]), undef, .bool false, .tuple #[.agg #[.int .i64 er], .bool true], .bool true, .agg #[.int .i64 er], u 0, u 1, u 2], []⟩)
    (fun j v _ => match j with | 0 => v = .agg zcEth | 1 => v = .pointer (some ⟨w.heap.size, 0, none⟩) | 2 => v = .int .i64 er | _ => True)
    (fun L w3 => Bk w3 w.heap.size 182 #[.int .i64 er] ∧ Bk w3 (w.heap.size + 1) 27 zcEth ∧ Bk w3 gx 27 zcEth ∧ Bk w3 ge 28 #[if L 4 then .int .i64 er else .int .i64 0] ∧ Fr (twoB gx ge) w w3) (fun _ => undef) ⟨hbf.drew, hbz.drew, hx2.drew, he2.drew, hf2.drew⟩ ?_ ?_
  · rintro L u w3 i o ⟨g1, g2, g3, g4, g5⟩ hΦ ho hL hd K hK
    match i, ho with
    | 0, ho =>
      simp at ho; subst ho
      refine wp_load_row 27 (.tmp 4) rfl (w.heap.size + 1) rfl _ _ _ _ g2 Tryz.underlying27 rfl (by kernel_rfl) ?_
      exact hK _ _ rfl ⟨g1, g2, g3, g4, g5⟩ (fun _ _ _ h => h)
    | 1, ho =>
      simp at ho; subst ho
      clear hΦ hd
      go_simp
      exact hK _ _ rfl ⟨g1, g2, g3, g4, g5⟩ (fun _ _ _ h => h)
    | 2, ho =>
      simp at ho; subst ho
      have hu1 := hΦ 1 (hd ⟨1, .data⟩ (by simp) (by rfl))
      simp only at hu1
      have hc := g1.cells
      clear hΦ hd
      go_simp
      have hk := hK _ w3 rfl ⟨g1, g2, g3, g4, g5⟩ (fun _ _ _ h => h)
      simp only [upd, hu1] at hk
      exact hk
    | 3, ho =>
      simp at ho; subst ho
      have hu0 := hΦ 0 (hd ⟨0, .data⟩ (by simp) (by rfl))
      refine wp_store_bk 27 (.tmp 0) (.tmp 12) rfl gx _ _ _ rfl hu0 g3 rfl (by kernel_rfl) (by kernel_rfl) ?_
      intro w4 b4 f4
      refine hK undef _ trivial ⟨g1.keep f4 ?_, g2.keep f4 ?_, b4, g4.keep f4 ?_, g5.trans' f4 ?_⟩ (fun _ _ _ h => h)
      · unfold oneB; omega
      · unfold oneB; omega
      · unfold oneB; omega
      · intro b _ e; exact .inl e
    | 4, ho =>
      simp at ho; subst ho
      have hu2 := hΦ 2 (hd ⟨2, .data⟩ (by simp) (by rfl))
      simp only [hL] at g4 hu2
      have hc := g4.cells
      have hz := g4.frees
      clear hΦ hd
      go_simp
      have h4 : Bk (w3.setCell ⟨ge, 0, none⟩ (.int .i64 er)) ge 28 #[.int .i64 er] := by simpa using g4.set 0 (.int .i64 er)
      have hk := hK undef (w3.setCell ⟨ge, 0, none⟩ (.int .i64 er)) trivial ⟨g1.far (by simp; omega) _, g2.far (by simp; omega) _, g3.far (by simpa using hne) _, h4, g5.setCell (p := ⟨ge, 0, none⟩) (fun _ => .inr rfl) _⟩ (fun _ _ _ h => h)
      simp only [upd, hu2] at hk
      exact hk
  · rintro u w3 hΦ L hall ⟨g1, g2, g3, g4, g5⟩
    rw [hall 4 (by simp)] at g4
    exact ⟨rfl, _, rfl, .tuple #[], by simp [results, Tryz.results109], rfl, rfl, g3, by simpa using g4, g5⟩
theorem idleEth (gx ge : Nat) (w : World) :
    CallsD Tryz.prog 109 #[.pointer (some ⟨gx, 0, none⟩), .pointer (some ⟨ge, 0, none⟩)] .returning w fun r u' w' =>
      r = .returned (.tuple #[]) ∧ u' = .returning ∧ w' = w := by
  refine callsD_of_wpS Tryz.func109 rfl fun c₀ cs hu => ?_
  apply wpS_seq
  apply wpS_region
  simp [wpOpsS, go_sem, recoverD, hu, Tryz.ntmps109, Exit.thenS]
  refine wpS_of_wp ?_
  simp only [Array.replicate_succ, Array.replicate_zero, List.push_toArray, List.append_toArray, List.nil_append, List.cons_append, List.setIfInBounds_toArray, List.set_cons_zero, List.set_cons_succ]
  go_wp2_with fail
  simp [Exit.inBlock, bodyPostS, results, Tryz.results109]
  cases c₀
  simp at hu
  simp [hu]
theorem readEth (l : List UInt8) (w : World) (ok : Array Value → Prop) (bad : Int → Prop) (hok : ∀ c, ok c → c.size = zcEth.size ∧ c.all (·.oneCell') = true)
    (hby : ∀ (p : Nat) (w1 : World), w.heap.size ≤ p → Rd w1 p l → Fr noB w w1 → Calls Tryz.prog 61 #[.pointer (some ⟨p, 0, none⟩)] w1 (byPost ok bad p w1)) :
    Calls Tryz.prog 60 #[.string (bs l), .func (.func 61) #[] #[]] w (readPost zcEth ok bad w) := by
  have hmf : ∀ (fn : Fn) (first cap : Array Value) (w : World), (Instr.makeFunc fn first cap).run Tryz.prog w = .ok (.func fn first cap) w := fun _ _ _ _ => rfl
  go_enter_defers Tryz.func60, Tryz.ntmps60
  have Hby := Lib.hid hby
  have Hok := Lib.hid hok
  clear hby hok
  go_wp2_with fail
  have hx0 := ((Bk.new w 27 zcEth).alloc (.cells #[.int .i64 0] 28)).alloc (.cells #[.string (bs l)] 184)
  have he0 := (Bk.new (w.alloc (.cells zcEth 27)) 28 #[.int .i64 0]).alloc (.cells #[.string (bs l)] 184)
  have hr0 := Bk.new ((w.alloc (.cells zcEth 27)).alloc (.cells #[.int .i64 0] 28)) 184 #[.string (bs l)]
  rw [show ((w.alloc (.cells zcEth 27)).alloc (.cells #[.int .i64 0] 28)).heap.size = w.heap.size + 1 + 1 by simp] at hr0
  rw [show (w.alloc (.cells zcEth 27)).heap.size = w.heap.size + 1 by simp] at he0
  have hf0 : Fr noB w (((w.alloc (.cells zcEth 27)).alloc (.cells #[.int .i64 0] 28)).alloc (.cells #[.string (bs l)] 184)) := (((Fr.refl _ _).alloc _).alloc _).alloc _
  unfold zcEth at hx0 he0 hr0 hf0
  generalize ((w.alloc (.cells #[.int .u8 0, .int .u8 0, .int .u8 0, .int .u8 0, .int .u8 0, .int .u8 0, .int .u8 0, .int .u8 0, .int .u8 0, .int .u8 0, .int .u8 0, .int .u8 0, .int .u16 0, .string ⟨#[]⟩] 27)).alloc (.cells #[.int .i64 0] 28)).alloc (.cells #[.string (bs l)] 184) = w1 at *
  refine (Hby.out _ w1 (by omega) hr0 hf0).mono ?_
  rintro e w2 ⟨⟨x, hx, rfl⟩ | ⟨er, hbad, rfl⟩, hf1⟩
  · have hx1 := hx0.keep hf1 (by unfold oneB; omega)
    have he1 := he0.keep hf1 (by unfold oneB; omega)
    obtain ⟨hsx, hox⟩ := Hok.out x hx
    have Hsx := Lib.hid hsx
    have Hox := Lib.hid hox
    have hix : (Tryz.prog.info? 27).map (·.size) = some x.size := by rw [hsx]; kernel_rfl
    have Hix := Lib.hid hix
    clear hsx hox hix
    go_wp2_with ((refine wpList_store_bk rfl 27 (.tmp 4) (.tmp 11) rfl w.heap.size _ _ x rfl rfl hx1 Hsx.out Hix.out Hox.out ?_); intro w3 hx3 hf3; have he3 := he1.keep hf3 (by unfold oneB; omega); have hc3 := he3.cells; have hz3 := he3.frees)
    have hb3 : Bk (w3.setCell ⟨w.heap.size + 1, 0, none⟩ (.int .i64 0)) (w.heap.size + 1) 28 #[.int .i64 0] := by simpa using he3.set 0 (.int .i64 0)
    have hx4 := hx3.far (p := ⟨w.heap.size + 1, 0, none⟩) (by simp) (.int .i64 0)
    have hfin : Fr noB w (w3.setCell ⟨w.heap.size + 1, 0, none⟩ (.int .i64 0)) := by
      refine (((hf0.trans' hf1 ?_).trans' hf3 ?_).setCell ?_ _)
      · intro b hb e; unfold oneB at e; omega
      · intro b hb e; unfold oneB at e; omega
      · intro e; exact absurd e (by simp)
    generalize w3.setCell ⟨w.heap.size + 1, 0, none⟩ (.int .i64 0) = w4 at *
    refine leaves_cons (f := 109) (args := #[.pointer (some ⟨w.heap.size, 0, none⟩), .pointer (some ⟨w.heap.size + 1, 0, none⟩)]) (by simp) (by simp [go_sem]) ?_
    refine (idleEth _ _ _).mono ?_
    rintro e u' w5 ⟨rfl, rfl, rfl⟩
    refine ⟨.tuple #[.agg x, .int .i64 0], ?_, ⟨.inl ⟨_, hx, rfl⟩, hfin⟩⟩
    exact results_row_int Tryz.results60 _ w5 w.heap.size (w.heap.size + 1) _ _ x 0 _ _ rfl rfl hx4 hb3 Tryz.underlying27 rfl Hix.out Tryz.underlying28
  · have hx1 := hx0.keep hf1 (by unfold oneB; omega)
    have he1 := he0.keep hf1 (by unfold oneB; omega)
    have hfin : Fr noB w w2 := hf0.trans' hf1 (fun b hb e => by unfold oneB at e; omega)
    refine leaves_cons (f := 109) (args := #[.pointer (some ⟨w.heap.size, 0, none⟩), .pointer (some ⟨w.heap.size + 1, 0, none⟩)]) (by simp) (by simp [go_sem]) ?_
    refine (catchEth w.heap.size (w.heap.size + 1) er w2 hx1 he1 (by omega)).mono ?_
    rintro e u' w5 ⟨rfl, rfl, hx5, he5, hf5⟩
    refine ⟨.tuple #[.agg zcEth, .int .i64 er], ?_, ⟨.inr ⟨er, hbad, rfl⟩, hfin.trans' hf5 ?_⟩⟩
    · exact results_row_int Tryz.results60 _ w5 w.heap.size (w.heap.size + 1) _ _ _ er _ _ rfl rfl hx5 he5 Tryz.underlying27 rfl (by kernel_rfl) Tryz.underlying28
    · intro b hb e; unfold twoB at e; omega
end Go.Proofs.YtcbkaiakdhiloabGreatDoor
namespace Go.Proofs.YtcbkaiakdhiloabGreatDoor
open Go.RowKit Go.Proofs
attribute [local go_sem] bs_size bs_append bs_extract
theorem rLen (p : Nat) (l : List UInt8) (w : World) (hR : Rd w p l) :
    Calls Tryz.prog 65 #[.pointer (some ⟨p, 0, none⟩)] w fun e w' => e = .returned (.int .i64 l.length) ∧ w = w' := by
  have hc0 : w.cell? ⟨p, 0, none⟩ = some (.string (bs l)) := by simpa using Bk.cell hR 0
  go_enter Tryz.func65, Tryz.ntmps65
  go_wp2_with fail
  go_ret
  exact ⟨rfl, rfl⟩
theorem rRest (p : Nat) (l : List UInt8) (w : World) (hR : Rd w p l) (hl : l.length ≤ 9223372036854775807) :
    Calls Tryz.prog 66 #[.pointer (some ⟨p, 0, none⟩)] w fun e w' => e = .returned (.string (bs l)) ∧ Rd w' p [] ∧ Fr (oneB p) w w' := by
  have hc0 : w.cell? ⟨p, 0, none⟩ = some (.string (bs l)) := by simpa using Bk.cell hR 0
  go_enter Tryz.func66, Tryz.ntmps66
  go_wp2_with fail
  refine (rTake l.length p l _ hR hl hl).mono ?_
  rintro e w1 (⟨hle, rfl, hR1, hf1⟩ | ⟨hlt, rfl, hf1⟩)
  · rw [List.take_length]
    rw [List.drop_length] at hR1
    go_wp2_with fail
    go_ret
    exact ⟨rfl, hR1, hf1⟩
  · omega
end Go.Proofs.YtcbkaiakdhiloabGreatDoor
namespace Go.Proofs.YtcbkaiakdhiloabGreatDoor
open Go.RowKit Go.Proofs
attribute [local go_sem] bs_size bs_append bs_extract bs_toList
theorem refOf (l : List UInt8) (w : World) (hl : l.length ≤ 6) :
    Calls Tryz.prog 226 #[.string (bs l)] w fun e w' => e = .returned (.int .i64 (num l)) ∧ w = w' := by
  go_enter Tryz.func226, Tryz.ntmps226
  go_wp2_with fail
  go_loop [3, 4] (fun n i => ∃ j : Nat, j ≤ l.length ∧ i = .int .i64 j ∧ n = .int .i64 (num (l.take j) : Int)) (fun _ i => l.length - (intOf i).toNat)
  case atStart => exact ⟨0, by omega, rfl, rfl⟩
  case round =>
    obtain ⟨j, hj, rfl, rfl⟩ := hrel
    by_cases hlt : j < l.length
    · have hb : num (l.take j) < 281474976710656 := by
        have h := num_le (l.take j)
        have h2 : (l.take j).length ≤ 6 := by rw [List.length_take]; omega
        have h3 : 256 ^ (l.take j).length ≤ 256 ^ 6 := Nat.pow_le_pow_right (by omega) h2
        omega
      have Hs : Hid (num (l.take (j + 1)) = 256 * num (l.take j) + l[j].toNat) := by
        unfold Hid; rw [List.take_succ_eq_append_getElem hlt, num_snoc]
      have hgi : ∀ h : j < (bs l).size, (bs l)[j]'h = l[j] := fun h => bs_get l j h
      have hb8 := l[j].toNat_lt
      generalize num (l.take j) = x at *
      have hb2 : (x : Int) ≤ 281474976710656 := by omega
      go_wp2_with fail
      go_round
      case rel =>
        exact ⟨j + 1, by omega, by go_num, by rw [Hs.out] <;> go_num⟩
      case measure => simp [intOf]; omega
    · go_wp2_with fail
      go_ret
      obtain rfl : j = l.length := by omega
      rw [List.take_length]
      exact ⟨rfl, rfl⟩
theorem refIpOf (l : List UInt8) (w : World) (hl : l.length ≤ 4) :
    Calls Tryz.prog 227 #[.string (bs l)] w fun e w' => e = .returned (.int .u32 (num l)) ∧ w = w' := by
  have hb : num l < 4294967296 := by
    have h := num_le l
    have h3 : 256 ^ l.length ≤ 256 ^ 4 := Nat.pow_le_pow_right (by omega) hl
    omega
  go_enter Tryz.func227, Tryz.ntmps227
  go_wp2_with fail
  refine (refOf l _ (by omega)).mono ?_
  rintro e w1 ⟨rfl, rfl⟩
  generalize hnx : num l = x at *
  have Hx := Lib.hid hnx
  clear hnx
  have hx : IntKind.u32.wrap (x : Int) = x := by rw [IntKind.wrap_u32']; omega
  go_wp2_with fail
  go_ret
  exact ⟨by rw [Hx.out]; rfl, rfl⟩
def part6 (a : List UInt8) (j : Nat) : Array Value := ((u8s (a.take j)) ++ List.replicate (6 - j) (Value.int .u8 0)).toArray
theorem part6_size (a : List UInt8) (j : Nat) (hj : j ≤ 6) (ha : 6 ≤ a.length) : (part6 a j).size = 6 := by simp [part6, u8s, List.length_take]; omega
theorem part6_set (a : List UInt8) (j : Nat) (hj : j < 6) (ha : 6 ≤ a.length) : (part6 a j).setIfInBounds j (.int .u8 ((a[j]'(by omega)).toNat : Int)) = part6 a (j + 1) := by
  match a, ha with
  | a0 :: a1 :: a2 :: a3 :: a4 :: a5 :: r, _ =>
    match j, hj with
    | 0, _ | 1, _ | 2, _ | 3, _ | 4, _ | 5, _ => rfl
theorem refMacOf (l : List UInt8) (w : World) (h6 : 6 ≤ l.length) (hl : l.length ≤ 9223372036854775807) :
    Calls Tryz.prog 225 #[.string (bs l)] w fun e w' => e = .returned (macV (macOf l)) ∧ Fr noB w w' := by
  go_enter Tryz.func225, Tryz.ntmps225
  go_wp2_with fail
  have hb1 := (Bk.new w 23 zero6).alloc (.cells zero6 23)
  have hb2 := Bk.new (w.alloc (.cells zero6 23)) 23 zero6
  rw [show (w.alloc (.cells zero6 23)).heap.size = w.heap.size + 1 by simp] at hb2
  have hf : Fr noB w ((w.alloc (.cells zero6 23)).alloc (.cells zero6 23)) := ((Fr.refl _ _).alloc _).alloc _
  unfold zero6 at hb1 hb2 hf
  generalize (w.alloc (.cells #[.int .u8 0, .int .u8 0, .int .u8 0, .int .u8 0, .int .u8 0, .int .u8 0] 23)).alloc (.cells #[.int .u8 0, .int .u8 0, .int .u8 0, .int .u8 0, .int .u8 0, .int .u8 0] 23) = w1 at *
  go_loopw [4] (fun i wr => ∃ j : Nat, j ≤ 6 ∧ i = .int .i64 j ∧ Bk wr w.heap.size 23 zero6 ∧ Bk wr (w.heap.size + 1) 23 (part6 l j) ∧ Fr noB w wr) (fun i _ => 6 - (intOf i).toNat)
  case atStart => exact ⟨0, by omega, rfl, hb1, hb2, hf⟩
  case round =>
    obtain ⟨j, hj, rfl, c1, c2, hfr⟩ := hrel
    by_cases hlt : j < 6
    · have hjl : j < l.length := by omega
      have hgi : ∀ h : j < (bs l).size, (bs l)[j]'h = l[j] := fun h => bs_get l j h
      have hps := part6_set l j hlt h6
      have hsz := part6_size l j (by omega) h6
      have hc := c2.cell j
      have hz := c2.free j
      have hset := c2.set j (.int .u8 (l[j].toNat : Int))
      rw [hps] at hset
      have Hset := Lib.hid hset
      have hc' : wr.cell? ⟨w.heap.size + 1, j, none⟩ = some ((part6 l j)[j]'(by omega)) := by rw [hc]; exact Array.getElem?_eq_getElem _
      generalize (part6 l j)[j]'(by omega) = old at *
      clear hps hset hc hsz
      go_wp2_with fail
      refine ⟨⟨j + 1, by omega, by go_num, c1.far (by simp) _, Hset.out, hfr.setCell (p := ⟨w.heap.size + 1, j, none⟩) (fun e => absurd e (by simp)) _⟩, by simp [intOf]; omega⟩
    · obtain rfl : j = 6 := by omega
      have hp6 : part6 l 6 = #[.int .u8 ((l.getD 0 0).toNat : Int), .int .u8 ((l.getD 1 0).toNat : Int), .int .u8 ((l.getD 2 0).toNat : Int), .int .u8 ((l.getD 3 0).toNat : Int), .int .u8 ((l.getD 4 0).toNat : Int), .int .u8 ((l.getD 5 0).toNat : Int)] := by
        match l, h6 with
        | a0 :: a1 :: a2 :: a3 :: a4 :: a5 :: r, _ => rfl
      rw [hp6] at c2
      have hv : macV (macOf l) = .agg #[.int .u8 ((l.getD 0 0).toNat : Int), .int .u8 ((l.getD 1 0).toNat : Int), .int .u8 ((l.getD 2 0).toNat : Int), .int .u8 ((l.getD 3 0).toNat : Int), .int .u8 ((l.getD 4 0).toNat : Int), .int .u8 ((l.getD 5 0).toNat : Int)] := rfl
      have Hv := Lib.hid hv
      clear hp6 hv hb1 hb2 hf
      generalize l.getD 0 0 = d0 at *
      generalize l.getD 1 0 = d1 at *
      generalize l.getD 2 0 = d2 at *
      generalize l.getD 3 0 = d3 at *
      generalize l.getD 4 0 = d4 at *
      generalize l.getD 5 0 = d5 at *
      have hc := c2.cells
      go_wp2_with ((refine wpList_store_bk rfl 23 (.tmp 2) (.tmp 14) rfl w.heap.size _ _ _ rfl rfl c1 rfl (by kernel_rfl) (by kernel_rfl) ?_); intro w9 hx9 hf9)
      have hcx := hx9.cells
      refine bodyPost_ret (v := .agg #[.int .u8 (d0.toNat : Int), .int .u8 (d1.toNat : Int), .int .u8 (d2.toNat : Int), .int .u8 (d3.toNat : Int), .int .u8 (d4.toNat : Int), .int .u8 (d5.toNat : Int)]) (by simp [results, Tryz.results225, go_sem, hcx]) rfl ?_
      exact ⟨by rw [Hv.out], hfr.trans' hf9 (fun b hb e => by unfold oneB at e; omega)⟩
end Go.Proofs.YtcbkaiakdhiloabGreatDoor
namespace Go.Proofs.YtcbkaiakdhiloabGreatDoor
open Go.RowKit Go.Proofs
attribute [local go_sem] bs_size bs_append bs_extract bs_toList
structure EthD where
  «to» : Mac
  fm : Mac
  ty : Nat
  by' : List UInt8
def eth0 : EthD := ⟨(0, 0, 0, 0, 0, 0), (0, 0, 0, 0, 0, 0), 0, []⟩
def ethC (a : EthD) : Array Value := #[.int .u8 (a.to.1.toNat : Int), .int .u8 (a.to.2.1.toNat : Int), .int .u8 (a.to.2.2.1.toNat : Int), .int .u8 (a.to.2.2.2.1.toNat : Int), .int .u8 (a.to.2.2.2.2.1.toNat : Int), .int .u8 (a.to.2.2.2.2.2.toNat : Int), .int .u8 (a.fm.1.toNat : Int), .int .u8 (a.fm.2.1.toNat : Int), .int .u8 (a.fm.2.2.1.toNat : Int), .int .u8 (a.fm.2.2.2.1.toNat : Int), .int .u8 (a.fm.2.2.2.2.1.toNat : Int), .int .u8 (a.fm.2.2.2.2.2.toNat : Int), .int .u16 (a.ty : Int), .string (bs a.by')]
def readEther (l : List UInt8) : EthD × Nat :=
  if l.length < 14 then (eth0, 1)
  else if num (sub l 12 14) < 1536 then (eth0, 3)
  else if 1500 < (sub l 14 l.length).length then (eth0, 7)
  else (⟨macOf l, macOf (sub l 6 l.length), num (sub l 12 14), sub l 14 l.length⟩, 0)
theorem readEther_short (l : List UInt8) (h : l.length < 14) : readEther l = (eth0, 1) := by unfold readEther; rw [if_pos h]
theorem readEther_of (l a3 r : List UInt8) (b0 b1 b2 b3 b4 b5 c0 c1 c2 c3 c4 c5 : UInt8) (e : l = (([b0, b1, b2, b3, b4, b5] ++ [c0, c1, c2, c3, c4, c5]) ++ a3) ++ r) (l3 : a3.length = 2) :
    readEther l = if num a3 < 1536 then (eth0, 3) else if 1500 < r.length then (eth0, 7) else (⟨(b0, b1, b2, b3, b4, b5), (c0, c1, c2, c3, c4, c5), num a3, r⟩, 0) := by
  have h14 : ¬ l.length < 14 := by rw [e]; simp [l3]
  match a3, l3 with
  | [x0, x1], _ =>
    unfold readEther
    rw [if_neg h14, sub_rest, sub_rest]
    subst e
    rfl
def ethOk (l : List UInt8) (c : Array Value) : Prop := ∃ x, c = ethC x ∧ readEther l = (x, 0)
def ethBad (l : List UInt8) (er : Int) : Prop := ∃ k : Nat, er = k ∧ readEther l = (eth0, k)
theorem ethBy (l : List UInt8) (hl : l.length ≤ 9223372036854775807) (p : Nat) (w : World) (hR : Rd w p l) :
    Calls Tryz.prog 61 #[.pointer (some ⟨p, 0, none⟩)] w (byPost (ethOk l) (ethBad l) p w) := by
  have hp := Bk.lt hR
  go_enter Tryz.func61, Tryz.ntmps61
  go_wp2_with fail
  have hr0 := Bk.alloc hR (.cells zcEth 27)
  have hx0 := Bk.new w 27 zcEth
  have hf0 : Fr (oneB p) w (w.alloc (.cells zcEth 27)) := (Fr.refl _ _).alloc _
  unfold zcEth at hr0 hx0 hf0
  generalize w.alloc (.cells #[.int .u8 0, .int .u8 0, .int .u8 0, .int .u8 0, .int .u8 0, .int .u8 0, .int .u8 0, .int .u8 0, .int .u8 0, .int .u8 0, .int .u8 0, .int .u8 0, .int .u16 0, .string ⟨#[]⟩] 27) = w1 at *
  have hbad : ∀ w', l.length < 14 → Fr (oneB p) w w' → byPost (ethOk l) (ethBad l) p w (.panicked (faultC 1)) w' :=
    fun w' h hf => ⟨.inr ⟨1, ⟨1, rfl, readEther_short l h⟩, rfl⟩, hf⟩
  have Hbad := Lib.hid hbad
  clear hbad
  refine (tMAC p l _ hr0 hl).mono ?_
  rintro e w2 (⟨m1a, m1b, m1c, m1d, m1e, m1f, r1, c1, b1, rfl, hr1, hf1⟩ | ⟨hlt, rfl, hf1⟩)
  rotate_left
  · exact ⟨rfl, Hbad.out _ (by omega) (hf0.trans hf1)⟩
  have g1 := hf1
  have C1 : Hid (Cut l [m1a, m1b, m1c, m1d, m1e, m1f] r1 6) := c1
  clear c1 hf1 hr0
  go_wp2_with fail
  refine (tMAC p r1 _ hr1 b1).mono ?_
  rintro e w3 (⟨m2a, m2b, m2c, m2d, m2e, m2f, r2, c2, b2, rfl, hr2, hf2⟩ | ⟨hlt, rfl, hf2⟩)
  rotate_left
  · exact ⟨rfl, Hbad.out _ (by have x1 := C1.out; have x2 := congrArg List.length x1.1; rw [List.length_append, x1.2] at x2; omega) (hf0.trans (g1.trans hf2))⟩
  have g2 := g1.trans hf2
  have C2 : Hid (Cut l ([m1a, m1b, m1c, m1d, m1e, m1f] ++ [m2a, m2b, m2c, m2d, m2e, m2f]) r2 12) := by
    refine ⟨?_, ?_⟩
    · rw [C1.out.1, c2.1]; simp
    · rw [List.length_append, C1.out.2, c2.2]
  clear g1
  clear c2 hf2 hr1
  go_wp2_with fail
  refine (tU16 p r2 _ hr2 b2).mono ?_
  rintro e w4 (⟨a3, r3, c3, b3, rfl, hr3, hf3⟩ | ⟨hlt, rfl, hf3⟩)
  rotate_left
  · exact ⟨rfl, Hbad.out _ (by have x1 := C2.out; have x2 := congrArg List.length x1.1; rw [List.length_append, x1.2] at x2; omega) (hf0.trans (g2.trans hf3))⟩
  have g3 := g2.trans hf3
  have C3 : Hid (Cut l (([m1a, m1b, m1c, m1d, m1e, m1f] ++ [m2a, m2b, m2c, m2d, m2e, m2f]) ++ a3) r3 14) := by
    refine ⟨?_, ?_⟩
    · rw [C2.out.1, c3.1]; simp
    · rw [List.length_append, C2.out.2, c3.2]
  clear g2
  clear c3 hf3 hr2
  have hspec : readEther l = if num a3 < 1536 then (eth0, 3) else if 1500 < r3.length then (eth0, 7) else (⟨(m1a, m1b, m1c, m1d, m1e, m1f), (m2a, m2b, m2c, m2d, m2e, m2f), num a3, r3⟩, 0) := by
    obtain ⟨e1, e2⟩ := C3.out
    have l3 : a3.length = 2 := by simp at e2; omega
    exact readEther_of l a3 r3 _ _ _ _ _ _ _ _ _ _ _ _ e1 l3
  have Hs := Lib.hid hspec
  clear hspec
  have hxk := hx0.keep g3 (by unfold oneB; omega)
  have hfk := hf0.trans g3
  have hpk : p ≠ w4.heap.size := by have := Bk.lt hr3; omega
  have hwk : w.heap.size < w4.heap.size := hxk.lt
  clear hx0 hf0 g3
  have hbk := Bk.new w4 27 #[.int .u8 (m1a.toNat : Int), .int .u8 (m1b.toNat : Int), .int .u8 (m1c.toNat : Int), .int .u8 (m1d.toNat : Int), .int .u8 (m1e.toNat : Int), .int .u8 (m1f.toNat : Int), .int .u8 (m2a.toNat : Int), .int .u8 (m2b.toNat : Int), .int .u8 (m2c.toNat : Int), .int .u8 (m2d.toNat : Int), .int .u8 (m2e.toNat : Int), .int .u8 (m2f.toNat : Int), .int .u16 (num a3 : Int), .string ⟨#[]⟩]
  have hra := Bk.alloc hr3 (.cells #[.int .u8 (m1a.toNat : Int), .int .u8 (m1b.toNat : Int), .int .u8 (m1c.toNat : Int), .int .u8 (m1d.toNat : Int), .int .u8 (m1e.toNat : Int), .int .u8 (m1f.toNat : Int), .int .u8 (m2a.toNat : Int), .int .u8 (m2b.toNat : Int), .int .u8 (m2c.toNat : Int), .int .u8 (m2d.toNat : Int), .int .u8 (m2e.toNat : Int), .int .u8 (m2f.toNat : Int), .int .u16 (num a3 : Int), .string ⟨#[]⟩] 27)
  have hxa := hxk.alloc (.cells #[.int .u8 (m1a.toNat : Int), .int .u8 (m1b.toNat : Int), .int .u8 (m1c.toNat : Int), .int .u8 (m1d.toNat : Int), .int .u8 (m1e.toNat : Int), .int .u8 (m1f.toNat : Int), .int .u8 (m2a.toNat : Int), .int .u8 (m2b.toNat : Int), .int .u8 (m2c.toNat : Int), .int .u8 (m2d.toNat : Int), .int .u8 (m2e.toNat : Int), .int .u8 (m2f.toNat : Int), .int .u16 (num a3 : Int), .string ⟨#[]⟩] 27)
  have hfa := hfk.alloc (.cells #[.int .u8 (m1a.toNat : Int), .int .u8 (m1b.toNat : Int), .int .u8 (m1c.toNat : Int), .int .u8 (m1d.toNat : Int), .int .u8 (m1e.toNat : Int), .int .u8 (m1f.toNat : Int), .int .u8 (m2a.toNat : Int), .int .u8 (m2b.toNat : Int), .int .u8 (m2c.toNat : Int), .int .u8 (m2d.toNat : Int), .int .u8 (m2e.toNat : Int), .int .u8 (m2f.toNat : Int), .int .u16 (num a3 : Int), .string ⟨#[]⟩] 27)
  clear hxk hfk hr3
  have hv := hbk.cells
  by_cases h1 : num a3 < 1536
  · have h1b : (1536 : Int) ≤ (num a3 : Int) ↔ False := by simp; omega
    have H1 := Lib.hid h1
    clear h1
    go_wp2_with fail
    refine (must_no _ _).mono ?_
    rintro e w8 ⟨rfl, rfl⟩
    refine ⟨rfl, .inr ⟨3, ⟨3, rfl, ?_⟩, rfl⟩, hfa⟩
    rw [Hs.out, if_pos H1.out]
  · have h1b : (1536 : Int) ≤ (num a3 : Int) := by omega
    have H1 := Lib.hid h1
    clear h1
    go_wp2_with fail
    refine (must_yes _ _).mono ?_
    rintro e w8 ⟨rfl, rfl⟩
    go_wp2_with fail
    refine (rLen p r3 _ hra).mono ?_
    rintro e w8 ⟨rfl, rfl⟩
    by_cases h2 : 1500 < r3.length
    · have h2b : (r3.length : Int) ≤ 1500 ↔ False := by simp; omega
      have H2 := Lib.hid h2
      clear h2
      go_wp2_with fail
      refine (must_no _ _).mono ?_
      rintro e w8 ⟨rfl, rfl⟩
      refine ⟨rfl, .inr ⟨7, ⟨7, rfl, ?_⟩, rfl⟩, hfa⟩
      rw [Hs.out, if_neg H1.out, if_pos H2.out]
    · have h2b : (r3.length : Int) ≤ 1500 := by omega
      have H2 := Lib.hid h2
      clear h2
      go_wp2_with fail
      refine (must_yes _ _).mono ?_
      rintro e w8 ⟨rfl, rfl⟩
      go_wp2_with fail
      refine (rRest p r3 _ hra b3).mono ?_
      rintro e w9 ⟨rfl, hr9, hf9⟩
      have hxb := hxa.keep hf9 (by unfold oneB; omega)
      have hbb := hbk.keep hf9 (by unfold oneB; omega)
      have hfb := hfa.trans hf9
      clear hxa hbk hfa hf9 hr9 hra hv
      have hz9 := hbb.frees
      have hv9 := hbb.cells
      have hb13 : Bk (w9.setCell ⟨w4.heap.size, 13, none⟩ (.string (bs r3))) w4.heap.size 27 #[.int .u8 (m1a.toNat : Int), .int .u8 (m1b.toNat : Int), .int .u8 (m1c.toNat : Int), .int .u8 (m1d.toNat : Int), .int .u8 (m1e.toNat : Int), .int .u8 (m1f.toNat : Int), .int .u8 (m2a.toNat : Int), .int .u8 (m2b.toNat : Int), .int .u8 (m2c.toNat : Int), .int .u8 (m2d.toNat : Int), .int .u8 (m2e.toNat : Int), .int .u8 (m2f.toNat : Int), .int .u16 (num a3 : Int), .string (bs r3)] := by simpa using hbb.set 13 (.string (bs r3))
      have hx13 := hxb.far (p := ⟨w4.heap.size, 13, none⟩) (by simp; omega) (.string (bs r3))
      have hf13 := hfb.setCell (p := ⟨w4.heap.size, 13, none⟩) (fun e => absurd e (by simp; omega)) (.string (bs r3))
      have hv13 := hb13.cells
      clear hbb hxb hfb hb13
      go_wp2_with ((refine wpList_store_bk rfl 27 (.tmp 2) (.tmp 22) rfl w.heap.size _ _ _ rfl rfl hx13 rfl (by kernel_rfl) (by kernel_rfl) ?_); intro w10 hx10 hf10)
      have hcx := hx10.cells
      refine bodyPost_ret (v := Value.agg (ethC ⟨(m1a, m1b, m1c, m1d, m1e, m1f), (m2a, m2b, m2c, m2d, m2e, m2f), num a3, r3⟩)) (by simp [results, Tryz.results61, go_sem, hcx, ethC]) rfl ?_
      refine ⟨.inl ⟨_, ⟨_, rfl, ?_⟩, rfl⟩, hf13.trans' hf10 (fun b hb e => by unfold oneB at e; omega)⟩
      rw [Hs.out, if_neg H1.out, if_neg H2.out]
def ethPost (l : List UInt8) (w : World) (e : Ending) (w' : World) : Prop := e = .returned (.tuple #[.agg (ethC (readEther l).1), .int .i64 ((readEther l).2 : Int)]) ∧ Fr noB w w'
theorem ethRead (l : List UInt8) (w : World) (hl : l.length ≤ 9223372036854775807) :
    Calls Tryz.prog 60 #[.string (bs l), .func (.func 61) #[] #[]] w (ethPost l w) := by
  refine (readEth l w (ethOk l) (ethBad l) (by rintro c ⟨x, rfl, _⟩; exact ⟨rfl, by kernel_rfl⟩) (fun p w1 _ hR _ => ethBy l hl p w1 hR)).mono ?_
  rintro e w' ⟨⟨c, ⟨x, rfl, hx⟩, rfl⟩ | ⟨er, ⟨k, rfl, hk⟩, rfl⟩, hf⟩
  · exact ⟨by rw [hx]; rfl, hf⟩
  · exact ⟨by rw [hk]; rfl, hf⟩
end Go.Proofs.YtcbkaiakdhiloabGreatDoor
