/- An argument of type api.TFTP: its cells, its fields in memory, and what its bulk bounds. -/
import Derived.Test.YtcbkaiakdhiloabDoorRowS
import Derived.Test.YtcbkaiakdhiloabDoorRow
import Derived.Test.YtcbkaiakdhiloabDoorTftLawW
import Derived.Deep.SlicePairs
set_option linter.unusedSimpArgs false
set_option linter.unusedVariables false
namespace Go.Proofs.YtcbkaiakdhiloabDoor
open Go.RowKit Go.Proofs Go.ChangeShapes Go.WideShapes Go.ChangeAt

section
variable {H : Type}
theorem bulk_mem {d : DataW H} {l : List (DataW H)} (h : d ∈ l) : Rows.uptoBulk d ≤ Rows.uptoBulkAll l := by
  induction l with
  | nil => cases h
  | cons x r ih =>
    simp only [Rows.uptoBulkAll]
    rcases List.mem_cons.1 h with e | e
    · subst e; omega
    · have := ih e; omega
theorem bulk_append (l r : List (DataW H)) : Rows.uptoBulkAll (l ++ r) = Rows.uptoBulkAll l + Rows.uptoBulkAll r := by
  induction l with
  | nil => simp [Rows.uptoBulkAll]
  | cons x l ih => simp only [List.cons_append, Rows.uptoBulkAll, ih]; omega
end
theorem wtF_app : ∀ (a b : List FldD), wtF (a ++ b) = wtF a + wtF b
  | [], b => by simp [wtF]
  | o :: r, b => by simp only [List.cons_append, wtF, wtF_app r b]; omega
theorem fldC_at : ∀ (os : List FldD) (j : Nat) (u : Value), (fldC os)[j]? = some u → ∃ i o, os[i]? = some o ∧ ((j = i * 2 ∧ u = .string (bs o.name)) ∨ (j = i * 2 + 1 ∧ u = .string (bs o.value)))
  | [], j, u, h => by simp [fldC] at h
  | o :: r, 0, u, h => by simp [fldC] at h; exact ⟨0, o, rfl, .inl ⟨rfl, h.symm⟩⟩
  | o :: r, 1, u, h => by simp [fldC] at h; exact ⟨0, o, rfl, .inr ⟨rfl, h.symm⟩⟩
  | o :: r, j + 2, u, h => by
    simp only [fldC, List.getElem?_cons_succ] at h
    obtain ⟨i, o', h1, h2⟩ := fldC_at r j u h
    exact ⟨i + 1, o', h1, h2.imp (fun h => ⟨by omega, h.2⟩) (fun h => ⟨by omega, h.2⟩)⟩
theorem slr_flds {W : World} {a : Addr} {os : List FldD} (h : ∀ i o, os[i]? = some o → W.cell? (a.add (i * 2)) = some (.string (bs o.name)) ∧ W.cell? (a.add (i * 2 + 1)) = some (.string (bs o.value))) :
    SlR W noB 2 (some a) os.length (fldC os) := by
  refine ⟨fldC_length os, fun hn => ⟨a, rfl, ?_, fun x => x, ?_⟩⟩
  · obtain ⟨o, ho⟩ : ∃ o, os[0]? = some o := ⟨_, List.getElem?_eq_getElem hn⟩
    have := cell_ltP (h 0 o ho).1
    rwa [block_add] at this
  · intro j u hu
    obtain ⟨i, o, ho, ⟨rfl, rfl⟩ | ⟨rfl, rfl⟩⟩ := fldC_at os j u hu
    · exact (h i o ho).1
    · exact (h i o ho).2
/-- a slice of fields, opened -/
theorem openFlds {H : Type} {enc : TypeId × Value → H} {W : World} {n : Nat} {c : Value} {y : DataW H × List MemPlace} (h : DataW.trod enc Tryd.prog W 0 (fun _ => true) true n 45 [c] = some y) :
    ∃ (os : List FldD) (Ao : Option Addr) (cap : Nat), c = .slice Ao os.length cap ∧ os.length ≤ cap ∧ SlR W noB 2 Ao os.length (fldC os) ∧ wtF os ≤ Rows.uptoBulk y.1 := by
  rcases Go.Deep.open_slice_pairs Tryd.underlying45 Tryd.underlying66 (by kernel_rfl) rfl rfl (by kernel_rfl) (by kernel_rfl) h with ⟨hc, rfl⟩ | ⟨a, len, cap, m, n', V0, V1, D0, D1, P0, P1, hc, hx1, hlc, hx2, hm, rfl, hcell⟩
  · injection hc with hc _
    subst hc
    exact ⟨[], none, 0, rfl, Nat.le_refl _, SlR.nil, Nat.zero_le _⟩
  · injection hc with hc _
    subst hc
    have hlm : len ≤ m := by simp at hm; omega
    have each : ∀ i, i < len → ∃ o : FldD, V0 i = .string (bs o.name) ∧ V1 i = .string (bs o.value) ∧ D0 i = .lit (.string o.name) ∧ D1 i = .lit (.string o.value) := by
      intro i hi
      obtain ⟨_, _, h0, h1⟩ := hcell i (by omega)
      obtain ⟨q, hq, hqx, _⟩ := DataW.trod_string Tryd.underlying9 h0
      obtain ⟨s, hs, hsx, _⟩ := DataW.trod_string Tryd.underlying9 h1
      injection hq with hq _
      injection hs with hs _
      refine ⟨⟨q.data.toList, s.data.toList⟩, ?_, ?_, ?_, ?_⟩
      · rw [hq, bs_of]
      · rw [hs, bs_of]
      · simpa using congrArg Prod.fst hqx
      · simpa using congrArg Prod.fst hsx
    haveI : Inhabited FldD := ⟨⟨[], []⟩⟩
    obtain ⟨f, hf⟩ := Go.Deep.choose_lt (α := FldD) each
    have hlen : ((List.range len).map f).length = len := by simp
    have hget : ∀ i o, ((List.range len).map f)[i]? = some o → i < len ∧ o = f i := by
      intro i o h
      rw [List.getElem?_map] at h
      rcases Nat.lt_or_ge i len with hi | hi
      · rw [List.getElem?_range hi] at h; simp at h; exact ⟨hi, h.symm⟩
      · rw [List.getElem?_eq_none (by simpa using hi)] at h; simp at h
    refine ⟨(List.range len).map f, some a, cap, by rw [hlen], by rw [hlen]; omega, slr_flds ?_, ?_⟩
    · intro i o ho
      obtain ⟨hi, rfl⟩ := hget i o ho
      obtain ⟨c0, c1, _, _⟩ := hcell i (by omega)
      rw [c0, c1, (hf i hi).1, (hf i hi).2.1]
      exact ⟨rfl, rfl⟩
    · simp only [Rows.uptoBulk]
      have h1 : ∀ (k : Nat), k ≤ len → wtF ((List.range k).map f) ≤ Rows.uptoBulkAll ((List.range k).map fun i => DataW.agg [D0 i, D1 i]) := by
        intro k
        induction k with
        | zero => intro _; exact Nat.zero_le _
        | succ k ih =>
          intro hk
          have h2 := ih (by omega)
          rw [List.range_succ, List.map_append, List.map_append, bulk_append, wtF_app]
          have h3 : D0 k = .lit (.string (f k).name) := (hf k (by omega)).2.2.1
          have h4 : D1 k = .lit (.string (f k).value) := (hf k (by omega)).2.2.2
          simp only [List.map_cons, List.map_nil, Rows.uptoBulkAll, Rows.uptoBulk, wtF, h3, h4]
          omega
      have := h1 len (Nat.le_refl _)
      omega
set_option maxRecDepth 100000 in
theorem openTft {H : Type} {enc : TypeId × Value → H} {W : World} {r : Reach} {base : Nat} {v : Value} {d : DataW H} {p : List MemPlace} (hv : Value.okWide Tryd.prog W r base 47 v)
    (hd : DataW.Trod enc Tryd.prog W 0 (fun _ => true) true 47 v d p) :
    ∃ (op bk : Nat) (tx dt : List UInt8) (fs : List FldD) (Ao : Option Addr) (cap : Nat),
      v = .agg #[.int .u16 (op : Int), .int .u16 (bk : Int), .string (bs tx), .string (bs dt), .slice Ao fs.length cap] ∧ op < 65536 ∧ bk < 65536 ∧ fs.length ≤ cap ∧ SlR W noB 2 Ao fs.length (fldC fs) ∧ wtF fs + tx.length + dt.length ≤ Rows.uptoBulk d := by
  obtain ⟨l, rfl, hl, hr⟩ := okWide_agg Tryd.underlying47 hv
  have hcl : Tryd.prog.cellsOf 47 = 5 := by kernel_rfl
  replace hl := hl.trans hcl
  have hts : Tryd.prog.cellTypes Tryd.prog.depth 47 = some [23, 23, 9, 9, 45] := by kernel_rfl
  obtain ⟨fuel, hf⟩ := hd
  obtain ⟨xs, n, _, hx, _, hxl, hfld⟩ := DataW.trod_struct Tryd.underlying47 hf
  match l, hl with
  | [c0, c1, c2, c3, c4], _ =>
    obtain ⟨op, b0, rfl⟩ := cell_u16 Tryd.underlying23 (cell_at hr hts 0 rfl rfl)
    obtain ⟨bk, b1, rfl⟩ := cell_u16 Tryd.underlying23 (cell_at hr hts 1 rfl rfl)
    have h2 := hfld 2 _ rfl
    have h3 := hfld 3 _ rfl
    have h4 := hfld 4 _ rfl
    have hc1 : Tryd.prog.cellsOf 9 = 1 := by kernel_rfl
    have hcs : Tryd.prog.cellsOf 45 = 1 := by kernel_rfl
    change DataW.trod enc Tryd.prog W 0 (fun _ => true) true n 9 ((List.drop 2 [.int .u16 (op : Int), .int .u16 (bk : Int), c2, c3, c4]).take (Tryd.prog.cellsOf 9)) = _ at h2
    change DataW.trod enc Tryd.prog W 0 (fun _ => true) true n 9 ((List.drop 3 [.int .u16 (op : Int), .int .u16 (bk : Int), c2, c3, c4]).take (Tryd.prog.cellsOf 9)) = _ at h3
    change DataW.trod enc Tryd.prog W 0 (fun _ => true) true n 45 ((List.drop 4 [.int .u16 (op : Int), .int .u16 (bk : Int), c2, c3, c4]).take (Tryd.prog.cellsOf 45)) = _ at h4
    rw [hc1] at h2 h3
    rw [hcs] at h4
    change DataW.trod enc Tryd.prog W 0 (fun _ => true) true n 9 [c2] = _ at h2
    change DataW.trod enc Tryd.prog W 0 (fun _ => true) true n 9 [c3] = _ at h3
    change DataW.trod enc Tryd.prog W 0 (fun _ => true) true n 45 [c4] = _ at h4
    match xs, hxl with
    | [y0, y1, y2, y3, y4], _ =>
      obtain ⟨s2, e2, d2, _⟩ := DataW.trod_string Tryd.underlying9 h2
      obtain ⟨s3, e3, d3, _⟩ := DataW.trod_string Tryd.underlying9 h3
      injection e2 with e2 _
      injection e3 with e3 _
      obtain ⟨fs, Ao, cap, rfl, hc, hA, hw⟩ := openFlds (y := y4) h4
      have q2 : y2.1 = .lit (.string s2.data.toList) := by simpa using congrArg Prod.fst d2
      have q3 : y3.1 = .lit (.string s3.data.toList) := by simpa using congrArg Prod.fst d3
      refine ⟨op, bk, s2.data.toList, s3.data.toList, fs, Ao, cap, by rw [e2, e3, bs_of, bs_of], b0, b1, hc, hA, ?_⟩
      have e : d = .agg [y0.1, y1.1, y2.1, y3.1, y4.1] := by simpa using congrArg Prod.fst hx
      rw [e]
      simp only [Rows.uptoBulk, Rows.uptoBulkAll, q2, q3]
      omega
end Go.Proofs.YtcbkaiakdhiloabDoor
