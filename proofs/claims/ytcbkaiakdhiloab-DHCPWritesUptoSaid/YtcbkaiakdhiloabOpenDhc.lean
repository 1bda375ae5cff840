/- An argument of type api.DHCP: its cells, its options in memory, and what its bulk bounds. -/
import Derived.Test.YtcbkaiakdhiloabRowS
import Derived.Test.YtcbkaiakdhiloabRow
import Derived.Test.YtcbkaiakdhiloabOptAdd
import Derived.Deep.SlicePairs
set_option linter.unusedSimpArgs false
set_option linter.unusedVariables false
namespace Go.Proofs.Ytcbkaiakdhiloab
open Go.RowKit Go.Proofs Go.ChangeShapes Go.WideShapes Go.ChangeAt

section
variable {H : Type}
theorem bulk_mem {d : DataW H} {l : List (DataW H)} (h : d ∈ l) : Rows.uptoBulk d ≤ Rows.uptoBulkAll l := by
  induction l with
  | nil => cases h
  | cons x r ih =>
    simp only [Rows.uptoBulkAll]
    rcases List.mem_cons.1 h with e | e
    · subst e; omega
    · have := ih e; omega
theorem bulk_append (l r : List (DataW H)) : Rows.uptoBulkAll (l ++ r) = Rows.uptoBulkAll l + Rows.uptoBulkAll r := by
  induction l with
  | nil => simp [Rows.uptoBulkAll]
  | cons x l ih => simp only [List.cons_append, Rows.uptoBulkAll, ih]; omega
theorem wtO_append : ∀ (a b : List OptD), wtO (a ++ b) = wtO a + wtO b
  | [], b => by simp [wtO]
  | o :: r, b => by simp only [List.cons_append, wtO, wtO_append r b]; omega
theorem bulk_opts (os : List OptD) (D : OptD → DataW H) (hD : ∀ o ∈ os, o.data.length + 1 ≤ Rows.uptoBulk (D o)) : wtO os ≤ Rows.uptoBulkAll (os.map D) := by
  induction os with
  | nil => exact Nat.zero_le _
  | cons o r ih =>
    simp only [List.map_cons, Rows.uptoBulkAll, wtO]
    have h1 := hD o (by simp)
    have h2 := ih (fun o' h => hD o' (by simp [h]))
    omega
end
theorem optC_at : ∀ (os : List OptD) (j : Nat) (u : Value), (optC os)[j]? = some u → ∃ i o, os[i]? = some o ∧ ((j = i * 2 ∧ u = .int .u8 (o.code.toNat : Int)) ∨ (j = i * 2 + 1 ∧ u = .string (bs o.data)))
  | [], j, u, h => by simp [optC] at h
  | o :: r, 0, u, h => by simp [optC] at h; exact ⟨0, o, rfl, .inl ⟨rfl, h.symm⟩⟩
  | o :: r, 1, u, h => by simp [optC] at h; exact ⟨0, o, rfl, .inr ⟨rfl, h.symm⟩⟩
  | o :: r, j + 2, u, h => by
    simp only [optC, List.getElem?_cons_succ] at h
    obtain ⟨i, o', h1, h2⟩ := optC_at r j u h
    exact ⟨i + 1, o', h1, h2.imp (fun h => ⟨by omega, h.2⟩) (fun h => ⟨by omega, h.2⟩)⟩
theorem cell_lt {w : World} {a : Addr} {v : Value} (h : w.cell? a = some v) : a.block < w.heap.size := by
  rcases Nat.lt_or_ge a.block w.heap.size with h1 | h1
  · exact h1
  · unfold World.cell? at h; rw [Array.getElem?_eq_none h1] at h; cases h
theorem cell_bool {P : Program} {w : World} {r : Reach} {base : Nat} {u : TypeId} {c : Value} (ht : P.underlying u = some .bool) (h : Cell.okWide P w r base u c) : ∃ b : Bool, c = .bool b := by
  unfold Cell.okWide at h
  rw [ht] at h
  have h' : Cell.ok P w r base u c := by cases c <;> simpa using h
  unfold Cell.ok at h'
  rw [ht] at h'
  cases c <;> simp at h'
  exact ⟨_, rfl⟩
theorem slr_opts {W : World} {a : Addr} {os : List OptD} (h : ∀ i o, os[i]? = some o → W.cell? (a.add (i * 2)) = some (.int .u8 (o.code.toNat : Int)) ∧ W.cell? (a.add (i * 2 + 1)) = some (.string (bs o.data))) :
    SlR W noB 2 (some a) os.length (optC os) := by
  refine ⟨optC_length os, fun hn => ⟨a, rfl, ?_, fun x => x, ?_⟩⟩
  · obtain ⟨o, ho⟩ : ∃ o, os[0]? = some o := ⟨_, List.getElem?_eq_getElem hn⟩
    have := cell_lt (h 0 o ho).1
    rwa [block_add] at this
  · intro j u hu
    obtain ⟨i, o, ho, ⟨rfl, rfl⟩ | ⟨rfl, rfl⟩⟩ := optC_at os j u hu
    · exact (h i o ho).1
    · exact (h i o ho).2
/-- a slice of options, opened -/
theorem openOpts {H : Type} {enc : TypeId × Value → H} {W : World} {n : Nat} {c : Value} {y : DataW H × List MemPlace} (h : DataW.trod enc Try.prog W 0 (fun _ => true) true n 26 [c] = some y) :
    ∃ (os : List OptD) (Ao : Option Addr) (cap : Nat), c = .slice Ao os.length cap ∧ SlR W noB 2 Ao os.length (optC os) ∧ wtO os ≤ Rows.uptoBulk y.1 := by
  rcases Go.Deep.open_slice_pairs Try.underlying26 Try.underlying56 (by kernel_rfl) rfl rfl (by kernel_rfl) (by kernel_rfl) h with ⟨hc, rfl⟩ | ⟨a, len, cap, m, n', V0, V1, D0, D1, P0, P1, hc, _, hlc, _, hm, rfl, hcell⟩
  · injection hc with hc _
    subst hc
    exact ⟨[], none, 0, rfl, SlR.nil, Nat.zero_le _⟩
  · injection hc with hc _
    subst hc
    have hlm : len ≤ m := by simp at hm; omega
    have each : ∀ i, i < len → ∃ o : OptD, V0 i = .int .u8 (o.code.toNat : Int) ∧ V1 i = .string (bs o.data) ∧ D1 i = .lit (.string o.data) := by
      intro i hi
      obtain ⟨_, _, h0, h1⟩ := hcell i (by omega)
      obtain ⟨q, hq, _, hwf⟩ := DataW.trod_int Try.underlying5 h0
      obtain ⟨s, hs, hsx, _⟩ := DataW.trod_string Try.underlying9 h1
      injection hq with hq _
      injection hs with hs _
      have hq2 : 0 ≤ q ∧ q ≤ 255 := by simpa [Lit.wf, IntKind.min, IntKind.max, IntKind.signed, IntKind.bits] using hwf
      refine ⟨⟨UInt8.ofNat q.toNat, s.data.toList⟩, ?_, ?_, ?_⟩
      · rw [hq, UInt8.toNat_ofNat']; congr 1; omega
      · rw [hs, bs_of]
      · simpa using congrArg Prod.fst hsx
    haveI : Inhabited OptD := ⟨⟨0, []⟩⟩
    obtain ⟨f, hf⟩ := Go.Deep.choose_lt (α := OptD) each
    have hlen : ((List.range len).map f).length = len := by simp
    have hget : ∀ i o, ((List.range len).map f)[i]? = some o → i < len ∧ o = f i := by
      intro i o h
      rw [List.getElem?_map] at h
      rcases Nat.lt_or_ge i len with hi | hi
      · rw [List.getElem?_range hi] at h; simp at h; exact ⟨hi, h.symm⟩
      · rw [List.getElem?_eq_none (by simpa using hi)] at h; simp at h
    refine ⟨(List.range len).map f, some a, cap, by rw [hlen], slr_opts ?_, ?_⟩
    · intro i o ho
      obtain ⟨hi, rfl⟩ := hget i o ho
      obtain ⟨c0, c1, _, _⟩ := hcell i (by omega)
      rw [c0, c1, (hf i hi).1, (hf i hi).2.1]
      exact ⟨rfl, rfl⟩
    · simp only [Rows.uptoBulk]
      have h1 : ∀ (k : Nat), k ≤ len → wtO ((List.range k).map f) ≤ Rows.uptoBulkAll ((List.range k).map fun i => DataW.agg [D0 i, D1 i]) := by
        intro k
        induction k with
        | zero => intro _; exact Nat.zero_le _
        | succ k ih =>
          intro hk
          have h2 := ih (by omega)
          rw [List.range_succ, List.map_append, List.map_append, bulk_append, wtO_append]
          have h3 : D1 k = .lit (.string (f k).data) := (hf k (by omega)).2.2
          simp only [List.map_cons, List.map_nil, Rows.uptoBulkAll, Rows.uptoBulk, wtO, h3]
          omega
      have := h1 len (Nat.le_refl _)
      omega
set_option maxRecDepth 100000 in
theorem openDhc {H : Type} {enc : TypeId × Value → H} {W : World} {r : Reach} {base : Nat} {v : Value} {d : DataW H} {p : List MemPlace} (hv : Value.okWide Try.prog W r base 28 v)
    (hd : DataW.Trod enc Try.prog W 0 (fun _ => true) true 28 v d p) :
    ∃ (rp : Bool) (xid client yours next : Nat) (m0 m1 m2 m3 m4 m5 : UInt8) (os : List OptD) (Ao : Option Addr) (cap : Nat),
      v = .agg #[.bool rp, .int .u32 (xid : Int), .int .u32 (client : Int), .int .u32 (yours : Int), .int .u32 (next : Int), .int .u8 (m0.toNat : Int), .int .u8 (m1.toNat : Int), .int .u8 (m2.toNat : Int), .int .u8 (m3.toNat : Int), .int .u8 (m4.toNat : Int), .int .u8 (m5.toNat : Int), .slice Ao os.length cap] ∧ xid < 4294967296 ∧ client < 4294967296 ∧ yours < 4294967296 ∧ next < 4294967296 ∧ SlR W noB 2 Ao os.length (optC os) ∧ wtO os ≤ Rows.uptoBulk d := by
  obtain ⟨l, rfl, hl, hr⟩ := okWide_agg Try.underlying28 hv
  have hcl : Try.prog.cellsOf 28 = 12 := by kernel_rfl
  replace hl := hl.trans hcl
  have hts : Try.prog.cellTypes Try.prog.depth 28 = some [4, 22, 23, 23, 23, 5, 5, 5, 5, 5, 5, 26] := by kernel_rfl
  obtain ⟨fuel, hf⟩ := hd
  obtain ⟨xs, n, _, hx, _, hxl, hfld⟩ := DataW.trod_struct Try.underlying28 hf
  match l, hl with
  | [c0, c1, c2, c3, c4, c5, c6, c7, c8, c9, c10, c11], _ =>
    obtain ⟨xid, b1, rfl⟩ := cell_u32 Try.underlying22 (cell_at hr hts 1 rfl rfl)
    obtain ⟨client, b2, rfl⟩ := cell_u32 Try.underlying23 (cell_at hr hts 2 rfl rfl)
    obtain ⟨yours, b3, rfl⟩ := cell_u32 Try.underlying23 (cell_at hr hts 3 rfl rfl)
    obtain ⟨next, b4, rfl⟩ := cell_u32 Try.underlying23 (cell_at hr hts 4 rfl rfl)
    obtain ⟨m0, rfl⟩ := cell_u8 Try.underlying5 (cell_at hr hts 5 rfl rfl)
    obtain ⟨m1, rfl⟩ := cell_u8 Try.underlying5 (cell_at hr hts 6 rfl rfl)
    obtain ⟨m2, rfl⟩ := cell_u8 Try.underlying5 (cell_at hr hts 7 rfl rfl)
    obtain ⟨m3, rfl⟩ := cell_u8 Try.underlying5 (cell_at hr hts 8 rfl rfl)
    obtain ⟨m4, rfl⟩ := cell_u8 Try.underlying5 (cell_at hr hts 9 rfl rfl)
    obtain ⟨m5, rfl⟩ := cell_u8 Try.underlying5 (cell_at hr hts 10 rfl rfl)
    have hs := hfld 6 _ rfl
    have hcs : Try.prog.cellsOf 26 = 1 := by kernel_rfl
    change DataW.trod enc Try.prog W 0 (fun _ => true) true n 26 ((List.drop 11 [c0, .int .u32 (xid : Int), .int .u32 (client : Int), .int .u32 (yours : Int), .int .u32 (next : Int), .int .u8 (m0.toNat : Int), .int .u8 (m1.toNat : Int), .int .u8 (m2.toNat : Int), .int .u8 (m3.toNat : Int), .int .u8 (m4.toNat : Int), .int .u8 (m5.toNat : Int), c11]).take (Try.prog.cellsOf 26)) = _ at hs
    rw [hcs] at hs
    change DataW.trod enc Try.prog W 0 (fun _ => true) true n 26 [c11] = _ at hs
    obtain ⟨rp, rfl⟩ := cell_bool Try.underlying4 (cell_at hr hts 0 rfl rfl)
    match xs, hxl with
    | [y0, y1, y2, y3, y4, y5, y6], _ =>
      obtain ⟨os, Ao, cap, rfl, hA, hw⟩ := openOpts (y := y6) hs
      refine ⟨rp, xid, client, yours, next, m0, m1, m2, m3, m4, m5, os, Ao, cap, rfl, b1, b2, b3, b4, hA, ?_⟩
      have e : d = .agg [y0.1, y1.1, y2.1, y3.1, y4.1, y5.1, y6.1] := by simpa using congrArg Prod.fst hx
      rw [e]
      simp only [Rows.uptoBulk, Rows.uptoBulkAll]
      omega
end Go.Proofs.Ytcbkaiakdhiloab
