/- From a walk to a row: what every law's row needs behind its walk: the law answers true, and below the old memory nothing has turned. -/
import Derived.Test.YtcbkaiakdhiloabGreatDoorMaa
import Derived.Test.YtcbkaiakdhiloabGreatDoorRows
import Derived.ProofKit
import Derived.OpenVars
import Derived.Carry
set_option linter.unusedSimpArgs false
set_option linter.unusedVariables false
namespace Go.Proofs.YtcbkaiakdhiloabGreatDoor
open Go.RowKit Go.Proofs Go.ChangeShapes Go.WideShapes Go.ChangeAt
open Go.WideMaps Go.WideElems
open Go.ChangeMaps (open_string shut_string)

section
variable {H : Type} {enc : TypeId × Value → H} {P : Program} {W W' : World}
theorem trodAll_below (hl : laidOutB P = true) (hb : Below W.heap.size W W') : ∀ {ts : List TypeId} {vs : List Value} {ds : List (DataW H)} {ps : List MemPlace},
    (∀ t ∈ ts, P.readableRec t = true ∧ t < P.types.size) → DataW.TrodAll enc P W 0 (fun _ => true) true ts vs ds ps → (∀ x ∈ ps, x.block < W.heap.size) →
    DataW.TrodAll enc P W' 0 (fun b => decide (b < W.heap.size)) true ts vs ds ps
  | [], vs, ds, ps, _, h, _ => by
    obtain ⟨rfl, rfl, rfl⟩ := trodAll_nil h; exact trodAll_mk0
  | t :: ts, vs, ds, ps, ht, h, hlt => by
    obtain ⟨v, vs', d, ds', p, q, rfl, rfl, rfl, h1, h2⟩ := trodAll_cons h
    exact ⟨p, q, Below.trod hl (ht t (by simp)).1 (ht t (by simp)).2 h1 hb (fun x hx => hlt x (by simp [hx])),
      trodAll_below hl hb (fun u hu => ht u (by simp [hu])) h2 (fun x hx => hlt x (by simp [hx])), rfl⟩

theorem law_post {f : Func} {s : ChangeSpec} {apart : Bool} {args : Array Value} {ds gs : List (DataW H)} {before : List MemPlace} {tb : TypeId}
    (hl : laidOutB P = true) (ht : ∀ t ∈ f.params.toList, P.readableRec t = true ∧ t < P.types.size) (hv : varsRowed P s.vars = true)
    (hW : DataW.Whole enc P f.params.toList s.vars apart W args.toList ds gs before)
    (hr : (s.fn H (ds ++ gs)).results = [.lit (.bool true)]) (ha : (s.fn H (ds ++ gs)).args = ds) (hg : (s.fn H (ds ++ gs)).vars = gs)
    (hrt : f.resultTypes = #[tb]) (htb : P.underlying tb = some .bool) (hb : Below W.heap.size W W') :
    s.post enc P f apart true false false W args (.bool true) W' := by
  have hlt : ∀ p ∈ before, p.block < W.heap.size := fun p hp => hW.lt p hp
  obtain ⟨pa, pv, hA, hV, rfl, hz, hn⟩ := id hW
  refine ⟨ds, gs, pa ++ pv, [], pa, pv, hW, ?_, ?_, ?_, hb.frame _, fun h => by cases h⟩
  · rw [hr, hrt]; exact trodAll_mk1 (shut_bool htb true)
  · rw [ha]; exact trodAll_below hl hb ht hA (fun x hx => hlt x (by simp [hx]))
  · rw [hg]; exact hb.trodVars hl hv hV
end
theorem own : ownKnob Tryz.prog.godebug = none := by kernel_rfl
theorem laidOut : laidOutB Tryz.prog = true := by kernel_rfl
end Go.Proofs.YtcbkaiakdhiloabGreatDoor
namespace Go.Proofs.YtcbkaiakdhiloabGreatDoor
open Go.RowKit Go.Proofs

section
variable {P : Program} {w : World} {r : Reach} {base : Nat} {t u : TypeId} {v c : Value}
theorem okWide_agg {fs : Array Field} (ht : P.underlying t = some (.struct fs)) (h : Value.okWide P w r base t v) :
    ∃ l : List Value, v = .agg l.toArray ∧ l.length = P.cellsOf t ∧ Row.okWide P w r base t l.toArray := by
  unfold Value.okWide at h
  rw [ht] at h
  obtain ⟨cs, rfl, h1, h2⟩ := h
  exact ⟨cs.toList, by simp, by simpa using h1, by simpa using h2⟩
theorem cell_at {l : List Value} {ts : List TypeId} (h : Row.okWide P w r base t l.toArray) (hts : P.cellTypes P.depth t = some ts) (i : Nat) (hc : l[i]? = some c) (hu : ts[i]? = some u) : Cell.okWide P w r base u c := by
  obtain ⟨ts', e, _, hall⟩ := h
  rw [hts] at e
  injection e with e
  subst e
  obtain ⟨u', h1, h2⟩ := hall i c (by simpa using hc)
  have hi : i < ts.length := by
    rcases Nat.lt_or_ge i ts.length with h | h
    · exact h
    · rw [List.getElem?_eq_none h] at hu; cases hu
  rw [Nat.mod_eq_of_lt hi, hu] at h1
  injection h1 with h1
  rw [h1]; exact h2
theorem cell_int {k : IntKind} (ht : P.underlying u = some (.int k)) (h : Cell.okWide P w r base u c) : ∃ n : Int, c = .int k n ∧ k.has n := by
  unfold Cell.okWide at h
  rw [ht] at h
  have h' : Cell.ok P w r base u c := by cases c <;> simpa using h
  unfold Cell.ok at h'
  rw [ht] at h'
  cases c <;> simp at h'
  obtain ⟨rfl, h2⟩ := h'
  exact ⟨_, rfl, h2⟩
theorem cell_u8 (ht : P.underlying u = some (.int .u8)) (h : Cell.okWide P w r base u c) : ∃ b : UInt8, c = .int .u8 (b.toNat : Int) := by
  obtain ⟨n, rfl, hn⟩ := cell_int ht h
  obtain ⟨h1, h2⟩ := hn
  have e1 : IntKind.u8.min = 0 := by decide
  have e2 : IntKind.u8.max = 255 := by decide
  refine ⟨UInt8.ofNat n.toNat, ?_⟩
  rw [UInt8.toNat_ofNat']
  congr 1
  omega
theorem cell_u16 (ht : P.underlying u = some (.int .u16)) (h : Cell.okWide P w r base u c) : ∃ n : Nat, n < 65536 ∧ c = .int .u16 (n : Int) := by
  obtain ⟨n, rfl, hn⟩ := cell_int ht h
  obtain ⟨h1, h2⟩ := hn
  have e1 : IntKind.u16.min = 0 := by decide
  have e2 : IntKind.u16.max = 65535 := by decide
  exact ⟨n.toNat, by omega, by congr 1; omega⟩
theorem cell_u32 (ht : P.underlying u = some (.int .u32)) (h : Cell.okWide P w r base u c) : ∃ n : Nat, n < 4294967296 ∧ c = .int .u32 (n : Int) := by
  obtain ⟨n, rfl, hn⟩ := cell_int ht h
  obtain ⟨h1, h2⟩ := hn
  have e1 : IntKind.u32.min = 0 := by decide
  have e2 : IntKind.u32.max = 4294967295 := by decide
  exact ⟨n.toNat, by omega, by congr 1; omega⟩
theorem cell_str (ht : P.underlying u = some .string) (h : Cell.okWide P w r base u c) : ∃ l : List UInt8, l.length ≤ 9223372036854775807 ∧ c = .string (bs l) := by
  unfold Cell.okWide at h
  rw [ht] at h
  have h' : Cell.ok P w r base u c := by cases c <;> simpa using h
  unfold Cell.ok at h'
  rw [ht] at h'
  cases c <;> simp at h'
  rename_i s
  have e2 : IntKind.i64.max = 9223372036854775807 := by decide
  have hz := bs_size s.data.toList
  rw [bs_of] at hz
  exact ⟨s.data.toList, by omega, by rw [bs_of]⟩
theorem okWide_icell {k : IntKind} (ht : P.underlying t = some (.int k)) (h : Value.okWide P w r base t v) : Cell.okWide P w r base t v := by
  unfold Value.okWide at h
  rw [ht] at h
  exact h
end
end Go.Proofs.YtcbkaiakdhiloabGreatDoor
