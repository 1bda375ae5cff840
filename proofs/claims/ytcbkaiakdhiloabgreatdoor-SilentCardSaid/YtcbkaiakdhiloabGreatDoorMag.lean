/- Parts of the walk; written by programs, merged. -/
import Derived.Test.YtcbkaiakdhiloabGreatDoorMaa
import Derived.Test.YtcbkaiakdhiloabGreatDoorMab
import Derived.Test.YtcbkaiakdhiloabGreatDoorMad
import Derived.Test.YtcbkaiakdhiloabGreatDoorMae
import Derived.Test.YtcbkaiakdhiloabGreatDoorMaf
import Derived.Test.YtcbkaiakdhiloabGreatDoorProg
import Derived.Test.YtcbkaiakdhiloabGreatDoorShelf
import Derived.WalkKit
import Derived.WalkLawsBesides
import Derived.WalkSpells
import Derived.Deep.AppendLies
import Derived.Deep.DrawnRows
import Derived.Maps.AppendAt
import Derived.StillTailTactics
import Derived.Lib.Hide
import Derived.Lib.AppendStr
import Derived.Lib.Strings
import Derived.Laws.MakeOwn
import Derived.Laws.OwnMore
import Derived.Laws.BitsAllLaws
import Derived.Orders
import Derived.Deep.MidRow
import Derived.Deep.DeepMust
import Derived.Deep.RegionHeld3
import Derived.Deep.RegionLaw
import Derived.Deep.LoopGhost
import Derived.Deep.Cut
import Derived.Deep.CutRange
import Derived.Deep.QuietTactic
import Derived.BigQuiet
import Derived.Lib.ConvBytes
import Derived.Lib.LazyBuf
import Derived.Recover
import Derived.OrdersHeld
import Derived.Lib.MapLaws
import Derived.Lib.TrimAscii
import Derived.Lib.LaidTab
import Derived.Lib.ItoaNum
import Derived.Maps.Own
import Derived.Maps.OwnOps
import Derived.Maps.OwnSet
import Derived.Maps.Views
import Derived.Maps.RangeWalk
set_option linter.unusedSimpArgs false
set_option linter.unusedVariables false
namespace Go.Proofs.YtcbkaiakdhiloabGreatDoor
open Go.RowKit Go.Proofs Go.Maps
theorem ipL_inj {a b : Nat} (h : ipL a = ipL b) : a = b := by
  unfold ipL at h
  injection h with _ h
  omega
theorem ipL_key (a : Nat) : WideAt.IsKeyLit (ipL a) := trivial
theorem Rep.nil : Rep (.map [] : DataW Unit) [] := ⟨by simp, by simp, by intro ip; rfl, by simp, rfl, tidy_empty⟩
theorem Rep.perm {D : DataW Unit} {l l' : List EntD} (h : Rep D l) (hp : l.Perm l') : Rep D l' where
  nd := (hp.map _).nodup_iff.1 h.nd
  lt := fun e he => h.lt e (hp.mem_iff.2 he)
  has := fun ip => by
    rw [h.has ip, Bool.eq_iff_iff, List.any_eq_true, List.any_eq_true]
    exact ⟨fun ⟨x, hx, hb⟩ => ⟨x, hp.mem_iff.1 hx, hb⟩, fun ⟨x, hx, hb⟩ => ⟨x, hp.mem_iff.2 hx, hb⟩⟩
  at_ := fun e he => h.at_ e (hp.mem_iff.2 he)
  size := by rw [h.size, hp.length_eq]
  tidy := h.tidy
theorem any_ip (l : List EntD) (ip : Nat) : (l.any fun e => e.ip == ip) = true ↔ ip ∈ l.map (·.ip) := by
  rw [List.any_eq_true, List.mem_map]
  exact ⟨fun ⟨x, hx, hb⟩ => ⟨x, hx, by simpa using hb⟩, fun ⟨x, hx, hb⟩ => ⟨x, hx, by simpa using hb⟩⟩
theorem find_some {l : List EntD} {ip : Nat} {e : EntD} (h : find l ip = some e) : e ∈ l ∧ e.ip = ip := ⟨List.mem_of_find?_eq_some h, by have := List.find?_some h; simpa using this⟩
theorem Rep.old {D : DataW Unit} {l : List EntD} {e : EntD} (h : Rep D l) (hm : e.ip ∈ l.map (·.ip)) : Rep (D.put (ipL e.ip) (entDat e)) (setEnt l e.ip fun _ => e) where
  nd := by
    have : (setEnt l e.ip fun _ => e).map (·.ip) = l.map (·.ip) := by
      unfold setEnt; rw [List.map_map]; apply List.map_congr_left; intro x _; simp only [Function.comp]; split <;> simp_all
    rw [this]; exact h.nd
  lt := fun x hx => by
    unfold setEnt at hx
    obtain ⟨y, hy, rfl⟩ := List.mem_map.1 hx
    split
    · obtain ⟨z, hz, e'⟩ := List.mem_map.1 hm; rw [← e']; exact h.lt z hz
    · exact h.lt y hy
  has := fun ip => by
    have e1 : ((setEnt l e.ip fun _ => e).any fun x => x.ip == ip) = l.any fun x => x.ip == ip := by
      unfold setEnt; rw [List.any_map]; congr 1; funext x; simp only [Function.comp]; split <;> simp_all
    rw [e1]
    by_cases hi : ip = e.ip
    · subst hi; rw [has_put_same h.tidy.isMap (ipL_key _)]; exact ((any_ip l _).2 hm).symm
    · rw [has_put_other (fun x => hi (ipL_inj x)), h.has ip]
  at_ := fun x hx z => by
    unfold setEnt at hx
    obtain ⟨y, hy, rfl⟩ := List.mem_map.1 hx
    split
    · exact atKey_put_same h.tidy.isMap (ipL_key _) _ _
    · next hne => rw [atKey_put_other (fun q => hne (ipL_inj q))]; exact h.at_ y hy z
  size := by
    rw [size_put h.tidy, h.has, if_pos ((any_ip l _).2 hm), h.size]; simp [setEnt]
  tidy := h.tidy.put (ipL_key _) _
theorem Rep.del {D : DataW Unit} {l : List EntD} (h : Rep D l) (ip : Nat) : Rep (D.del (ipL ip)) (l.filter fun e => e.ip != ip) where
  nd := (List.filter_sublist.map _).nodup h.nd
  lt := fun e he => h.lt e (List.mem_filter.1 he).1
  has := fun i => by
    rw [List.any_filter]
    by_cases hi : i = ip
    · subst hi; rw [has_del_same]; symm; rw [List.any_eq_false]; intro x _; simp
    · rw [has_del_other (fun x => hi (ipL_inj x)), h.has i]
      congr 1; funext x
      by_cases hx : x.ip = i
      · simp [hx, hi]
      · simp [hx]
  at_ := fun e he z => by
    have h1 := List.mem_filter.1 he
    have hne : e.ip ≠ ip := by simpa using h1.2
    rw [atKey_del_other (fun x => hne (ipL_inj x))]; exact h.at_ e h1.1 z
  size := by
    have h1 := size_del (k := ipL ip) h.tidy
    rw [h.has, h.size] at h1
    have key : ∀ l : List EntD, (l.map (·.ip)).Nodup → (l.filter fun e => e.ip != ip).length + (if (l.any fun e => e.ip == ip) = true then 1 else 0) = l.length := by
      intro l
      induction l with
      | nil => intro _; rfl
      | cons x r ih =>
        intro hn
        rw [List.map_cons, List.nodup_cons] at hn
        have := ih hn.2
        by_cases hx : x.ip = ip
        · have h0 : (r.any fun e => e.ip == ip) = false := by
            rw [Bool.eq_false_iff]; intro h2; exact hn.1 (hx ▸ (any_ip r ip).1 h2)
          rw [h0] at this
          simp only [List.filter_cons, hx, bne_self_eq_false, Bool.false_eq_true, if_false, List.any_cons, beq_self_eq_true, Bool.true_or, if_true, List.length_cons] at this ⊢
          omega
        · have hb : (x.ip == ip) = false := by simpa using hx
          simp only [List.filter_cons, bne, hb, Bool.not_false, if_true, List.any_cons, Bool.false_or, List.length_cons] at this ⊢
          omega
    have := key l h.nd
    omega
  tidy := h.tidy.del _
theorem tight {w : World} {b n : Nat} {D : DataW Unit} (h : w.ownsMap Tryz.prog 34 entR b n D) : w.ownsMap Tryz.prog 34 entR b (Maps.size D) D := by
  obtain ⟨es, c, h1, h2, h3, h4⟩ := h
  refine ⟨es, c, h1, h2, ?_, h4⟩
  rw [h4]
  show es.size ≤ ((es.toList.map _).foldr DataW.insert []).length
  rw [length_sorted]; simp
theorem MapAt.of {w : World} {b n : Nat} {D : DataW Unit} {l : List EntD} (h : w.ownsMap Tryz.prog 34 entR b n D) (hr : Rep D l) : MapAt w b l := ⟨D, by rw [← hr.size]; exact tight h, hr⟩
/-! the one whose time is up first -/
theorem BootAt.mpTurn {w w' : World} {L : Lay} {s : St} {l : List EntD} (h : BootAt w L s) (hf : Fr (oneB L.mp) w w') (hm : MapAt w' L.mp l) (ok : ({ s with cache := l } : St).Ok) : BootAt w' L { s with cache := l } := by
  have hn := h.ne
  simp only [Lay.blocks, List.nodup_cons, List.mem_cons, List.not_mem_nil, or_false, not_or] at hn
  obtain ⟨⟨n1, n2, n3, n4, n5⟩, ⟨m2, m3, m4, m5⟩, ⟨k3, k4, k5⟩, ⟨j4, j5⟩, i5, _⟩ := hn
  exact ⟨h.bk.keep hf n5, h.rx.keep hf m5 k5, h.tx.keep hf j5 i5, hm, row_keep h.im hf fun a ha x => h.ni a ha (by simp only [Lay.blocks, List.mem_cons]; simp [show a.block = L.mp from x]), h.ne, h.ni, ok,
    h.gb.keep hf (fun b hb x => h.gd _ (own_mp L) (x ▸ hb)), h.gd⟩
end Go.Proofs.YtcbkaiakdhiloabGreatDoor
namespace Go.Proofs.YtcbkaiakdhiloabGreatDoor
open Go.RowKit Go.Proofs Go.Maps
attribute [local go_sem] bs_size bs_append bs_extract bs_toList
theorem cacheK : Keyed Tryz.prog 34 := int_keyed Tryz.underlying34
theorem ipKey {ip : Nat} (h : ip < 4294967296) : keyOf Tryz.prog 34 (.int .u32 (ip : Int)) = some (ipL ip) := keyOf_int_mk Tryz.underlying34 (by simp [Lit.wf, IntKind.min, IntKind.max, IntKind.signed, IntKind.bits]; omega)
end Go.Proofs.YtcbkaiakdhiloabGreatDoor
namespace Go.Proofs.YtcbkaiakdhiloabGreatDoor
open Go.RowKit Go.Proofs Go.Maps
attribute [local go_sem] bs_size bs_append bs_extract bs_toList
def ent0 : EntD := ⟨0, zMac, false, 0, 0, []⟩
theorem zeroEnt (w : World) : (zeroValue 159).run Tryz.prog w = .ok (entC ent0) w := by kernel_rfl
theorem at_some {D : DataW Unit} {l : List EntD} {ip : Nat} {e : EntD} (h : Rep D l) (hf : find l ip = some e) : Maps.has D (ipL ip) = true ∧ D.atKey (ipL ip) (entDat ent0) = entDat e := by
  obtain ⟨h1, rfl⟩ := find_some hf
  exact ⟨by rw [h.has, List.any_eq_true]; exact ⟨e, h1, by simp⟩, h.at_ e h1 _⟩
end Go.Proofs.YtcbkaiakdhiloabGreatDoor
namespace Go.Proofs.YtcbkaiakdhiloabGreatDoor
open Go.RowKit Go.Proofs
attribute [local go_sem] bs_size bs_append bs_extract bs_toList
theorem wrIP_len (id : Nat) (ttl pr : UInt8) (fi ti : Nat) (ld : List UInt8) : (wrIP id ttl pr fi ti ld).1.length ≤ 1500 := by
  unfold wrIP
  split
  · simp
  · split
    · simp
    · simp only [ipBytes, List.length_append, ipHead_length]; omega
theorem packet_len (s : St) (dst fm port : Nat) (ld : List UInt8) : (s.packet dst fm port ld).length ≤ 1500 := wrIP_len _ _ _ _ _ _
end Go.Proofs.YtcbkaiakdhiloabGreatDoor
namespace Go.Proofs.YtcbkaiakdhiloabGreatDoor
open Go.RowKit Go.Proofs
section
variable {w1 w w' : World} {p B n : Nat} {A : Option Addr} {l l' : List UInt8} {L : Bool} {v : Value} {t : TypeId} {cs : Array Value}
theorem Chn.drew2 (h : Chn w1 p B A l w) : Chn w1 p B A l w.drew := ⟨h.wr.drew, h.row, h.fr.drew, h.eB, h.lt⟩
theorem AlS.drew2 (h : AlS L v n t cs B A w) : AlS L v n t cs B A w.drew := fun hL => by
  obtain ⟨g, h1, h2, h3, h4⟩ := h hL
  exact ⟨g, h1, h2.drew, h3, h4⟩
theorem AlS.beside (h : Chn w1 p B A l w) (t : TypeId) (cs : Array Value) : AlS true (.slice (some ⟨w.heap.size, 0, none⟩) 0 0) 0 t cs B A (w.alloc (.cells cs t)) := AlS.new h 0 t cs
end
section
variable {P : Program} {ops : Array Oper} {Q : Exit → Act → World → Prop}
end
theorem sl_put {a : Act} {n k j : Nat} {v : Value} (h : Sz n a) (hk : k < n) : sl (a.put (some k) v) j = if j = k then v else sl a j := by
  obtain ⟨t, d⟩ := a
  have hs := h.size
  simp only at hs
  unfold sl Act.put
  by_cases e : j = k
  · subst e; simp [hs, hk]
  · simp only [e, if_false]
    by_cases hj : j < t.size
    · simp [Array.getD, hj, Array.getElem_setIfInBounds, e]
      intro x; exact absurd x.symm e
    · simp [Array.getD, hj]
theorem Sz.put {a : Act} {n k : Nat} {v : Value} (h : Sz n a) : Sz n (a.put (some k) v) := ⟨by simpa [Act.put] using h.size, h.defers⟩
theorem foldl_put {n : Nat} {u : Nat → Value} : ∀ (D : List Nat) (a : Act), Sz n a → (∀ k ∈ D, k < n) → Sz n (D.foldl (fun b k => b.put (some k) (u k)) a) ∧ ∀ j, sl (D.foldl (fun b k => b.put (some k) (u k)) a) j = if j ∈ D then u j else sl a j
  | [], a, h, _ => ⟨h, fun j => by simp⟩
  | k :: D, a, h, hD => by
    obtain ⟨h1, h2⟩ := foldl_put (u := u) D (a.put (some k) (u k)) h.put (fun x hx => hD x (by simp [hx]))
    refine ⟨h1, fun j => ?_⟩
    rw [List.foldl_cons, h2 j, sl_put h (hD k (by simp))]
    by_cases hj : j ∈ D
    · simp [hj]
    · by_cases hk : j = k
      · subst hk; simp [hj]
      · simp [hj, hk]
theorem Kp.eq_put {n : Nat} {keep : List Nat} {a a' : Act} (D : List Nat) (h : Sz n a) (h' : Sz n a') (kp : Kp keep a a') (hd : ((List.range n).all fun k => D.contains k || keep.contains k) = true) (hD : (D.all fun k => decide (k < n)) = true) :
    a' = D.foldl (fun b k => b.put (some k) (sl a' k)) a := by
  have hD' : ∀ k ∈ D, k < n := fun k hk => by simpa using List.all_eq_true.1 hD k hk
  obtain ⟨h1, h2⟩ := foldl_put (u := sl a') D a h hD'
  refine h'.eq.trans (Eq.trans ?_ h1.eq.symm)
  unfold frN
  congr 2
  apply List.map_congr_left
  intro k hk
  have hk' : k < n := by simpa using hk
  rw [h2 k]
  split
  · rfl
  · next hnd =>
    have := List.all_eq_true.1 hd k hk
    simp only [Bool.or_eq_true, List.contains_iff_mem] at this
    rcases this with h3 | h3
    · exact absurd h3 hnd
    · exact kp k h3
theorem wp_at {P : Program} {c c' : Code} {Q : Exit → Act → World → Prop} {a : Act} {w : World} (h : c = c') (k : c.wp P Q a w) : c'.wp P Q a w := h ▸ k
end Go.Proofs.YtcbkaiakdhiloabGreatDoor
namespace Go.Proofs.YtcbkaiakdhiloabGreatDoor
open Go.RowKit Go.Proofs
attribute [local go_sem] bs_size bs_append bs_extract
def optC : List OptD → List Value
  | [] => []
  | o :: r => .int .u8 (o.code.toNat : Int) :: .string (bs o.data) :: optC r
theorem optC_length : ∀ os : List OptD, (optC os).length = os.length * 2
  | [] => rfl
  | o :: r => by simp only [optC, List.length_cons, optC_length r]; omega
theorem optC_code : ∀ (os : List OptD) (k : Nat) (o : OptD), os[k]? = some o → (optC os)[k * 2]? = some (.int .u8 (o.code.toNat : Int))
  | [], _, _, h => by cases h
  | o :: r, 0, o', h => by cases h; rfl
  | o :: r, k + 1, o', h => by
    rw [show (k + 1) * 2 = k * 2 + 1 + 1 by omega]
    exact optC_code r k o' h
theorem optC_data : ∀ (os : List OptD) (k : Nat) (o : OptD), os[k]? = some o → (optC os)[k * 2 + 1]? = some (.string (bs o.data))
  | [], _, _, h => by cases h
  | o :: r, 0, o', h => by cases h; rfl
  | o :: r, k + 1, o', h => by
    rw [show (k + 1) * 2 + 1 = k * 2 + 1 + 1 + 1 by omega]
    exact optC_data r k o' h
theorem SlR.opt {w : World} {S : Nat → Prop} {A : Option Addr} {n : Nat} {os : List OptD} (h : SlR w S 2 A n (optC os)) : os.length = n := by
  have := h.1; rw [optC_length] at this; omega
theorem SlR.optAt {w : World} {S : Nat → Prop} {A : Option Addr} {n k : Nat} {os : List OptD} {o : OptD} (h : SlR w S 2 A n (optC os)) (hk : os[k]? = some o) :
    ∃ ad, A = some ad ∧ w.cell? (ad.add (k * 2)) = some (.int .u8 (o.code.toNat : Int)) ∧ w.cell? ⟨(ad.add (k * 2)).block, (ad.add (k * 2)).off + 1, none⟩ = some (.string (bs o.data)) := by
  have hl : k < os.length := by
    rcases Nat.lt_or_ge k os.length with h1 | h1
    · exact h1
    · rw [List.getElem?_eq_none h1] at hk; cases hk
  have hn := h.opt
  obtain ⟨ad, e, _, _, hc⟩ := h.2 (by omega)
  exact ⟨ad, e, hc _ _ (optC_code os k o hk), by
    have := hc _ _ (optC_data os k o hk)
    rw [← add_add] at this
    exact this⟩
theorem u8_ne {a b : UInt8} (h : a ≠ b) : ((a.toNat : Int) == (b.toNat : Int)) = false := by
  rw [beq_eq_false_iff_ne]
  intro e
  exact h (UInt8.toNat.inj (by omega))
end Go.Proofs.YtcbkaiakdhiloabGreatDoor
