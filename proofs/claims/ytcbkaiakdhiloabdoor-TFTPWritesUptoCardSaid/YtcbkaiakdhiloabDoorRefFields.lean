/- netbootref.fields: of lines. -/
import Derived.Test.YtcbkaiakdhiloabDoorRefFW
import Derived.Deep.Cut
import Derived.Deep.CutRange
set_option linter.unusedSimpArgs false
set_option linter.unusedVariables false
namespace Go.Proofs.YtcbkaiakdhiloabDoor
open Go.RowKit Go.Proofs
attribute [local go_sem] bs_size bs_append bs_extract bs_toList

theorem wtL_len : ∀ L : List (List UInt8), L.length ≤ wtL L
  | [] => Nat.le_refl _
  | a :: r => by have := wtL_len r; simp only [List.length_cons, wtL]; omega
theorem wtL_drop : ∀ (L : List (List UInt8)) (k : Nat), wtL (L.drop k) ≤ wtL L
  | [], k => by simp
  | a :: r, 0 => Nat.le_refl _
  | a :: r, k + 1 => by have := wtL_drop r k; simp only [List.drop_succ_cons, wtL]; omega
def FldL (L : List (List UInt8)) (w : World) (e : Ending) (w' : World) : Prop :=
  ((∃ fs A cap, fldL [] L = some fs ∧ e = .returned (.tuple #[.slice A fs.length cap, .bool true]) ∧ SlR w' (fun k => k < w.heap.size) 2 A fs.length (fldC fs) ∧ wtF fs ≤ wtL L) ∨
   (fldL [] L = none ∧ e = .returned (.tuple #[.slice none 0 0, .bool false]))) ∧ Fr noB w w'
set_option maxRecDepth 20000 in
set_option maxHeartbeats 2000000 in
theorem refFields (A : Option Addr) (cap : Nat) (L : List (List UInt8)) (w : World) (hA : SlR w noB 1 A L.length (strv L)) (hw : wtL L ≤ 2199023254) :
    Calls Tryd.prog 31 #[.slice A L.length cap] w (FldL L w) := by
  obtain ⟨i0, hi0, hz0, hz1, hz2⟩ := info_parts fld_info
  have hLw := wtL_len L
  obtain ⟨n, hn⟩ : ∃ n, L.length = n := ⟨_, rfl⟩
  rw [hn] at hA hLw ⊢
  have Hn := Lib.hid hn
  clear hn
  go_enter Tryd.func31, Tryd.ntmps31
  by_cases hodd : n % 2 = 1
  · have hoi : (n : Int) % 2 = 1 := by omega
    have H := Lib.hid (fldL_odd L.length [] L (Nat.le_refl _) (by rw [Hn.out]; exact hodd))
    go_wp2_with fail
    go_ret2
    exact ⟨.inr ⟨H.out, rfl⟩, Fr.refl _ _⟩
  have hoi : ((n : Int) % 2 == 1) = false := by rw [beq_eq_false_iff_ne]; omega
  go_wp2_with fail
  go_loopw [4, 5] (fun ov kv wr => ∃ (k : Nat) (fs : List FldD) (A2 : Option Addr) (cap2 : Nat), k ≤ n ∧ k % 2 = 0 ∧ kv = .int .i64 (k : Int) ∧ ov = .slice A2 fs.length cap2 ∧ fldL [] L = fldL fs (L.drop k) ∧ wtF fs + wtL (L.drop k) ≤ wtL L ∧
      wr.ownsRow w.heap.size 66 2 (.slice A2 fs.length cap2) fs.length (fldC fs) ∧ Fr noB w wr) (fun _ kv _ => n - (intOf kv).toNat)
  case atStart => exact ⟨0, [], none, 0, by omega, rfl, rfl, rfl, rfl, by simp [wtF], ⟨rfl, .inl ⟨rfl, rfl⟩⟩, Fr.refl _ _⟩
  case round =>
    obtain ⟨k, fs, A2, cap2, hk, hke, rfl, rfl, hL, hwf, hO, hf⟩ := hrel
    have hlf := wtF_len fs
    by_cases hlt : k < n
    · obtain ⟨x, y, hxy⟩ : ∃ x y, L.drop k = x :: y :: L.drop (k + 2) := by
        have h1 : k + 1 < L.length := by rw [Hn.out]; omega
        exact ⟨L[k], L[k + 1], by rw [List.drop_eq_getElem_cons (by omega), List.drop_eq_getElem_cons h1]⟩
      have hgx : L[k]? = some x := by
        have h1 := congrArg (fun l => l[0]?) hxy
        simpa [List.getElem?_drop] using h1
      have hgy : L[k + 1]? = some y := by
        have h1 := congrArg (fun l => l[1]?) hxy
        simpa [List.getElem?_drop] using h1
      obtain ⟨ad, rfl, _, _, hcell⟩ := (hA.keep hf).2 (by omega)
      have c1 := hcell k (.string (bs x)) (by simp [strv, hgx])
      have c2 := hcell (k + 1) (.string (bs y)) (by simp [strv, hgy])
      have c2' : wr.cell? ⟨ad.block, ad.off + (k + 1), none⟩ = some (.string (bs y)) := by
        have e : ad.add (k + 1) = ⟨ad.block, ad.off + (k + 1), none⟩ := by unfold Addr.add; rw [if_neg (by omega)]
        rw [← e]; exact c2
      have hwx : x.length + y.length + 2 + wtL (L.drop (k + 2)) = wtL (L.drop k) := by rw [hxy]; simp only [wtL]; omega
      have hstep : fldL [] L = if wordB (lowL x) && wordB y && !(named fs (lowL x)) then fldL (fs ++ [(⟨lowL x, y⟩ : FldD)]) (L.drop (k + 2)) else none := by
        rw [hL, hxy]; rfl
      have Hstep := Lib.hid hstep
      have hwL : wtL (L.drop k) ≤ wtL L := wtL_drop L k
      clear hgx hgy hcell c2 hxy hL hstep
      go_upto_region 7 with fail
      refine wp_at (c := regionOf Tryd.f31 7) (by kernel_rfl) (rfR7 ad n cap k x y _ _ _ ⟨rfl, rfl⟩ rfl rfl (by omega) (by omega) c1 c2' (by omega) ?_)
      intro a7 w7 hs7 kp7 hal hf7
      obtain ⟨gf, e6, hgl, hbf⟩ := hal
      rw [kp7.eq_put (n := 49) [17, 18, 19, 20, 21, 22, 23, 24, 25, 26, 27, 6] ⟨rfl, rfl⟩ hs7 (by decide) (by decide)]
      simp only [List.foldl, Act.put, List.setIfInBounds_toArray, List.set_cons_succ, List.set_cons_zero, e6]
      clear e6 kp7 hs7
      generalize sl a7 = z7
      have hbc := hbf.cells
      have hF7 := hf.none hf7
      have hO7 := ownR_keep hO hf7 (fun _ _ x => x)
      obtain ⟨lx, hlx⟩ : ∃ lx, lowL x = lx := ⟨_, rfl⟩
      have hlxl : lx.length = x.length := by rw [← hlx]; simp [lowL]
      rw [hlx] at hbf hbc Hstep
      clear hlx c1 c2' hO hf hf7
      go_wp2_with fail
      refine (refWord lx w7 (by omega)).mono ?_
      rintro e w8 ⟨rfl, rfl⟩
      cases h1 : wordB lx with
      | false =>
        have Hno : Hid (fldL [] L = none) := Lib.hid (by rw [Hstep.out, h1]; rfl)
        clear Hstep h1
        go_wp2_with fail
        go_ret2
        exact ⟨.inr ⟨Hno.out, rfl⟩, hF7⟩
      | true =>
      have H1 := Lib.hid h1
      clear h1
      go_wp2_with fail
      refine (refWord y _ (by omega)).mono ?_
      rintro e w9 ⟨rfl, rfl⟩
      cases h2 : wordB y with
      | false =>
        have Hno : Hid (fldL [] L = none) := Lib.hid (by rw [Hstep.out, H1.out, h2]; rfl)
        clear Hstep h2
        go_wp2_with fail
        go_ret2
        exact ⟨.inr ⟨Hno.out, rfl⟩, hF7⟩
      | true =>
      have H2 := Lib.hid h2
      clear h2
      go_wp2_with fail
      have hA7 := ownR_slr (S := noB) hO7 (fun _ _ x => x)
      refine (refNamed A2 fs.length cap2 fs lx _ hA7 (by omega)).mono ?_
      rintro e w10 ⟨rfl, hf10⟩
      have hF10 := hF7.none hf10
      have hO10 := ownR_keep hO7 hf10 (fun _ _ x => x)
      have hbf10 := hbf.keep hf10 (fun x => x)
      have hbc10 := hbf10.cells
      clear hbc hF7 hO7 hA7 hf10 hbf
      cases h3 : named fs lx with
      | true =>
        have Hno : Hid (fldL [] L = none) := Lib.hid (by rw [Hstep.out, H1.out, H2.out, h3]; rfl)
        clear Hstep h3
        go_wp2_with fail
        go_ret2
        exact ⟨.inr ⟨Hno.out, rfl⟩, hF10⟩
      | false =>
      have Hgo : Hid (fldL [] L = fldL (fs ++ [(⟨lx, y⟩ : FldD)]) (L.drop (k + 2))) := Lib.hid (by rw [Hstep.out, H1.out, H2.out, h3]; rfl)
      clear Hstep h3
      have hO8 := ownR_keep hO10 ((Fr.refl noB w10).alloc (.cells #[.string (bs lx), .string (bs y)] 66)) (fun _ _ x => x)
      have hsr : SlR (w10.alloc (.cells #[.string (bs lx), .string (bs y)] 66)) noB 2 (some ⟨w10.heap.size, 0, none⟩) 1 (fldC [(⟨lx, y⟩ : FldD)]) :=
        SlR.of_bk (n := 1) (size := 2) (S := noB) (Bk.new w10 66 #[.string (bs lx), .string (bs y)]) (fun x => x) rfl
      have hF11 := hF10.alloc (.cells #[.string (bs lx), .string (bs y)] 66)
      have hsz := hF10.size
      go_wp2_with (at_builtin
                   go_must (refine wpList_app rfl (.tmp 44) (.tmp 46) _ rfl w.heap.size 66 i0 _ 2 32 Tryd.underlying45 hi0 hz0 hz1 hz2 rfl (by omega) A2 _ _ _ rfl hO8 noB _ 1 1 _ rfl hsr fldC_one (by unfold maxLen; omega) (by omega) (by simp; omega) ?_)
                   intro A4 cap4 w12 hap)
      have hFn : Fr noB w w12 := hF11.trans' hap.fr (by rintro q hq ⟨a, e, rfl⟩; have := (ownR_blk hO10 a e).1; omega)
      have hown : w12.ownsRow w.heap.size 66 2 (.slice A4 (fs ++ [(⟨lx, y⟩ : FldD)]).length cap4) (fs ++ [(⟨lx, y⟩ : FldD)]).length (fldC (fs ++ [(⟨lx, y⟩ : FldD)])) := by
        rw [List.length_append, fldC_append]; exact hap.own
      go_roundw
      case rel => exact ⟨k + 2, fs ++ [(⟨lx, y⟩ : FldD)], A4, cap4, by omega, by omega, by rw [Int.natCast_add]; rfl, by rw [List.length_append]; rfl, Hgo.out, by rw [wtF_append]; simp only [wtF]; omega, hown, hFn⟩
      case measure => simp only [intOf]; omega
    · obtain rfl : k = n := by omega
      have H : Hid (fldL [] L = some fs) := Lib.hid (by rw [hL, List.drop_of_length_le (by rw [Hn.out]; omega)]; cases fs <;> rfl)
      have hA2 := ownR_slr (S := fun q => q < w.heap.size) hO (fun a e h => by have := (ownR_blk hO a e).1; omega)
      clear hL
      go_wp2_with fail
      go_ret2
      exact ⟨.inl ⟨fs, A2, cap2, H.out, rfl, hA2, by omega⟩, hf⟩
end Go.Proofs.YtcbkaiakdhiloabDoor
