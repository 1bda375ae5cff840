/- Proves: for all times and answers the law netbootkeep.Renewed(time, answers) returns true, where the listed package variables hold what the program's and the library's texts lay there: the card ties them to it. No other condition. -/
import Derived.Test.YtcbkaiakdhiloacGreatDoorRbb
import Derived.Test.YtcbkaiakdhiloacGreatDoorTie
import Derived.Test.YtcbkaiakdhiloacGreatDoorCards
import Derived.SevenTiedAt
import Derived.Lay
import Derived.LaidOnce
import Derived.LaidMore
import Derived.OpenShut
import Derived.Stop.Joined
set_option linter.unusedSimpArgs false
set_option linter.unusedVariables false
namespace Go.Proofs.YtcbkaiakdhiloacGreatDoor
open Go.ChangeShapes Go.WideShapes Go.ChangeAt Go.WideMaps Go.WideElems Go.RowKit Go.Proofs
open Go.ChangeMaps (open_string shut_string)
def qW:List (String×DataW Unit):=Rows.renewedRow.laid
theorem DX {W:World} (h:laidMetH Tryz.prog qW W):Glb W∧Ir W:=by
 rw[MakeChecks.laidMetH_plain _ _ _ (by kernel_rfl)]at h
 have hG:Glb W:=by
  refine Ed h ?_ ?_ ?_ ?_ ?_ ?_
  all_goals(unfold qW Rows.renewedRow;repeat(first|exact List.Mem.head _|refine List.Mem.tail _ ?_))
 refine⟨hG,AV (z:=2) (zs:=[0,0,0,0,42]) (iT (name:= "netboot/netbootkeep.card") (g:=0) (t:=26) (e:=5) (n:=6) (by kernel_rfl) (by kernel_rfl) Tryz.underlying26 Tryz.underlying5 (by kernel_rfl) (by kernel_rfl) (Lib.laidMet.reads (d:=Rows.laid_netboot_netbootkeep_card) h ?_)) (by kernel_rfl),AV (z:=2) (zs:=[0,0,0,0,7]) (iT (name:= "netboot/netbootkeep.other") (g:=1) (t:=26) (e:=5) (n:=6) (by kernel_rfl) (by kernel_rfl) Tryz.underlying26 Tryz.underlying5 (by kernel_rfl) (by kernel_rfl) (Lib.laidMet.reads (d:=Rows.laid_netboot_netbootkeep_other) h ?_)) (by kernel_rfl),hG.tabs⟩
 all_goals(unfold qW Rows.renewedRow;repeat(first|exact List.Mem.head _|refine List.Mem.tail _ ?_))
set_option maxRecDepth 100000 in
theorem tH (os:Os) (started:os.Started) (H:Type) (enc:TypeId×Value→H):
 ReturnsInHanded {} Tryz.checked os 7 .any (fun w args=>(Rows.renewedSpec.pre enc Tryz.prog Tryz.f7 [] false w args∧laidMetH Tryz.prog qW w)∧sizedMet enc Tryz.prog Tryz.f7 (OpenSpec.ofChange Rows.renewedSpec) false w args)
  (Rows.renewedSpec.post enc Tryz.prog Tryz.f7 false true false false):=by
 refine returnsInHanded_of_change_and (C:=Tryz.checked) (X:=fun w _=>laidMetH Tryz.prog qW w) (fun _ _ _ hh h=>h.of_heap hh) own started (by kernel_rfl) Tryz.func7
  (ChangeSpec.witness_shaped (enc:=enc) (C:=Tryz.checked) (os:=os) (X:=fun w _=>laidMetH Tryz.prog qW w) false (World.laidAll Tryz.prog os qW) #[.int .i64 0,.int .i64 0] 8 (World.laidAll_os _ _ _)
   (World.shaped_of_ZipB (by kernel_rfl) (by kernel_rfl)) (by kernel_rfl) (by kernel_rfl) (by kernel_rfl)
   (by rw[MakeChecks.laidMetH_plain _ _ _ (by kernel_rfl)];exact laidMet_laidAll _ (by kernel_rfl) (by kernel_rfl))) ?_
 intro W base args ds gs before hval0 hW _ _ hL _
 have hval:∀(j:Nat) t v,Tryz.f7.params[j]? =some t→args[j]? =some v→Value.okWide Tryz.prog W .any base t v:=hval0
 obtain⟨p,q,hA0,hV,_,hfz,hnd⟩:=id hW
 have hA:DataW.TrodAll enc Tryz.prog W 0 (fun _=>true) true Tryz.f7.params.toList args.toList ds p:=hA0
 rw[Tryz.params7]at hA hval
 obtain⟨v0,v1,d0,d1,p0,p1,rfl,rfl,rfl,h0,h1⟩:=trodAll_two hA
 obtain⟨rfl,rfl⟩:=trodVars_none hV
 obtain⟨i0,rfl,hb0⟩:=nI Tryz.underlying3 (pD Tryz.underlying3 (hval 0 3 v0 rfl rfl))
 obtain⟨i1,rfl,hb1⟩:=nI Tryz.underlying3 (pD Tryz.underlying3 (hval 1 3 v1 rfl rfl))
 have hm:IntKind.i64.min= -9223372036854775808:=by decide
 have hx:IntKind.i64.max=9223372036854775807:=by decide
 have hb0a: -9223372036854775808≤i0:=by have:=hb0.1;omega
 have hb0b:i0≤9223372036854775807:=by have:=hb0.2;omega
 have hb1a: -9223372036854775808≤i1:=by have:=hb1.1;omega
 have hb1b:i1≤9223372036854775807:=by have:=hb1.2;omega
 obtain⟨hG,hK⟩:=DX hL
 refine(Ba i0 i1 W hG hK hb0a hb0b hb1a hb1b (fun n a h1 h2 h3=>Gg _ (jL 3000 3000 (Nat.le_refl _)) n a h1 h2 h3)).mono fun e W' ⟨he,hf⟩=> ?_
 subst he
 exact⟨_,rfl,Gi JC (by intro t ht;rw[Tryz.params7]at ht;simp at ht;subst ht;exact⟨by kernel_rfl,of_decide_eq_true (by kernel_rfl)⟩) rfl hW rfl rfl rfl rfl Tryz.underlying4 hf.belowAll⟩
theorem Dr:Tryz.checked.prog.inPlace 7=Rows.renewedRow.inPlace:=by kernel_rfl
theorem C1:Tryz.checked.prog.unfollowed 7=Rows.renewedRow.unfollowed:=by kernel_rfl
theorem CN:Tryz.checked.prog.recurses 7=Rows.renewedRow.recurses:=by kernel_rfl
theorem CY:Tryz.checked.prog.varsNamed 7=Rows.renewedRow.named:=by kernel_rfl
theorem vR:joinedFacts Tryz.checked.prog 7 Tryz.f7 Rows.renewedSpec Rows.renewedRow=true:=by
 unfold joinedFacts
 rw[Dr,C1,CN,CY]
 kernel_rfl
theorem Ay:Rows.RenewedSaid:=
 OpenClaim.holds_of_wide (p:=Tryz.pinned) (s:=Rows.renewedSpec) (c:=Rows.renewedRow) 7 Tryz.f7 rfl rfl rfl rfl rfl rfl rfl ⟨rfl,rfl,rfl,rfl,rfl⟩ rfl rfl rfl rfl rfl (by kernel_rfl) Tryz.func7 vR
  (of_decide_eq_true (by kernel_rfl)) (by unfold Func.isWrapper;first|(rw[if_pos (by decide+kernel)];kernel_rfl)|(rw[if_neg (by decide+kernel)];exact⟨rfl,rfl⟩))
  (fun os started H enc _=>tH os started H enc)
theorem renewed_holds:Rows.RenewedCardSaid:=
 Claim7.holds_tied_plain_at .later [] Rows.renewedCard.laidKinds true Rows.renewedCard.stood.harness true
  Ay (fun _ h=>by cases h) (by kernel_rfl) (fun _ h=>by cases h) renewed_row_tie rfl ⟨rfl,rfl⟩ (by kernel_rfl) rfl
  (fun f fn hf hfn=>by
   obtain rfl:f=7:=Option.some.inj ((show Tryz.prog.funcNamed "netboot/netbootkeep.Renewed" =some 7 by kernel_rfl).symm.trans hf)|>.symm
   obtain rfl:fn=Tryz.f7:=(Option.some.inj (Tryz.func7.symm.trans hfn)).symm
   exact⟨by kernel_rfl,fun j t ht=>by
    rw[Tryz.params7]at ht
    have hm:t∈[3,3]:=by simpa using Array.mem_of_getElem? ht
    have hall:([3,3].all fun u=> !Tryz.prog.wantsStandIn u)=true:=by kernel_rfl
    exact(show Tryz.prog.wantsStandIn t=false by simpa using List.all_eq_true.1 hall t hm)⟩)
  (by kernel_rfl)
end Go.Proofs.YtcbkaiakdhiloacGreatDoor
