/- Proves: for all n, seed, block, window, loss and how the law netbootkeep.Boots(n, seed, block, window, loss, how) returns true (and its arguments read afterwards as before), where the listed package variables hold what the program's and the library's texts lay there: the card ties them to it. No other condition. -/
import Derived.Test.YtcbkaiakdhiloacGreatDoorBXe
import Derived.Test.YtcbkaiakdhiloacGreatDoorTie
import Derived.Test.YtcbkaiakdhiloacGreatDoorCards
import Derived.SevenTiedAt
import Derived.Lay
import Derived.LaidOnce
import Derived.LaidMore
import Derived.OpenShut
import Derived.Stop.Joined
import Derived.Carry
set_option linter.unusedSimpArgs false
set_option linter.unusedVariables false
namespace Go.Proofs.YtcbkaiakdhiloacGreatDoor
open Go.ChangeShapes Go.WideShapes Go.ChangeAt Go.WideMaps Go.WideElems Go.RowKit Go.Proofs
open Go.ChangeMaps (open_string shut_string)
def laidBo:List (String×DataW Unit):=Rows.bootsRow.laid
theorem of_laidBo {W:World} (h:laidMetH Tryz.prog laidBo W):Glb W∧Ir W:=by
 rw[MakeChecks.laidMetH_plain _ _ _ (by kernel_rfl)]at h
 have hG:Glb W:=by
  refine Ed h ?_ ?_ ?_ ?_ ?_ ?_
  all_goals(unfold laidBo Rows.bootsRow;repeat(first|exact List.Mem.head _|refine List.Mem.tail _ ?_))
 refine⟨hG,AV (z:=2) (zs:=[0,0,0,0,42]) (iT (name:= "netboot/netbootkeep.card") (g:=0) (t:=26) (e:=5) (n:=6) (by kernel_rfl) (by kernel_rfl) Tryz.underlying26 Tryz.underlying5 (by kernel_rfl) (by kernel_rfl) (Lib.laidMet.reads (d:=Rows.laid_netboot_netbootkeep_card) h ?_)) (by kernel_rfl),AV (z:=2) (zs:=[0,0,0,0,7]) (iT (name:= "netboot/netbootkeep.other") (g:=1) (t:=26) (e:=5) (n:=6) (by kernel_rfl) (by kernel_rfl) Tryz.underlying26 Tryz.underlying5 (by kernel_rfl) (by kernel_rfl) (Lib.laidMet.reads (d:=Rows.laid_netboot_netbootkeep_other) h ?_)) (by kernel_rfl),hG.tabs⟩
 all_goals(unfold laidBo Rows.bootsRow;repeat(first|exact List.Mem.head _|refine List.Mem.tail _ ?_))
set_option maxRecDepth 100000 in
theorem boots_lifted (os:Os) (started:os.Started) (H:Type) (enc:TypeId×Value→H):
 ReturnsInHanded {} Tryz.checked os 8 .any (fun w args=>(Rows.bootsSpec.pre enc Tryz.prog Tryz.f8 [] false w args∧laidMetH Tryz.prog laidBo w)∧sizedMet enc Tryz.prog Tryz.f8 (OpenSpec.ofChange Rows.bootsSpec) false w args)
  (Rows.bootsSpec.post enc Tryz.prog Tryz.f8 false true false false):=by
 refine returnsInHanded_of_change_and (C:=Tryz.checked) (X:=fun w _=>laidMetH Tryz.prog laidBo w) (fun _ _ _ hh h=>h.of_heap hh) own started (by kernel_rfl) Tryz.func8
  (ChangeSpec.witness_shaped (enc:=enc) (C:=Tryz.checked) (os:=os) (X:=fun w _=>laidMetH Tryz.prog laidBo w) false (World.laidAll Tryz.prog os laidBo) #[.int .i64 0,.int .i64 0,.int .i64 0,.int .i64 0,.slice none 0 0,.int .i64 0] 8 (World.laidAll_os _ _ _)
   (World.shaped_of_ZipB (by kernel_rfl) (by kernel_rfl)) (by kernel_rfl) (by kernel_rfl) (by kernel_rfl)
   (by rw[MakeChecks.laidMetH_plain _ _ _ (by kernel_rfl)];exact laidMet_laidAll _ (by kernel_rfl) (by kernel_rfl))) ?_
 intro W base args ds gs before hval0 hW _ _ hL _
 have hval:∀(j:Nat) t v,Tryz.f8.params[j]? =some t→args[j]? =some v→Value.okWide Tryz.prog W .any base t v:=hval0
 obtain⟨p,q,hA0,hV,_,hfz,hnd⟩:=id hW
 have hA:DataW.TrodAll enc Tryz.prog W 0 (fun _=>true) true Tryz.f8.params.toList args.toList ds p:=hA0
 rw[Tryz.params8]at hA hval
 obtain⟨v0,l0,d0,e0,p0,q0,hv0,rfl,rfl,t0,hA⟩:=trodAll_cons hA
 obtain⟨v1,l1,d1,e1,p1,q1,rfl,rfl,rfl,t1,hA⟩:=trodAll_cons hA
 obtain⟨v2,l2,d2,e2,p2,q2,rfl,rfl,rfl,t2,hA⟩:=trodAll_cons hA
 obtain⟨v3,l3,d3,e3,p3,q3,rfl,rfl,rfl,t3,hA⟩:=trodAll_cons hA
 obtain⟨v4,l4,d4,e4,p4,q4,rfl,rfl,rfl,t4,hA⟩:=trodAll_cons hA
 obtain⟨v5,l5,d5,e5,p5,q5,rfl,rfl,rfl,t5,hA⟩:=trodAll_cons hA
 obtain⟨rfl,rfl,rfl⟩:=trodAll_nil hA
 obtain⟨rfl⟩:args= #[v0,v1,v2,v3,v4,v5]:=Array.toList_inj.1 hv0
 obtain⟨rfl,rfl⟩:=trodVars_none hV
 obtain⟨i0,rfl,hb0⟩:=nI Tryz.underlying3 (pD Tryz.underlying3 (hval 0 3 v0 rfl rfl))
 obtain⟨i1,rfl,hb1⟩:=nI Tryz.underlying3 (pD Tryz.underlying3 (hval 1 3 v1 rfl rfl))
 obtain⟨i2,rfl,hb2⟩:=nI Tryz.underlying3 (pD Tryz.underlying3 (hval 2 3 v2 rfl rfl))
 obtain⟨i3,rfl,hb3⟩:=nI Tryz.underlying3 (pD Tryz.underlying3 (hval 3 3 v3 rfl rfl))
 obtain⟨i5,rfl,hb5⟩:=nI Tryz.underlying3 (pD Tryz.underlying3 (hval 5 3 v5 rfl rfl))
 have hv4:=hval 4 78 v4 rfl rfl
 obtain⟨fuel,hf4⟩:=t4
 rw[slice_cells1 Tryz.underlying78 hv4]at hf4
 obtain⟨l,A,cap,rfl,hS⟩:=openInts hf4
 have hAl:=slice_blk Tryz.underlying78 hv4
 have hm:IntKind.i64.min= -9223372036854775808:=by decide
 have hx:IntKind.i64.max=9223372036854775807:=by decide
 have g0a:=hb0.1;have g0b:=hb0.2;have g2a:=hb2.1;have g2b:=hb2.2;have g3a:=hb3.1;have g3b:=hb3.2;have g5a:=hb5.1;have g5b:=hb5.2
 rw[hm]at g0a g2a g3a g5a
 rw[hx]at g0b g2b g3b g5b
 obtain⟨hG,hK⟩:=of_laidBo hL
 refine(keepBootsF i0 i1 i2 i3 i5 A cap l W hG hK hS hAl g0a g0b g2a g2b g3a g3b g5a g5b).mono fun e W' ⟨he,hf⟩=> ?_
 subst he
 exact⟨_,rfl,Gi JC (by intro t ht;rw[Tryz.params8]at ht;simp only[List.mem_cons,List.not_mem_nil,or_false,List.toList_toArray]at ht;rcases ht with rfl|rfl|rfl|rfl|rfl|rfl<;>exact⟨by kernel_rfl,of_decide_eq_true (by kernel_rfl)⟩) rfl hW rfl rfl rfl rfl Tryz.underlying4 hf.belowAll⟩
theorem boots_f1:Tryz.checked.prog.inPlace 8=Rows.bootsRow.inPlace:=by kernel_rfl
theorem boots_f2:Tryz.checked.prog.unfollowed 8=Rows.bootsRow.unfollowed:=by kernel_rfl
theorem boots_f3:Tryz.checked.prog.recurses 8=Rows.bootsRow.recurses:=by kernel_rfl
theorem boots_f4:Tryz.checked.prog.varsNamed 8=Rows.bootsRow.named:=by kernel_rfl
theorem boots_facts:joinedFacts Tryz.checked.prog 8 Tryz.f8 Rows.bootsSpec Rows.bootsRow=true:=by
 unfold joinedFacts
 rw[boots_f1,boots_f2,boots_f3,boots_f4]
 kernel_rfl
theorem boots_row:Rows.BootsSaid:=
 OpenClaim.holds_of_wide (p:=Tryz.pinned) (s:=Rows.bootsSpec) (c:=Rows.bootsRow) 8 Tryz.f8 rfl rfl rfl rfl rfl rfl rfl ⟨rfl,rfl,rfl,rfl,rfl⟩ rfl rfl rfl rfl rfl (by kernel_rfl) Tryz.func8 boots_facts
  (of_decide_eq_true (by kernel_rfl)) (by unfold Func.isWrapper;first|(rw[if_pos (by decide+kernel)];kernel_rfl)|(rw[if_neg (by decide+kernel)];exact⟨rfl,rfl⟩))
  (fun os started H enc _=>boots_lifted os started H enc)
theorem boots_holds:Rows.BootsCardSaid:=
 Claim7.holds_tied_plain_at .later [] Rows.bootsCard.laidKinds true Rows.bootsCard.stood.harness true
  boots_row (fun _ h=>by cases h) (by kernel_rfl) (fun _ h=>by cases h) boots_row_tie rfl ⟨rfl,rfl⟩ (by kernel_rfl) rfl
  (fun f fn hf hfn=>by
   obtain rfl:f=8:=Option.some.inj ((show Tryz.prog.funcNamed "netboot/netbootkeep.Boots" =some 8 by kernel_rfl).symm.trans hf)|>.symm
   obtain rfl:fn=Tryz.f8:=(Option.some.inj (Tryz.func8.symm.trans hfn)).symm
   exact⟨by kernel_rfl,fun j t ht=>by
    rw[Tryz.params8]at ht
    have hm:t∈[3,3,3,3,78,3]:=by simpa using Array.mem_of_getElem? ht
    have hall:([3,3,3,3,78,3].all fun u=> !Tryz.prog.wantsStandIn u)=true:=by kernel_rfl
    exact(show Tryz.prog.wantsStandIn t=false by simpa using List.all_eq_true.1 hall t hm)⟩)
  (by kernel_rfl)
end Go.Proofs.YtcbkaiakdhiloacGreatDoor
