/- Proves: the law netbootkeep.Long() returns true, where the listed package variables hold what the program's and the library's texts lay there: the card ties them to it. No other condition. -/
import Derived.Test.YtcbkaiakdhiloaaGreatDoorLXa
import Derived.Test.YtcbkaiakdhiloaaGreatDoorTie
import Derived.Test.YtcbkaiakdhiloaaGreatDoorCards
import Derived.SevenTiedAt
import Derived.Lay
import Derived.LaidOnce
import Derived.LaidMore
import Derived.OpenShut
import Derived.Stop.Joined
import Derived.Carry
set_option linter.unusedSimpArgs false
set_option linter.unusedVariables false
namespace Go.Proofs.YtcbkaiakdhiloaaGreatDoor
open Go.ChangeShapes Go.WideShapes Go.ChangeAt Go.WideMaps Go.WideElems Go.RowKit Go.Proofs
open Go.ChangeMaps (open_string shut_string)
def laidLo:List (String×DataW Unit):=Rows.longRow.laid
theorem of_laidLo {W:World} (h:laidMetH Tryz.prog laidLo W):Glb W∧Fd W:=by
 rw[MakeChecks.laidMetH_plain _ _ _ (by kernel_rfl)]at h
 have hG:Glb W:=by
  refine EN h ?_ ?_ ?_ ?_ ?_ ?_
  all_goals(unfold laidLo Rows.longRow;repeat(first|exact List.Mem.head _|refine List.Mem.tail _ ?_))
 refine⟨hG,zJ (z:=2) (zs:=[0,0,0,0,42]) (iH (name:= "netboot/netbootkeep.card") (g:=0) (t:=28) (e:=5) (n:=6) (by kernel_rfl) (by kernel_rfl) Tryz.underlying28 Tryz.underlying5 (by kernel_rfl) (by kernel_rfl) (Lib.laidMet.reads (d:=Rows.laid_netboot_netbootkeep_card) h ?_)) (by kernel_rfl),zJ (z:=2) (zs:=[0,0,0,0,7]) (iH (name:= "netboot/netbootkeep.other") (g:=1) (t:=28) (e:=5) (n:=6) (by kernel_rfl) (by kernel_rfl) Tryz.underlying28 Tryz.underlying5 (by kernel_rfl) (by kernel_rfl) (Lib.laidMet.reads (d:=Rows.laid_netboot_netbootkeep_other) h ?_)) (by kernel_rfl),hG.tabs⟩
 all_goals(unfold laidLo Rows.longRow;repeat(first|exact List.Mem.head _|refine List.Mem.tail _ ?_))
set_option maxRecDepth 100000 in
theorem long_lifted (os:Os) (started:os.Started) (H:Type) (enc:TypeId×Value→H):
 ReturnsInHanded {} Tryz.checked os 3 .any (fun w args=>(Rows.longSpec.pre enc Tryz.prog Tryz.f3 [] false w args∧laidMetH Tryz.prog laidLo w)∧sizedMet enc Tryz.prog Tryz.f3 (OpenSpec.ofChange Rows.longSpec) false w args)
  (Rows.longSpec.post enc Tryz.prog Tryz.f3 false true false false):=by
 refine returnsInHanded_of_change_and (C:=Tryz.checked) (X:=fun w _=>laidMetH Tryz.prog laidLo w) (fun _ _ _ hh h=>h.of_heap hh) own started (by kernel_rfl) Tryz.func3
  (ChangeSpec.witness_shaped (enc:=enc) (C:=Tryz.checked) (os:=os) (X:=fun w _=>laidMetH Tryz.prog laidLo w) false (World.laidAll Tryz.prog os laidLo) #[] 8 (World.laidAll_os _ _ _)
   (World.shaped_of_ZipB (by kernel_rfl) (by kernel_rfl)) (by kernel_rfl) (by kernel_rfl) (by kernel_rfl)
   (by rw[MakeChecks.laidMetH_plain _ _ _ (by kernel_rfl)];exact laidMet_laidAll _ (by kernel_rfl) (by kernel_rfl))) ?_
 intro W base args ds gs before hval0 hW _ hsz hL _
 obtain⟨p,q,hA0,hV,_,hfz,hnd⟩:=id hW
 have hA:DataW.TrodAll enc Tryz.prog W 0 (fun _=>true) true Tryz.f3.params.toList args.toList ds p:=hA0
 rw[Tryz.params3]at hA
 obtain⟨h0',rfl,rfl⟩:=trodAll_nil hA
 obtain⟨av⟩:=args
 simp at h0'
 subst h0'
 obtain⟨rfl,rfl⟩:=trodVars_none hV
 obtain⟨hG,hC⟩:=of_laidLo hL
 refine(keepLong W hG hC).mono fun e W' ⟨he,hf⟩=> ?_
 subst he
 exact⟨_,rfl,GB Ia (by intro t ht;rw[Tryz.params3]at ht;simp at ht) rfl hW rfl rfl rfl rfl Tryz.underlying4 hf.belowAll⟩
theorem long_f1:Tryz.checked.prog.inPlace 3=Rows.longRow.inPlace:=by kernel_rfl
theorem long_f2:Tryz.checked.prog.unfollowed 3=Rows.longRow.unfollowed:=by kernel_rfl
theorem long_f3:Tryz.checked.prog.recurses 3=Rows.longRow.recurses:=by kernel_rfl
theorem long_f4:Tryz.checked.prog.varsNamed 3=Rows.longRow.named:=by kernel_rfl
theorem long_facts:joinedFacts Tryz.checked.prog 3 Tryz.f3 Rows.longSpec Rows.longRow=true:=by
 unfold joinedFacts
 rw[long_f1,long_f2,long_f3,long_f4]
 kernel_rfl
theorem long_row:Rows.LongSaid:=
 OpenClaim.holds_of_wide (p:=Tryz.pinned) (s:=Rows.longSpec) (c:=Rows.longRow) 3 Tryz.f3 rfl rfl rfl rfl rfl rfl rfl ⟨rfl,rfl,rfl,rfl,rfl⟩ rfl rfl rfl rfl rfl (by kernel_rfl) Tryz.func3 long_facts
  (of_decide_eq_true (by kernel_rfl)) (by unfold Func.isWrapper;first|(rw[if_pos (by decide+kernel)];kernel_rfl)|(rw[if_neg (by decide+kernel)];exact⟨rfl,rfl⟩))
  (fun os started H enc _=>long_lifted os started H enc)
theorem long_holds:Rows.LongCardSaid:=
 Claim7.holds_tied_plain_at .later [] Rows.longCard.laidKinds true Rows.longCard.stood.harness true
  long_row (fun _ h=>by cases h) (by kernel_rfl) (fun _ h=>by cases h) long_row_tie rfl ⟨rfl,rfl⟩ (by kernel_rfl) rfl
  (fun f fn hf hfn=>by
   obtain rfl:f=3:=Option.some.inj ((show Tryz.prog.funcNamed "netboot/netbootkeep.Long" =some 3 by kernel_rfl).symm.trans hf)|>.symm
   obtain rfl:fn=Tryz.f3:=(Option.some.inj (Tryz.func3.symm.trans hfn)).symm
   exact⟨by kernel_rfl,fun j t ht=>by
    rw[Tryz.params3]at ht
    simp at ht⟩)
  (by kernel_rfl)
end Go.Proofs.YtcbkaiakdhiloaaGreatDoor
