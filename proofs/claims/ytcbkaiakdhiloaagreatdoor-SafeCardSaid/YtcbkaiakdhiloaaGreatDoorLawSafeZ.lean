/- Proves: for all s, frames and times the law netbootkeep.Safe(s, frames, times) returns true (and the arguments read afterwards as before), where the listed package variables hold what the program's and the library's texts lay there: the card ties them to it. No other condition. -/
import Derived.Test.YtcbkaiakdhiloaaGreatDoorSba
import Derived.Test.YtcbkaiakdhiloaaGreatDoorTie
import Derived.Test.YtcbkaiakdhiloaaGreatDoorCards
import Derived.SevenTiedAt
import Derived.Lay
import Derived.LaidOnce
import Derived.LaidMore
import Derived.Stop.Joined
set_option linter.unusedSimpArgs false
set_option linter.unusedVariables false
namespace Go.Proofs.YtcbkaiakdhiloaaGreatDoor
open Go.ChangeShapes Go.WideShapes Go.ChangeAt Go.WideMaps Go.WideElems Go.RowKit Go.Proofs
open Go.ChangeMaps (open_string shut_string)
theorem Al {P:Program} {w:World} {r:Reach} {base:Nat} {t e:TypeId} {v:Value} (ht:P.underlying t=some (.slice e)) (h:Value.okWide P w r base t v):v.cells.toList=[v]:=by
 unfold Value.okWide at h
 rw[ht]at h
 cases v with
 |agg xs=>exfalso;unfold Cell.okWide at h;rw[ht]at h;first|exact h|(simp[Cell.ok,ht]at h)
 |_=>rfl
def pX:List (String×DataW Unit):=Rows.safeRow.laid
theorem Ef {W:World} (h:laidMetH Tryz.prog pX W):Glb W∧Fd W:=by
 rw[MakeChecks.laidMetH_plain _ _ _ (by kernel_rfl)]at h
 have hG:Glb W:=by
  refine EN h ?_ ?_ ?_ ?_ ?_ ?_
  all_goals(unfold pX Rows.safeRow;repeat(first|exact List.Mem.head _|refine List.Mem.tail _ ?_))
 refine⟨hG,zJ (z:=2) (zs:=[0,0,0,0,42]) (iH (name:= "netboot/netbootkeep.card") (g:=0) (t:=28) (e:=5) (n:=6) (by kernel_rfl) (by kernel_rfl) Tryz.underlying28 Tryz.underlying5 (by kernel_rfl) (by kernel_rfl) (Lib.laidMet.reads (d:=Rows.laid_netboot_netbootkeep_card) h ?_)) (by kernel_rfl),zJ (z:=2) (zs:=[0,0,0,0,7]) (iH (name:= "netboot/netbootkeep.other") (g:=1) (t:=28) (e:=5) (n:=6) (by kernel_rfl) (by kernel_rfl) Tryz.underlying28 Tryz.underlying5 (by kernel_rfl) (by kernel_rfl) (Lib.laidMet.reads (d:=Rows.laid_netboot_netbootkeep_other) h ?_)) (by kernel_rfl),hG.tabs⟩
 all_goals(unfold pX Rows.safeRow;repeat(first|exact List.Mem.head _|refine List.Mem.tail _ ?_))
set_option maxRecDepth 100000 in
theorem zW (os:Os) (started:os.Started) (H:Type) (enc:TypeId×Value→H):
 ReturnsInHanded {} Tryz.checked os 4 .any (fun w args=>(Rows.safeSpec.pre enc Tryz.prog Tryz.f4 [] false w args∧laidMetH Tryz.prog pX w)∧sizedMet enc Tryz.prog Tryz.f4 (OpenSpec.ofChange Rows.safeSpec) false w args)
  (Rows.safeSpec.post enc Tryz.prog Tryz.f4 false true false false):=by
 refine returnsInHanded_of_change_and (C:=Tryz.checked) (X:=fun w _=>laidMetH Tryz.prog pX w) (fun _ _ _ hh h=>h.of_heap hh) own started (by kernel_rfl) Tryz.func4
  (ChangeSpec.witness_shaped (enc:=enc) (C:=Tryz.checked) (os:=os) (X:=fun w _=>laidMetH Tryz.prog pX w) false (World.laidAll Tryz.prog os pX) #[.string ⟨#[]⟩,.slice none 0 0,.string ⟨#[]⟩] 8 (World.laidAll_os _ _ _)
   (World.shaped_of_ZipB (by kernel_rfl) (by kernel_rfl)) (by kernel_rfl) (by kernel_rfl) (by kernel_rfl)
   (by rw[MakeChecks.laidMetH_plain _ _ _ (by kernel_rfl)];exact laidMet_laidAll _ (by kernel_rfl) (by kernel_rfl))) ?_
 intro W base args ds gs before hval0 hW _ hsz hL _
 obtain⟨p,q,hA0,hV,_,hfz,hnd⟩:=id hW
 have hA:DataW.TrodAll enc Tryz.prog W 0 (fun _=>true) true Tryz.f4.params.toList args.toList ds p:=hA0
 rw[Tryz.params4]at hA
 obtain⟨v0,v1,v2,d0,d1,d2,p0,p1,p2,rfl,rfl,rfl,h0,h1,h2⟩:=trodAll_three hA
 obtain⟨rfl,rfl⟩:=trodVars_none hV
 obtain⟨s0,rfl,hd0,rfl,_⟩:=open_string Tryz.underlying9 (hval0 0 9 v0 (by rw[Tryz.params4];rfl) rfl) h0
 obtain⟨s2,rfl,hd2,rfl,_⟩:=open_string Tryz.underlying9 (hval0 2 9 v2 (by rw[Tryz.params4];rfl) rfl) h2
 obtain⟨fuel,hf1⟩:=h1
 rw[Al Tryz.underlying41 (hval0 1 41 v1 (by rw[Tryz.params4];rfl) rfl)]at hf1
 obtain⟨l,A,cap,rfl,hS,hD⟩:=FN hf1
 have hsz':(DataW.weightsEach Tryz.prog [9,41,9] [_,d1,_]).all (· ≤reachBytes)=true:=hsz
 have hl:=Eb hD hsz'
 have hw':=fun n hn=>(by simpa using List.all_eq_true.1 hsz' n hn:n≤reachBytes)
 have ht:s2.data.toList.length≤4611686018427387904:=by
  have e:reachBytes=140737488351232:=rfl
  have:=hw' s2.data.toList.length (DataW.weights_mem_each (j:=2) (t:=9) rfl rfl _ (by rw[hd2];simp[DataW.weights]))
  omega
 obtain⟨hG,hK⟩:=Ef hL
 have hw:=Gv s0.data.toList s2.data.toList A cap l W Dh hG hK hS hl ht
 rw[vF,vF]at hw
 refine hw.mono fun e W' ⟨he,hf⟩=> ?_
 subst he
 exact⟨_,rfl,GB Ia (by intro t ht;rw[Tryz.params4]at ht;simp at ht;rcases ht with rfl|rfl|rfl<;>exact⟨by kernel_rfl,of_decide_eq_true (by kernel_rfl)⟩) rfl hW rfl rfl rfl rfl Tryz.underlying4 hf.belowAll⟩
theorem Ij:Tryz.checked.prog.inPlace 4=Rows.safeRow.inPlace:=by kernel_rfl
theorem IO:Tryz.checked.prog.unfollowed 4=Rows.safeRow.unfollowed:=by kernel_rfl
theorem Ir:Tryz.checked.prog.recurses 4=Rows.safeRow.recurses:=by kernel_rfl
theorem IY:Tryz.checked.prog.varsNamed 4=Rows.safeRow.named:=by kernel_rfl
theorem CF:joinedFacts Tryz.checked.prog 4 Tryz.f4 Rows.safeSpec Rows.safeRow=true:=by
 unfold joinedFacts
 rw[Ij,IO,Ir,IY]
 kernel_rfl
theorem GA:Rows.SafeSaid:=
 OpenClaim.holds_of_wide (p:=Tryz.pinned) (s:=Rows.safeSpec) (c:=Rows.safeRow) 4 Tryz.f4 rfl rfl rfl rfl rfl rfl rfl ⟨rfl,rfl,rfl,rfl,rfl⟩ rfl rfl rfl rfl rfl (by kernel_rfl) Tryz.func4 CF
  (of_decide_eq_true (by kernel_rfl)) (by unfold Func.isWrapper;first|(rw[if_pos (by decide+kernel)];kernel_rfl)|(rw[if_neg (by decide+kernel)];exact⟨rfl,rfl⟩))
  (fun os started H enc _=>zW os started H enc)
theorem safe_holds:Rows.SafeCardSaid:=
 Claim7.holds_tied_plain_at .later [] Rows.safeCard.laidKinds true Rows.safeCard.stood.harness true
  GA (fun _ h=>by cases h) (by kernel_rfl) (fun _ h=>by cases h) safe_row_tie rfl ⟨rfl,rfl⟩ (by kernel_rfl) rfl
  (fun f fn hf hfn=>by
   obtain rfl:f=4:=Option.some.inj ((show Tryz.prog.funcNamed "netboot/netbootkeep.Safe" =some 4 by kernel_rfl).symm.trans hf)|>.symm
   obtain rfl:fn=Tryz.f4:=(Option.some.inj (Tryz.func4.symm.trans hfn)).symm
   exact⟨by kernel_rfl,fun j t ht=>by
    rw[Tryz.params4]at ht
    have hm:t∈[9,41,9]:=by simpa using Array.mem_of_getElem? ht
    have hall:([9,41,9].all fun u=> !Tryz.prog.wantsStandIn u)=true:=by kernel_rfl
    exact(show Tryz.prog.wantsStandIn t=false by simpa using List.all_eq_true.1 hall t hm)⟩)
  (by kernel_rfl)
end Go.Proofs.YtcbkaiakdhiloaaGreatDoor
