/- Proves: for every script the law netbootlaw.Leases(script) returns true (and the script reads afterwards as before), where the listed package variables hold what the program's and the library's texts lay there: the card ties them to it. No other condition. -/
import Derived.Test.YtcllkmllflheiaaGreatDoorLax
import Derived.Test.YtcllkmllflheiaaGreatDoorTie
import Derived.Test.YtcllkmllflheiaaGreatDoorCards
import Derived.SevenTiedAt
import Derived.Lay
import Derived.LaidOnce
import Derived.LaidMore
import Derived.Stop.Joined
set_option linter.unusedSimpArgs false
set_option linter.unusedVariables false
namespace Go.Proofs.YtcllkmllflheiaaGreatDoor
open Go.ChangeShapes Go.WideShapes Go.ChangeAt Go.WideMaps Go.WideElems Go.RowKit Go.Proofs
open Go.ChangeMaps (open_string shut_string)
theorem xW {P:Program} {w:World} {r:Reach} {base:Nat} {t e:TypeId} {v:Value} (ht:P.underlying t=some (.slice e)) (h:Value.okWide P w r base t v):v.cells.toList=[v]:=by
 unfold Value.okWide at h
 rw[ht]at h
 cases v with
 |agg xs=>exfalso;unfold Cell.okWide at h;rw[ht]at h;first|exact h|(simp[Cell.ok,ht]at h)
 |_=>rfl
def qQ:List (String×DataW Unit):=Rows.leasesRow.laid
theorem Ci {W:World} (h:laidMetH Tryz.prog qQ W):Glb W∧wU W 1 #[.int .u8 255,.int .u8 255,.int .u8 255,.int .u8 255,.int .u8 255,.int .u8 255]:=by
 rw[MakeChecks.laidMetH_plain _ _ _ (by kernel_rfl)]at h
 refine⟨BD h ?_ ?_ ?_ ?_ ?_ ?_,Cc (z:=255) (zs:=[255,255,255,255,255]) (jI (name:= "netboot/netbootref.all") (g:=1) (t:=26) (e:=5) (n:=6) (by kernel_rfl) (by kernel_rfl) Tryz.underlying26 Tryz.underlying5 (by kernel_rfl) (by kernel_rfl) (Lib.laidMet.reads (d:=Rows.laid_netboot_netbootref_all) h ?_)) (by kernel_rfl)⟩
 all_goals(unfold qQ Rows.leasesRow;repeat(first|exact List.Mem.head _|refine List.Mem.tail _ ?_))
set_option maxRecDepth 100000 in
theorem rZ (os:Os) (started:os.Started) (H:Type) (enc:TypeId×Value→H):
 ReturnsInHanded {} Tryz.checked os 3 .any (fun w args=>(Rows.leasesSpec.pre enc Tryz.prog Tryz.f3 [] false w args∧laidMetH Tryz.prog qQ w)∧sizedMet enc Tryz.prog Tryz.f3 (OpenSpec.ofChange Rows.leasesSpec) false w args)
  (Rows.leasesSpec.post enc Tryz.prog Tryz.f3 false true false false):=by
 refine returnsInHanded_of_change_and (C:=Tryz.checked) (X:=fun w _=>laidMetH Tryz.prog qQ w) (fun _ _ _ hh h=>h.of_heap hh) own started (by kernel_rfl) Tryz.func3
  (ChangeSpec.witness_shaped (enc:=enc) (C:=Tryz.checked) (os:=os) (X:=fun w _=>laidMetH Tryz.prog qQ w) false (World.laidAll Tryz.prog os qQ) #[.slice none 0 0] 8 (World.laidAll_os _ _ _)
   (World.shaped_of_ZipB (by kernel_rfl) (by kernel_rfl)) (by kernel_rfl) (by kernel_rfl) (by kernel_rfl)
   (by rw[MakeChecks.laidMetH_plain _ _ _ (by kernel_rfl)];exact laidMet_laidAll _ (by kernel_rfl) (by kernel_rfl))) ?_
 intro W base args ds gs before hval0 hW _ hsz hL _
 obtain⟨p,q,hA0,hV,_,hfz,hnd⟩:=id hW
 have hA:DataW.TrodAll enc Tryz.prog W 0 (fun _=>true) true Tryz.f3.params.toList args.toList ds p:=hA0
 rw[Tryz.params3]at hA
 obtain⟨v0,d0,rfl,rfl,h0⟩:=trodAll_one hA
 obtain⟨rfl,rfl⟩:=trodVars_none hV
 obtain⟨fuel,hf0⟩:=h0
 rw[xW Tryz.underlying22 (hval0 0 22 v0 (by rw[Tryz.params3];rfl) rfl)]at hf0
 obtain⟨ops,A,cap,rfl,hscr,hAa,hD⟩:=DR hf0
 have hsz':(DataW.weightsEach Tryz.prog [22] [d0]).all (· ≤reachBytes)=true:=hsz
 obtain⟨hn,hl⟩:=DG hD hsz'
 obtain⟨hG,ha⟩:=Ci hL
 refine(Dr ops A cap W hscr hG ha hl hn hAa).mono fun e W' ⟨he,hf⟩=> ?_
 subst he
 exact⟨_,rfl,DY Fh (by intro t ht;rw[Tryz.params3]at ht;simp at ht;subst ht;exact⟨by kernel_rfl,of_decide_eq_true (by kernel_rfl)⟩) rfl hW rfl rfl rfl rfl Tryz.underlying4 hf.belowAll⟩
theorem Cr:Tryz.checked.prog.inPlace 3=Rows.leasesRow.inPlace:=by kernel_rfl
theorem B7:Tryz.checked.prog.unfollowed 3=Rows.leasesRow.unfollowed:=by kernel_rfl
theorem B6:Tryz.checked.prog.recurses 3=Rows.leasesRow.recurses:=by kernel_rfl
theorem CV:Tryz.checked.prog.varsNamed 3=Rows.leasesRow.named:=by kernel_rfl
theorem uO:joinedFacts Tryz.checked.prog 3 Tryz.f3 Rows.leasesSpec Rows.leasesRow=true:=by
 unfold joinedFacts
 rw[Cr,B7,B6,CV]
 kernel_rfl
theorem AU:Rows.LeasesSaid:=
 OpenClaim.holds_of_wide (p:=Tryz.pinned) (s:=Rows.leasesSpec) (c:=Rows.leasesRow) 3 Tryz.f3 rfl rfl rfl rfl rfl rfl rfl ⟨rfl,rfl,rfl,rfl,rfl⟩ rfl rfl rfl rfl rfl (by kernel_rfl) Tryz.func3 uO
  (of_decide_eq_true (by kernel_rfl)) (by unfold Func.isWrapper;first|(rw[if_pos (by decide+kernel)];kernel_rfl)|(rw[if_neg (by decide+kernel)];exact⟨rfl,rfl⟩))
  (fun os started H enc _=>rZ os started H enc)
theorem leases_holds:Rows.LeasesCardSaid:=
 Claim7.holds_tied_plain_at .later [] Rows.leasesCard.laidKinds true Rows.leasesCard.stood.harness true
  AU (fun _ h=>by cases h) (by kernel_rfl) (fun _ h=>by cases h) leases_row_tie rfl ⟨rfl,rfl⟩ (by kernel_rfl) rfl
  (fun f fn hf hfn=>by
   obtain rfl:f=3:=Option.some.inj ((show Tryz.prog.funcNamed "netboot/netbootlaw.Leases" =some 3 by kernel_rfl).symm.trans hf)|>.symm
   obtain rfl:fn=Tryz.f3:=(Option.some.inj (Tryz.func3.symm.trans hfn)).symm
   exact⟨by kernel_rfl,fun j t ht=>by
    rw[Tryz.params3]at ht
    have hm:t∈[22]:=by simpa using Array.mem_of_getElem? ht
    have hall:([22].all fun u=> !Tryz.prog.wantsStandIn u)=true:=by kernel_rfl
    exact(show Tryz.prog.wantsStandIn t=false by simpa using List.all_eq_true.1 hall t hm)⟩)
  (by kernel_rfl)
end Go.Proofs.YtcllkmllflheiaaGreatDoor
