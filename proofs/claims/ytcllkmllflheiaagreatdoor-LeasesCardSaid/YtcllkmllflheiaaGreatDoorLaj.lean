/- Parts of the walk; written by programs, merged. -/
import Derived.Test.YtcllkmllflheiaaGreatDoorLai
set_option linter.unusedSimpArgs false
set_option linter.unusedVariables false
set_option maxRecDepth 20000
set_option maxHeartbeats 8000000
namespace Go.Proofs.YtcllkmllflheiaaGreatDoor
open Go.RowKit Go.Proofs
attribute [local go_sem] aG aD aE aF
theorem uQ {l:List aS} {e x:aS} (h:x∈enter l e):x=e∨x∈l:=by
 unfold enter at h
 split at h
 ·rcases List.mem_append.1 h with h|h
  ·exact .inr h
  ·exact .inl (by simpa using h)
 ·cases l with
  |nil=>exact .inl (by simpa using h)
  |cons b r=>
   obtain⟨y,hy,rfl⟩:=List.mem_map.1 h
   split
   ·exact .inl rfl
   ·exact .inr hy
theorem vW {l:List aS} {e:aS} (h:l.length≤4):(enter l e).length≤4:=by
 unfold enter
 split
 ·simp;omega
 ·cases l with
  |nil=>simp
  |cons b r=>simpa using h
theorem qW {l:List aS} {ip:Nat} {f:aS→aS} {x:aS} (h:x∈bM l ip f):x∈l∨∃y∈l,x=f y:=by
 unfold bM at h
 obtain⟨y,hy,rfl⟩:=List.mem_map.1 h
 split
 ·exact .inr ⟨y,hy,rfl⟩
 ·exact .inl hy
theorem qS (l:List aS) (ip:Nat) (f:aS→aS):(bM l ip f).length=l.length:=by simp[bM]
theorem EE {n:Int} (h0:0≤n) (h1:n≤4611686018427387904) (k:Int) (hk:0≤k∧k≤60):wrap64 (n+k)=n+k:=IntWalk.wrap64_in _ ⟨by omega,by omega⟩
theorem zO {s:St} {ip:Nat} {pk:List UInt8} (h:s.Ok) (hp:pk.length≤1500):({s with cache:=mK s.cache ip pk s.now}:St).Ok:=by
 have hw:=EE h.now0 h.now1 2 (by omega)
 have key:(∀e∈mK s.cache ip pk s.now,e.waits.length≤1500∧0≤e.due∧e.due≤4611686018427388000)∧(mK s.cache ip pk s.now).length≤4:=by
  have n1:=h.now1
  have n0:=h.now0
  unfold mK
  split
  ·refine⟨fun e he=> ?_,vW h.cache⟩
   rcases uQ he with rfl|he
   ·exact⟨hp,by simp only[hw];omega,by simp only[hw];omega⟩
   ·exact⟨h.waits e he,h.dues e he⟩
  ·split
   ·exact⟨fun e he=>⟨h.waits e he,h.dues e he⟩,h.cache⟩
   ·refine⟨fun e he=> ?_,by rw[qS];exact h.cache⟩
    rcases qW he with he|⟨y,hy,rfl⟩
    ·exact⟨h.waits e he,h.dues e he⟩
    ·exact⟨hp,h.dues y hy⟩
 exact {h with waits:=fun e he=>(key.1 e he).1,dues:=fun e he=>(key.1 e he).2,cache:=key.2}
theorem xR (l:List aS) (ip:Nat):∃(b0 b1 b2 b3 b4 b5:UInt8) (ok ask:Bool),gP l ip= .tuple #[.agg #[.int .u8 (b0.toNat:Int),.int .u8 (b1.toNat:Int),.int .u8 (b2.toNat:Int),.int .u8 (b3.toNat:Int),.int .u8 (b4.toNat:Int),.int .u8 (b5.toNat:Int)],.bool ok,.bool ask]:=by
 unfold gP
 split
 ·exact⟨0,0,0,0,0,0,false,true,rfl⟩
 ·next e _=>
  split
  ·exact⟨e.card.1,e.card.2.1,e.card.2.2.1,e.card.2.2.2.1,e.card.2.2.2.2.1,e.card.2.2.2.2.2,true,false,rfl⟩
  ·exact⟨0,0,0,0,0,0,false,false,rfl⟩
theorem GH {w:World} {g:Nat} {t:TypeId} {z0 z1 z2 z3 z4 z5:Value} (h:Bk w g t #[z0,z1,z2,z3,z4,z5]) (v0 v1 v2 v3 v4 v5:Value):
 Bk ((((((w.setCell ⟨g,0,none⟩ v0).setCell ⟨g,1,none⟩ v1).setCell ⟨g,2,none⟩ v2).setCell ⟨g,3,none⟩ v3).setCell ⟨g,4,none⟩ v4).setCell ⟨g,5,none⟩ v5) g t #[v0,v1,v2,v3,v4,v5]:=(((((h.set 0 v0).set 1 v1).set 2 v2).set 3 v3).set 4 v4).set 5 v5
theorem EP {S:Nat→Prop} {w w1:World} {g:Nat} (h:Fr S w w1) (hg:g<w.heap.size→S g) (v0 v1 v2 v3 v4 v5:Value):
 Fr S w ((((((w1.setCell ⟨g,0,none⟩ v0).setCell ⟨g,1,none⟩ v1).setCell ⟨g,2,none⟩ v2).setCell ⟨g,3,none⟩ v3).setCell ⟨g,4,none⟩ v4).setCell ⟨g,5,none⟩ v5):=(((((h.setCell (p:=⟨g,0,none⟩) hg v0).setCell (p:=⟨g,1,none⟩) hg v1).setCell (p:=⟨g,2,none⟩) hg v2).setCell (p:=⟨g,3,none⟩) hg v3).setCell (p:=⟨g,4,none⟩) hg v4).setCell (p:=⟨g,5,none⟩) hg v5
theorem D4 (id:Nat) (ttl pr:UInt8) (fi ti:Nat) (ld:List UInt8):(Be id ttl pr fi ti ld).1.length≤1500:=by
 unfold Be
 split
 ·simp
 ·split
  ·simp
  ·simp only[sF,List.length_append,iA];omega
theorem hZ (s:St) (dst fm port:Nat) (ld:List UInt8):(s.packet dst fm port ld).length≤1500:=D4 _ _ _ _ _ _
theorem DW (L:Lay) (s:St) (dst fm port:Nat) (ld:List UInt8) (w:World) (h:aC w L s) (hdst:dst<4294967296) (hfm:fm<65536) (hport:port<65536) (hld:ld.length≤4611686018427387000):
 Calls Tryz.prog 60 #[.pointer (some ⟨L.p,0,none⟩),.int .u32 (dst:Int),.int .u16 (fm:Int),.int .u16 (port:Int),.string (bs ld)] w (cH L (s.udp dst fm port ld) (.tuple #[]) w):=by
 obtain⟨pk,hpk⟩:∃pk,s.packet dst fm port ld=pk:=⟨_,rfl⟩
 have hcall:=oB L s dst fm port ld w h hdst hfm hport hld
 rw[hpk]at hcall
 have Hpk:=Lib.hid hpk
 have Hcall:=Lib.hid hcall
 clear hcall hpk
 go_enter Tryz.func60,Tryz.ntmps60
 go_wp2_with fail
 refine Hcall.out.mono ?_
 rintro e w2 ⟨rfl,hB2,hF2⟩
 go_upto_region 2 with fail
 have hok:=h.ok
 obtain⟨bb,hbb⟩:∃bb,(bits BinOp.and IntKind.u32 (dst:Int) (s.mask:Int) !=bits BinOp.and IntKind.u32 (s.addr:Int) (s.mask:Int))=bb:=⟨_,rfl⟩
 have hbb2:bb=decide (dst&&&s.mask≠s.addr&&&s.mask):=by
  rw[←hbb,u32_and_nat _ _ hdst hok.mask,u32_and_nat _ _ hok.addr hok.mask]
  by_cases hx:dst&&&s.mask=s.addr&&&s.mask
  ·rw[hx];simp
  ·rw[decide_eq_true hx,bne_iff_ne];intro hy;exact hx (by omega)
 have hhop:s.hop dst=if(s.router≠0∧bb=true)then s.router else dst:=by
  unfold St.hop;rw[hbb2];simp only[decide_eq_true_eq]
 have hhlt:s.hop dst<4294967296:=by unfold St.hop;split;exact hok.router;exact hdst
 obtain⟨hp,hhp⟩:∃hp,s.hop dst=hp:=⟨_,rfl⟩
 rw[hhp]at hhop hhlt
 have Hhp:=Lib.hid hhp
 have Hbb:=Lib.hid hbb
 clear hhp hbb hbb2
 go_cut [48]from 22 (fun s48 wx=>s48= .bool (bb&&decide (s.router≠0))∧aC wx L s.took∧Fr (bW L) w wx)
 case first=>
  clear hhop
  cases bb
  ·have hbv:=Hbb.out
   go_upto_region 2 with fail
   refine wpr (fun w'=>aC w' L s.took∧Fr (bW L) w w') [] (.p 0 (.p 1 (.p 2 (.p 3 (.p 4 (.p 7 (.p 8 (.p 9 (.p 10 (.p 12 (.p 13 (.p 14 (.p 15 (.q 5 (.p 6 (.q 11 (.q 16 (.p 17 (.p 18 (.p 19 (.p 20 (.p 21 (.p 22 (.p 23 (.q 24 (.p 25 (.p 26 .nil))))))))))))))))))))))))))) (⟨hB2.drew,hF2.drew⟩) ?_
   intro ops Q' hO hQ' wr1 hR1
   iterate 13 refine pP hO ?_
   refine pQ hO rfl rfl (fun w' hS=>by obtain⟨hB,hF⟩:=hS;have c24:=hB.g24;have c23:=hB.g23;have c25:=hB.g25;simp only[St.took]at c24 c23 c25;exact qd) ?_
   refine pP hO ?_
   iterate 2 (refine pQ hO rfl rfl (fun w' hS=>by obtain⟨hB,hF⟩:=hS;have c24:=hB.g24;have c23:=hB.g23;have c25:=hB.g25;simp only[St.took]at c24 c23 c25;exact qd) ?_)
   iterate 3 refine pP hO ?_
   iterate 4 refine pN hO ?_
   refine qN hO ?_
   refine pN hO ?_
   refine pP hO ?_
   refine bV (hQ' _ _ ?_)
   go_wp2_with fail
   go_meet
   case rel=>exact⟨rfl,hR1.1,hR1.2⟩
  ·have hbv:=Hbb.out
   by_cases hr0:s.router=0
   ·have hri:(s.router:Int)=0:=by omega
    have hrd:decide (s.router≠0)=false:=by simp[hr0]
    have Hrd:=Lib.hid hrd
    clear hr0 hrd
    go_upto_region 2 with fail
    refine wpr (fun w'=>aC w' L s.took∧Fr (bW L) w w') [] (.p 0 (.p 1 (.p 2 (.p 3 (.p 4 (.p 7 (.p 8 (.p 9 (.p 10 (.p 12 (.p 13 (.p 14 (.p 15 (.q 5 (.p 6 (.q 11 (.q 16 (.p 17 (.p 18 (.p 19 (.p 20 (.p 21 (.p 22 (.p 23 (.q 24 (.p 25 (.p 26 .nil))))))))))))))))))))))))))) (⟨hB2.drew,hF2.drew⟩) ?_
    intro ops Q' hO hQ' wr1 hR1
    iterate 13 refine pP hO ?_
    refine pQ hO rfl rfl (fun w' hS=>by obtain⟨hB,hF⟩:=hS;have c24:=hB.g24;have c23:=hB.g23;have c25:=hB.g25;simp only[St.took]at c24 c23 c25;exact qd) ?_
    refine pP hO ?_
    iterate 2 (refine pQ hO rfl rfl (fun w' hS=>by obtain⟨hB,hF⟩:=hS;have c24:=hB.g24;have c23:=hB.g23;have c25:=hB.g25;simp only[St.took]at c24 c23 c25;exact qd) ?_)
    iterate 3 refine pP hO ?_
    iterate 4 refine pR hO ?_
    refine pS hO rfl rfl rfl rfl (fun w' hS=>by obtain⟨hB,hF⟩:=hS;have c24:=hB.g24;have c23:=hB.g23;have c25:=hB.g25;simp only[St.took]at c24 c23 c25;exact qd) ?_
    refine pR hO ?_
    refine pP hO ?_
    refine bV (hQ' _ _ ?_)
    go_wp2_with fail
    go_meet
    case rel=>exact⟨by rw[Hrd.out];rfl,hR1.1,hR1.2⟩
   ·have hrj:((s.router:Int)==0)=false:=by rw[beq_eq_false_iff_ne];omega
    have hri:((s.router:Int) !=0)=true:=by rw[bne_iff_ne];omega
    have hrd:decide (s.router≠0)=true:=by simp[hr0]
    have Hrd:=Lib.hid hrd
    clear hr0 hrd
    go_upto_region 2 with fail
    refine wpr (fun w'=>aC w' L s.took∧Fr (bW L) w w') [] (.p 0 (.p 1 (.p 2 (.p 3 (.p 4 (.p 7 (.p 8 (.p 9 (.p 10 (.p 12 (.p 13 (.p 14 (.p 15 (.q 5 (.p 6 (.q 11 (.q 16 (.p 17 (.p 18 (.p 19 (.p 20 (.p 21 (.p 22 (.p 23 (.q 24 (.p 25 (.p 26 .nil))))))))))))))))))))))))))) (⟨hB2.drew,hF2.drew⟩) ?_
    intro ops Q' hO hQ' wr1 hR1
    iterate 13 refine pP hO ?_
    refine pQ hO rfl rfl (fun w' hS=>by obtain⟨hB,hF⟩:=hS;have c24:=hB.g24;have c23:=hB.g23;have c25:=hB.g25;simp only[St.took]at c24 c23 c25;exact qd) ?_
    refine pP hO ?_
    iterate 2 (refine pQ hO rfl rfl (fun w' hS=>by obtain⟨hB,hF⟩:=hS;have c24:=hB.g24;have c23:=hB.g23;have c25:=hB.g25;simp only[St.took]at c24 c23 c25;exact qd) ?_)
    iterate 3 refine pP hO ?_
    iterate 4 refine pR hO ?_
    refine pS hO rfl rfl rfl rfl (fun w' hS=>by obtain⟨hB,hF⟩:=hS;have c24:=hB.g24;have c23:=hB.g23;have c25:=hB.g25;simp only[St.took]at c24 c23 c25;exact qd) ?_
    refine pR hO ?_
    refine pP hO ?_
    refine bV (hQ' _ _ ?_)
    go_wp2_with fail
    go_meet
    case rel=>exact⟨by rw[Hrd.out];rfl,hR1.1,hR1.2⟩
 case rest=>
 obtain⟨rfl,hB3,hF3⟩:=hcut
 have c25:=hB3.g25
 simp only[St.took]at c25
 go_upto_if 48 with fail
 go_cut [11]from 12 (fun s11 wx=>s11= .int .u32 (hp:Int)∧aC wx L s.took∧Fr (bW L) w wx)
 case first=>
  have hb2:(bb&&decide (s.router≠0))=decide (s.router≠0∧bb=true):=by cases bb<;>simp
  rw[hb2]
  by_cases hx:s.router≠0∧bb=true
  ·rw[if_pos hx]at hhop
   rw[decide_eq_true hx]
   subst hhop
   clear hx hb2
   go_wp2_with fail
   go_meet
   case rel=>exact⟨rfl,hB3,hF3⟩
  ·rw[if_neg hx]at hhop
   rw[decide_eq_false hx]
   subst hhop
   clear hx hb2
   go_wp2_with fail
   go_meet
   case rel=>exact⟨rfl,hB3,hF3⟩
 case rest=>
 clear hB3 hF3 c25
 obtain⟨rfl,hB3,hF3⟩:=hcut
 clear hhop hB2 hF2
 obtain⟨b0,b1,b2,b3,b4,b5,okb,askb,hres⟩:=xR s.cache hp
 have Hres:=Lib.hid hres
 clear hres
 go_upto_region 4 with fail
 go_cut [12,13,14]from 15 (fun s12 s13 s14 wx=>∃g,s12= .pointer (some ⟨g,0,none⟩)∧s13= .bool okb∧s14= .bool askb∧Bk wx g 26 #[.int .u8 (b0.toNat:Int),.int .u8 (b1.toNat:Int),.int .u8 (b2.toNat:Int),.int .u8 (b3.toNat:Int),.int .u8 (b4.toNat:Int),.int .u8 (b5.toNat:Int)]∧aC wx L {s.took with cache:=mK s.cache hp pk s.now}∧Fr (bW L) w wx)
 case first=>
  go_upto_region 4 with fail
  refine wpr (fun w'=>aC w' L s.took∧Fr (bW L) w w') [9] (.p 0 (.p 1 (.p 2 (.p 3 (.p 4 (.p 5 (.p 6 (.p 7 (.q 8 (.e2 9 (.p 10 (.p 11 (.p 12 (.p 13 (.e 14 (.e 15 (.p 16 (.p 17 .nil)))))))) 14 (.e 9 (.p 10 (.p 11 (.p 12 (.p 13 (.e 15 (.p 16 (.p 17 .nil)))))))))))))))))) (⟨hB3.drew,hF3.drew⟩) ?_
  intro ops Q' hO hQ' wr1 hR1
  iterate 8 refine pP hO ?_
  refine pQ hO rfl rfl (fun w' hS=>by obtain⟨hB,hF⟩:=hS;have c16:=hB.g16;simp only[St.took]at c16;exact qd) ?_
  refine Jz ?_ ?_
  ·skip
   refine gC hO rfl rfl rfl (fun K hK=> ?_)
   go_simp
   have hne:=hR1.1.ne
   simp only[Lay.blocks,List.nodup_cons,List.mem_cons,List.not_mem_nil,or_false,not_or]at hne
   refine(uL L.p 15 L.mp hp s.cache pk s.now _ hR1.1.g15 (fun x=>hne.1.2.2.2.2 x) hR1.1.mp hR1.1.ok.dues hR1.1.ok.cache hhlt).mono ?_
   rintro e w4 ⟨rfl,hm4,hf4⟩
   rw[Hres.out]
   refine hK _ _ ?_
   clear hK K
   iterate 4 refine pP hO ?_
   refine gC hO rfl rfl rfl (fun K hK=> ?_)
   go_simp
   refine hK _ _ ?_
   clear hK K
   refine gC hO rfl rfl rfl (fun K hK=> ?_)
   go_simp
   refine hK _ _ ?_
   clear hK K
   iterate 2 refine pP hO ?_
   refine bV (hQ' _ _ ?_)
   go_wp2_with fail
   go_meet
   case rel=>
    have hpl:pk.length≤1500:=by rw[←Hpk.out];exact hZ ..
    have hmo:∀b,b<wr1.heap.size→aJ L.mp b→bW L b:=fun b _ hb=>by obtain rfl:b=L.mp:=hb;exact oP L
    exact⟨_,rfl,rfl,rfl,Bk.new _ _ _,(hR1.1.mpTurn hf4 hm4 (zO hR1.1.ok hpl)).none ((Fr.refl _ _).alloc _),(hR1.2.trans (hf4.mono hmo)).alloc _⟩
  ·skip
   refine fJ hO rfl rfl rfl (fun K hK=> ?_)
   go_simp
   refine hK _ _ (⟨hR1.1.none ((Fr.refl _ _).alloc _),hR1.2.none ((Fr.refl _ _).alloc _)⟩) (fun hR_14=> ?_)
   clear hK K
   refine gC hO rfl rfl rfl (fun K hK=> ?_)
   go_simp
   have hne:=hR_14.1.ne
   simp only[Lay.blocks,List.nodup_cons,List.mem_cons,List.not_mem_nil,or_false,not_or]at hne
   refine(uL L.p 15 L.mp hp s.cache pk s.now _ hR_14.1.g15 (fun x=>hne.1.2.2.2.2 x) hR_14.1.mp hR_14.1.ok.dues hR_14.1.ok.cache hhlt).mono ?_
   rintro e w4 ⟨rfl,hm4,hf4⟩
   rw[Hres.out]
   refine hK _ _ ?_
   clear hK K
   iterate 4 refine pP hO ?_
   refine gC hO rfl rfl rfl (fun K hK=> ?_)
   have hlt:=hR1.1.lt _ (oP L)
   have hG:=(Bk.new wr1 26 #[.int .u8 0,.int .u8 0,.int .u8 0,.int .u8 0,.int .u8 0,.int .u8 0]).keep hf4 (fun x=>by have x':wr1.heap.size=L.mp:=x;omega)
   have hGc:=hG.cells
   have hGf:=hG.frees
   go_simp
   refine hK _ _ ?_
   clear hK K
   iterate 2 refine pP hO ?_
   refine bV (hQ' _ _ ?_)
   go_wp2_with fail
   go_meet
   case rel=>
    have hpl:pk.length≤1500:=by rw[←Hpk.out];exact hZ ..
    have hmo:∀b,b<wr1.heap.size→aJ L.mp b→bW L b:=fun b _ hb=>by obtain rfl:b=L.mp:=hb;exact oP L
    have hF0:Fr (aJ L.mp) wr1 (wr1.alloc (.cells #[.int .u8 0,.int .u8 0,.int .u8 0,.int .u8 0,.int .u8 0,.int .u8 0] 26)):=(Fr.refl _ _).alloc _
    have hF1:Fr (aJ L.mp) wr1 w4:=hF0.trans hf4
    have hF2:=EP hF1 (g:=wr1.heap.size) (fun x=>absurd x (Nat.lt_irrefl _)) (.int .u8 (b0.toNat:Int)) (.int .u8 (b1.toNat:Int)) (.int .u8 (b2.toNat:Int)) (.int .u8 (b3.toNat:Int)) (.int .u8 (b4.toNat:Int)) (.int .u8 (b5.toNat:Int))
    have hM2:=hm4.keep (EP (Fr.refl (aJ wr1.heap.size) w4) (g:=wr1.heap.size) (fun _=>rfl) (.int .u8 (b0.toNat:Int)) (.int .u8 (b1.toNat:Int)) (.int .u8 (b2.toNat:Int)) (.int .u8 (b3.toNat:Int)) (.int .u8 (b4.toNat:Int)) (.int .u8 (b5.toNat:Int))) (fun x=>by have x':L.mp=wr1.heap.size:=x;omega)
    exact⟨_,rfl,rfl,rfl,GH hG _ _ _ _ _ _,hR1.1.mpTurn hF2 hM2 (zO hR1.1.ok hpl),hR1.2.trans (hF2.mono hmo)⟩
 case rest=>
 clear hB3 hF3
 obtain⟨g,rfl,rfl,rfl,hg,hB4,hF4⟩:=hcut
 have hok3:=h.ok
 have hu:s.udp dst fm port ld=match lB s.cache hp with
  |none=>({s.took with cache:=enter s.cache ⟨hp,nA,false,wrap64 (s.now+2),1,pk⟩}:St).ask s.addr hp
  |some e=>if e.known then s.took.send e.card 2048 pk else {s.took with cache:=bM s.cache hp fun e=>{e with waits:=pk}}:=by
  unfold St.udp
  simp only[Hpk.out,Hhp.out]
  rfl
 have hr:=Hres.out
 unfold gP at hr
 unfold mK at hB4
 cases hfind:lB s.cache hp with
 |none=>
  rw[hfind]at hu hr hB4
  simp only[Value.tuple.injEq,Array.mk.injEq,List.cons.injEq,Value.bool.injEq,and_true]at hr
  obtain⟨_,rfl,rfl⟩:=hr
  have hu':s.udp dst fm port ld=({s.took with cache:=enter s.cache ⟨hp,nA,false,wrap64 (s.now+2),1,pk⟩}:St).ask s.addr hp:=hu
  have Hu:=Lib.hid hu'
  have hB5:aC wc L {s.took with cache:=enter s.cache ⟨hp,nA,false,wrap64 (s.now+2),1,pk⟩}:=hB4
  have c23:=hB5.g23
  simp only[St.took]at c23
  clear hu hu' hfind hB4
  go_wp2_with fail
  refine(rG L _ s.addr hp _ (by first|exact hB5|exact hB5.none (Fr.ofDrew _)) hok3.addr hhlt).mono ?_
  rintro e w5 ⟨rfl,hB6,hF6⟩
  go_wp2_with fail
  refine bodyPost_end (results_none rfl _ _ _) rfl ?_
  rw[Hu.out]
  exact⟨rfl,hB6,by first|exact hF4.trans hF6|exact(hF4.none (Fr.ofDrew _)).trans hF6⟩
 |some e=>
  rw[hfind]at hu hr hB4
  obtain⟨ei,⟨m0,m1,m2,m3,m4,m5⟩,kn,du,ak,wt⟩:=e
  cases kn
  ·have hr2:Value.tuple #[.agg #[.int .u8 0,.int .u8 0,.int .u8 0,.int .u8 0,.int .u8 0,.int .u8 0],.bool false,.bool false]= .tuple #[.agg #[.int .u8 (b0.toNat:Int),.int .u8 (b1.toNat:Int),.int .u8 (b2.toNat:Int),.int .u8 (b3.toNat:Int),.int .u8 (b4.toNat:Int),.int .u8 (b5.toNat:Int)],.bool okb,.bool askb]:=hr
   have hu':s.udp dst fm port ld={s.took with cache:=bM s.cache hp fun e=>{e with waits:=pk}}:=hu
   have hB5:aC wc L {s.took with cache:=bM s.cache hp fun e=>{e with waits:=pk}}:=hB4
   simp only[Value.tuple.injEq,Array.mk.injEq,List.cons.injEq,Value.bool.injEq,and_true]at hr2
   obtain⟨_,rfl,rfl⟩:=hr2
   have Hu:=Lib.hid hu'
   clear hu hu' hfind hB4 hr
   go_wp2_with fail
   refine bodyPost_end (results_none rfl _ _ _) rfl ?_
   rw[Hu.out]
   exact⟨rfl,by first|exact hB5|exact hB5.none (Fr.ofDrew _),by first|exact hF4|exact hF4.none (Fr.ofDrew _)⟩
  ·have hr2:Value.tuple #[.agg #[.int .u8 (m0.toNat:Int),.int .u8 (m1.toNat:Int),.int .u8 (m2.toNat:Int),.int .u8 (m3.toNat:Int),.int .u8 (m4.toNat:Int),.int .u8 (m5.toNat:Int)],.bool true,.bool false]= .tuple #[.agg #[.int .u8 (b0.toNat:Int),.int .u8 (b1.toNat:Int),.int .u8 (b2.toNat:Int),.int .u8 (b3.toNat:Int),.int .u8 (b4.toNat:Int),.int .u8 (b5.toNat:Int)],.bool okb,.bool askb]:=hr
   have hu':s.udp dst fm port ld=s.took.send (m0,m1,m2,m3,m4,m5) 2048 pk:=hu
   have hB5:aC wc L s.took:=hB4
   have hr3:(#[.int .u8 (m0.toNat:Int),.int .u8 (m1.toNat:Int),.int .u8 (m2.toNat:Int),.int .u8 (m3.toNat:Int),.int .u8 (m4.toNat:Int),.int .u8 (m5.toNat:Int)]:Array Value)= #[.int .u8 (b0.toNat:Int),.int .u8 (b1.toNat:Int),.int .u8 (b2.toNat:Int),.int .u8 (b3.toNat:Int),.int .u8 (b4.toNat:Int),.int .u8 (b5.toNat:Int)]∧true=okb∧false=askb:=by
    simp only[Value.tuple.injEq,Array.mk.injEq,List.cons.injEq,Value.bool.injEq,and_true,Value.agg.injEq]at hr2⊢
    exact hr2
   obtain⟨hx,rfl,rfl⟩:=hr3
   rw[←hx]at hg
   have hGc:=hg.cells
   have hpl:pk.length≤9223372036854775807:=by rw[←Hpk.out];have:=hZ s dst fm port ld;omega
   have Hu:=Lib.hid hu'
   clear hu hu' hfind hB4 hr hr2 hx Hres
   clear b0 b1 b2 b3 b4 b5
   go_wp2_with fail
   refine(jC L s.took m0 m1 m2 m3 m4 m5 2048 pk _ (by first|exact hB5|exact hB5.none (Fr.ofDrew _)) (by omega) hpl).mono ?_
   rintro e w5 ⟨rfl,hB6,hF6⟩
   go_wp2_with fail
   refine bodyPost_end (results_none rfl _ _ _) rfl ?_
   rw[Hu.out]
   exact⟨rfl,hB6,by first|exact hF4.trans hF6|exact(hF4.none (Fr.ofDrew _)).trans hF6⟩
end Go.Proofs.YtcllkmllflheiaaGreatDoor
namespace Go.Proofs.YtcllkmllflheiaaGreatDoor
open Go.RowKit Go.Proofs
attribute [local go_sem] aG aD aE
def eA:List aX→List Value
 |[]=>[]
 |o::r=> .int .u8 (o.code.toNat:Int):: .string (bs o.data)::eA r
theorem oH:∀os:List aX,(eA os).length=os.length*2
 |[]=>rfl
 |o::r=>by simp only[eA,List.length_cons,oH r];omega
theorem eK:∀a b:List aX,eA (a++b)=eA a++eA b
 |[],_=>rfl
 |o::r,b=>by simp only[List.cons_append,eA,eK r b]
theorem kQ:∀(os:List aX) (k:Nat) (o:aX),os[k]? =some o→(eA os)[k*2]? =some (.int .u8 (o.code.toNat:Int))
 |[],_,_,h=>by cases h
 |o::r,0,o',h=>by cases h;rfl
 |o::r,k+1,o',h=>by
  rw[show(k+1)*2=k*2+1+1 by omega]
  exact kQ r k o' h
theorem lM:∀(os:List aX) (k:Nat) (o:aX),os[k]? =some o→(eA os)[k*2+1]? =some (.string (bs o.data))
 |[],_,_,h=>by cases h
 |o::r,0,o',h=>by cases h;rfl
 |o::r,k+1,o',h=>by
  rw[show(k+1)*2+1=k*2+1+1+1 by omega]
  exact lM r k o' h
theorem qP {os:List aX} {k:Nat} {o:aX} (h:os[k]? =some o) (c:UInt8):bF (os.drop k) c=if o.code=c then some o.data else bF (os.drop (k+1)) c:=by
 have hk:k<os.length:=by
  rcases Nat.lt_or_ge k os.length with h1|h1
  ·exact h1
  ·rw[List.getElem?_eq_none h1]at h;cases h
 rw[List.drop_eq_getElem_cons hk]
 rw[List.getElem?_eq_getElem hk]at h
 cases h
 rfl
theorem SlR.opt {w:World} {S:Nat→Prop} {A:Option Addr} {n:Nat} {os:List aX} (h:SlR w S 2 A n (eA os)):os.length=n:=by
 have:=h.1;rw[oH]at this;omega
theorem SlR.optAt {w:World} {S:Nat→Prop} {A:Option Addr} {n k:Nat} {os:List aX} {o:aX} (h:SlR w S 2 A n (eA os)) (hk:os[k]? =some o):
 ∃ad,A=some ad∧w.cell? (ad.add (k*2))=some (.int .u8 (o.code.toNat:Int))∧w.cell? ⟨(ad.add (k*2)).block,(ad.add (k*2)).off+1,none⟩=some (.string (bs o.data)):=by
 have hl:k<os.length:=by
  rcases Nat.lt_or_ge k os.length with h1|h1
  ·exact h1
  ·rw[List.getElem?_eq_none h1]at hk;cases hk
 have hn:=h.opt
 obtain⟨ad,e,_,_,hc⟩:=h.2 (by omega)
 exact⟨ad,e,hc _ _ (kQ os k o hk),by
  have:=hc _ _ (lM os k o hk)
  rw[←add_add]at this
  exact this⟩
theorem BE {a b:UInt8} (h:a≠b):((a.toNat:Int)==(b.toNat:Int))=false:=by
 rw[beq_eq_false_iff_ne]
 intro e
 exact h (UInt8.toNat.inj (by omega))
theorem EB (S:Nat→Prop) (A:Option Addr) (n cap:Nat) (os:List aX) (c:UInt8) (w:World) (hA:SlR w S 2 A n (eA os)) (hn:n≤4611686018427387904):
 Calls Tryz.prog 167 #[.slice A n cap,.int .u8 (c.toNat:Int)] w fun e w'=>
  e= .returned (.tuple #[.string (bs ((bF os c).getD [])),.bool (bF os c).isSome])∧Fr noB w w':=by
 have hlen:=hA.opt
 go_enter Tryz.func167,Tryz.ntmps167
 go_wp2_with fail
 go_loopw [10] (fun iv wr=>∃(i:Nat),i≤n∧iv= .int .i64 (i:Int)∧bF os c=bF (os.drop i) c∧Fr noB w wr) (fun iv _=>n-(intOf iv).toNat)
 case atStart=>exact⟨0,by omega,rfl,rfl,Fr.refl _ _⟩
 case round=>
  obtain⟨i,hi,rfl,ha,hw⟩:=hrel
  by_cases hlt:i<n
  ·obtain⟨o,ho⟩:∃o,os[i]? =some o:=⟨_,List.getElem?_eq_getElem (by omega)⟩
   obtain⟨ad,rfl,c1,c2⟩:=((hA.sub (T:=noB) (fun _ _ x=>x.elim)).keep hw).optAt ho
   have ha2:=ha.trans (qP ho c)
   have Ha:=Lib.hid ha2
   clear ha ha2 ho
   have hne:=Lib.hid (Fr.alloc hw (.cells #[.int .u8 (o.code.toNat:Int),.string (bs o.data)] 157))
   by_cases he:o.code=c
   ·subst he
    have H1:Hid (bF os o.code=some o.data):=Lib.hid (by have:=Ha.out;rw[if_pos rfl]at this;exact this)
    clear Ha
    go_wp2_with fail
    go_ret2
    rw[H1.out]
    exact⟨rfl,hne.out⟩
   ·have hb:=BE he
    have H1:Hid (bF os c=bF (os.drop (i+1)) c):=Lib.hid (by have:=Ha.out;rw[if_neg he]at this;exact this)
    have hbi:¬(o.code.toNat:Int)=(c.toNat:Int):=by simpa using hb
    clear Ha he
    go_wp2_with fail
    exact⟨⟨i+1,by omega,by rw[Int.natCast_add];rfl,H1.out,hne.out⟩,by simp only[intOf];omega⟩
  ·obtain rfl:i=n:=by omega
   have H1:Hid (bF os c=none):=Lib.hid (by rw[ha,List.drop_of_length_le (by omega)];rfl)
   clear ha
   go_wp2_with fail
   go_ret2
   rw[H1.out]
   exact⟨rfl,hw⟩
theorem jJ (S:Nat→Prop) (A:Option Addr) (n cap:Nat) (os:List aX) (c:UInt8) (w:World) (hA:SlR w S 2 A n (eA os)) (hn:n≤4611686018427387904):
 Calls Tryz.prog 120 #[.slice A n cap,.int .u8 (c.toNat:Int)] w fun e w'=>
  e= .returned (.tuple #[.string (bs ((bF os c).getD [])),.bool (bF os c).isSome])∧Fr noB w w':=by
 have hlen:=hA.opt
 go_enter Tryz.func120,Tryz.ntmps120
 go_wp2_with fail
 go_loopw [10] (fun iv wr=>∃(i:Nat),i≤n∧iv= .int .i64 (i:Int)∧bF os c=bF (os.drop i) c∧Fr noB w wr) (fun iv _=>n-(intOf iv).toNat)
 case atStart=>exact⟨0,by omega,rfl,rfl,Fr.refl _ _⟩
 case round=>
  obtain⟨i,hi,rfl,ha,hw⟩:=hrel
  by_cases hlt:i<n
  ·obtain⟨o,ho⟩:∃o,os[i]? =some o:=⟨_,List.getElem?_eq_getElem (by omega)⟩
   obtain⟨ad,rfl,c1,c2⟩:=((hA.sub (T:=noB) (fun _ _ x=>x.elim)).keep hw).optAt ho
   have ha2:=ha.trans (qP ho c)
   have Ha:=Lib.hid ha2
   clear ha ha2 ho
   have hne:=Lib.hid (Fr.alloc hw (.cells #[.int .u8 (o.code.toNat:Int),.string (bs o.data)] 157))
   by_cases he:o.code=c
   ·subst he
    have H1:Hid (bF os o.code=some o.data):=Lib.hid (by have:=Ha.out;rw[if_pos rfl]at this;exact this)
    clear Ha
    go_wp2_with fail
    go_ret2
    rw[H1.out]
    exact⟨rfl,hne.out⟩
   ·have hb:=BE he
    have H1:Hid (bF os c=bF (os.drop (i+1)) c):=Lib.hid (by have:=Ha.out;rw[if_neg he]at this;exact this)
    have hbi:¬(o.code.toNat:Int)=(c.toNat:Int):=by simpa using hb
    clear Ha he
    go_wp2_with fail
    exact⟨⟨i+1,by omega,by rw[Int.natCast_add];rfl,H1.out,hne.out⟩,by simp only[intOf];omega⟩
  ·obtain rfl:i=n:=by omega
   have H1:Hid (bF os c=none):=Lib.hid (by rw[ha,List.drop_of_length_le (by omega)];rfl)
   clear ha
   go_wp2_with fail
   go_ret2
   rw[H1.out]
   exact⟨rfl,hw⟩
end Go.Proofs.YtcllkmllflheiaaGreatDoor
namespace Go.Proofs.YtcllkmllflheiaaGreatDoor
open Go.RowKit Go.Proofs
attribute [local go_sem] aG aD aE aF
theorem Az (n:Nat) (h:n≤255):IntKind.u8.wrap (n:Int)=((UInt8.ofNat n).toNat:Int):=by
 rw[IntKind.wrap_u8',UInt8.toNat_ofNat'];omega
def dwF (u:Nat→Value):Act:=⟨#[u 0,u 1,u 2,u 3,u 4,u 5,u 6,u 7,u 8,u 9,u 10,u 11,u 12,u 13,u 14,u 15,u 16,u 17,u 18,u 19,u 20,u 21,u 22,u 23,u 24,u 25,u 26,u 27,u 28,u 29,u 30,u 31,u 32,u 33,u 34,u 35,u 36,u 37,u 38,u 39,u 40,u 41,u 42,u 43,u 44,u 45,u 46,u 47,u 48,u 49,u 50,u 51,u 52,u 53,u 54,u 55,u 56,u 57,u 58,u 59,u 60,u 61,u 62,u 63,u 64,u 65,u 66,u 67,u 68,u 69,u 70,u 71,u 72,u 73,u 74,u 75,u 76,u 77,u 78,u 79,u 80,u 81,u 82,u 83,u 84,u 85,u 86,u 87,u 88,u 89,u 90,u 91,u 92,u 93,u 94,u 95,u 96,u 97,u 98,u 99,u 100],[]⟩
set_option maxRecDepth 100000 in
theorem Ic (u:Nat→Value):dwF u=frN 101 u:=rfl
theorem zJ {a:Act} (h:Sz 101 a):a=dwF (sl a):=h.eq.trans (Ic _).symm
theorem K1 (pa:Nat) (rp:Bool) (xid client yours next n cap:Nat) (Ao:Option Addr) (m0 m1 m2 m3 m4 m5:UInt8) (opb:UInt8) (w1:World) (p B:Nat) (A0:Option Addr) (l0:List UInt8) (a:Act) (w:World) (K:KT) (hs:Sz 101 a)
 (h1:sl a 1= .pointer (some ⟨pa,0,none⟩)) (h4:sl a 4= .int .u8 (opb.toNat:Int)) (h5:sl a 5= .pointer (some ⟨p,0,none⟩)) (hpa:Bk w1 pa 139 #[.bool rp,.int .u32 (xid:Int),.int .u32 (client:Int),.int .u32 (yours:Int),.int .u32 (next:Int),.int .u8 (m0.toNat:Int),.int .u8 (m1.toNat:Int),.int .u8 (m2.toNat:Int),.int .u8 (m3.toNat:Int),.int .u8 (m4.toNat:Int),.int .u8 (m5.toNat:Int),.slice Ao n cap]) (hpn:pa≠p) (hxid:xid<4294967296) (hcl:client<4294967296) (hyo:yours<4294967296) (hnx:next<4294967296)
  (hch0:Chn w1 p B A0 l0 w) (N00:l0.length≤50000000)
 (hK:∀a' w' A',Sz 101 a'→Kp (kx 101 [15,16,17,18,19,20,21,22,23]) a a'→Chn w1 p B A' (((l0++[opb,1,6,0])++big 4 ((xid:Int)).toNat)++bG 2 [0]) w'→K .normal a' w'):
 (aB Tryz.f139 5).wp Tryz.prog K a w:=by
 have hN:=BU (fs:=[(· ++[opb,1,6,0]),(· ++big 4 ((xid:Int)).toNat),(· ++bG 2 [0])]) N00 2000000 (by intro f hf l;simp at hf;rcases hf with rfl|rfl|rfl<;>simp[aN,cG,aH]<;>omega) (by simp)
 conv=>arg 2;whnf
 refine jK (lst:=jT l0 _) (ats:=[3,6,8]) (kn:=[(1,pt pa),(4,.int .u8 (opb.toNat:Int)),(5,pt p)]) (ex:=[]) (sp:=[(15,.v (pt p)),(16,.v (.int .u8 (opb.toNat:Int))),(17,.m 4 5 #[.int .u8 (opb.toNat:Int),.int .u8 1,.int .u8 6,.int .u8 0]),(18,.w 0),(19,.v (.pointer (some ⟨pa,1,none⟩))),(20,.v (.int .u32 (xid:Int))),(21,.w 1),(22,.m 1 80 #[.int .u16 0]),(23,.w 2)]) hs hch0 .nil (by simp[h1,h4,h5])
  (okv []<|okv []<|okm [1]<|oka 2 [0] rfl (fun w A g c s=>s.U8 c (hN 0) [opb,1,6,0])<|okv []<|okl [4] (fun w A l c x=>((hpa).keep c.fr (by unfold aJ;have:=c.lt;omega)).cells)<|okw [3,5] (fun w A c=>c.NUM (hN 1) 4 (xid:Int))<|okm []<|oka 7 [6] rfl (fun w A g c s=>s.U16 c (hN 2) [0])<|okn)
  (fun a' w' A' h1 h2 h3 h4 h5=>hK _ _ _ h1 (Kp.kx h2) h4) (by kernel_rfl) (by kernel_rfl) (by kernel_rfl) (by kernel_rfl)
theorem JU (w1:World) (p B:Nat) (A0:Option Addr) (l0:List UInt8) (a:Act) (w:World) (K:KT) (hs:Sz 101 a)
 (h5:sl a 5= .pointer (some ⟨p,0,none⟩))
  (hch0:Chn w1 p B A0 l0 w) (N00:l0.length≤50000000)
 (hK:∀a' w' A',Sz 101 a'→Kp (kx 101 [27,28,29]) a a'→Chn w1 p B A' (l0++bG 2 [32768]) w'→K .normal a' w'):
 (aB Tryz.f139 7).wp Tryz.prog K a w:=by
 have hN:=BU (fs:=[(· ++bG 2 [32768])]) N00 2000000 (by intro f hf l;simp at hf;rcases hf with rfl<;>simp[aN,cG,aH]<;>omega) (by simp)
 conv=>arg 2;whnf
 refine jK (lst:=jT l0 _) (ats:=[2]) (kn:=[(5,pt p)]) (ex:=[]) (sp:=[(27,.v (pt p)),(28,.m 1 80 #[.int .u16 32768]),(29,.w 0)]) hs hch0 .nil (by simp[h5])
  (okv []<|okm []<|oka 1 [0] rfl (fun w A g c s=>s.U16 c (hN 0) [32768])<|okn)
  (fun a' w' A' h1 h2 h3 h4 h5=>hK _ _ _ h1 (Kp.kx h2) h4) (by kernel_rfl) (by kernel_rfl) (by kernel_rfl) (by kernel_rfl)
theorem K5 (w1:World) (p B:Nat) (A0:Option Addr) (l0:List UInt8) (a:Act) (w:World) (K:KT) (hs:Sz 101 a)
 (h5:sl a 5= .pointer (some ⟨p,0,none⟩))
  (hch0:Chn w1 p B A0 l0 w) (N00:l0.length≤50000000)
 (hK:∀a' w' A',Sz 101 a'→Kp (kx 101 [30,31,32]) a a'→Chn w1 p B A' (l0++bG 2 [0]) w'→K .normal a' w'):
 (aB Tryz.f139 8).wp Tryz.prog K a w:=by
 have hN:=BU (fs:=[(· ++bG 2 [0])]) N00 2000000 (by intro f hf l;simp at hf;rcases hf with rfl<;>simp[aN,cG,aH]<;>omega) (by simp)
 conv=>arg 2;whnf
 refine jK (lst:=jT l0 _) (ats:=[2]) (kn:=[(5,pt p)]) (ex:=[]) (sp:=[(30,.v (pt p)),(31,.m 1 80 #[.int .u16 0]),(32,.w 0)]) hs hch0 .nil (by simp[h5])
  (okv []<|okm []<|oka 1 [0] rfl (fun w A g c s=>s.U16 c (hN 0) [0])<|okn)
  (fun a' w' A' h1 h2 h3 h4 h5=>hK _ _ _ h1 (Kp.kx h2) h4) (by kernel_rfl) (by kernel_rfl) (by kernel_rfl) (by kernel_rfl)
theorem JW (pa:Nat) (rp:Bool) (xid client yours next n cap:Nat) (Ao:Option Addr) (m0 m1 m2 m3 m4 m5:UInt8) (w1:World) (p B:Nat) (A0:Option Addr) (l0:List UInt8) (a:Act) (w:World) (K:KT) (hs:Sz 101 a)
 (h1:sl a 1= .pointer (some ⟨pa,0,none⟩)) (h5:sl a 5= .pointer (some ⟨p,0,none⟩)) (hpa:Bk w1 pa 139 #[.bool rp,.int .u32 (xid:Int),.int .u32 (client:Int),.int .u32 (yours:Int),.int .u32 (next:Int),.int .u8 (m0.toNat:Int),.int .u8 (m1.toNat:Int),.int .u8 (m2.toNat:Int),.int .u8 (m3.toNat:Int),.int .u8 (m4.toNat:Int),.int .u8 (m5.toNat:Int),.slice Ao n cap]) (hpn:pa≠p) (hxid:xid<4294967296) (hcl:client<4294967296) (hyo:yours<4294967296) (hnx:next<4294967296)
  (hch0:Chn w1 p B A0 l0 w) (N00:l0.length≤50000000)
 (hK:∀a' w' A',Sz 101 a'→Kp (kx 101 [33,34,35,36,37,38,39,40,41,42,43,44,45,46,47,48]) a a'→Chn w1 p B A' ((((l0++bG 4 [(client:Int),(yours:Int),(next:Int),0])++List.flatMap cG [(m0,m1,m2,m3,m4,m5)])++List.replicate (236-List.length (α:=UInt8) ((l0++bG 4 [(client:Int),(yours:Int),(next:Int),0])++List.flatMap cG [(m0,m1,m2,m3,m4,m5)])) (0:UInt8))++List.flatten [[99,130,83,99]]) w'→K .normal a' w'):
 (aB Tryz.f139 9).wp Tryz.prog K a w:=by
 have hN:=BU (fs:=[(· ++bG 4 [(client:Int),(yours:Int),(next:Int),0]),(· ++List.flatMap cG [(m0,m1,m2,m3,m4,m5)]),fun l=>l++List.replicate (236-l.length) 0,(· ++List.flatten [[99,130,83,99]])]) N00 2000000 (by intro f hf l;simp at hf;rcases hf with rfl|rfl|rfl|rfl<;>simp[aN,cG,aH]<;>omega) (by simp)
 conv=>arg 2;whnf
 refine jK (lst:=jT l0 _) (ats:=[8,12,13,15]) (kn:=[(1,pt pa),(5,pt p)]) (ex:=[]) (sp:=[(33,.v (pt p)),(34,.v (.pointer (some ⟨pa,2,none⟩))),(35,.v (.int .u32 (client:Int))),(36,.v (.pointer (some ⟨pa,3,none⟩))),(37,.v (.int .u32 (yours:Int))),(38,.v (.pointer (some ⟨pa,4,none⟩))),(39,.v (.int .u32 (next:Int))),(40,.m 4 53 #[.int .u32 (client:Int),.int .u32 (yours:Int),.int .u32 (next:Int),.int .u32 0]),(41,.w 0),(42,.v (.pointer (some ⟨pa,5,none⟩))),(43,.v (.agg #[.int .u8 (m0.toNat:Int),.int .u8 (m1.toNat:Int),.int .u8 (m2.toNat:Int),.int .u8 (m3.toNat:Int),.int .u8 (m4.toNat:Int),.int .u8 (m5.toNat:Int)])),(44,.m 1 26 #[.int .u8 (m0.toNat:Int),.int .u8 (m1.toNat:Int),.int .u8 (m2.toNat:Int),.int .u8 (m3.toNat:Int),.int .u8 (m4.toNat:Int),.int .u8 (m5.toNat:Int)]),(45,.w 1),(46,.w 2),(47,.m 1 9 #[.string (bs [99,130,83,99])]),(48,.w 3)]) hs hch0 .nil (by simp[h1,h5])
  (okv []<|okv []<|okl [1] (fun w A l c x=>((hpa).keep c.fr (by unfold aJ;have:=c.lt;omega)).cells)<|okv []<|okl [3] (fun w A l c x=>((hpa).keep c.fr (by unfold aJ;have:=c.lt;omega)).cells)<|okv []<|okl [5] (fun w A l c x=>((hpa).keep c.fr (by unfold aJ;have:=c.lt;omega)).cells)<|okm [2,4,6]<|oka 7 [0] rfl (fun w A g c s=>s.IP c (hN 0) [(client:Int),(yours:Int),(next:Int),0])<|okv []<|okl [9] (fun w A l c x=>((hpa).keep c.fr (by unfold aJ;have:=c.lt;omega)).cells)<|okm [10]<|oka 11 [8] rfl (fun w A g c s=>s.MAC c (hN 1) [(m0,m1,m2,m3,m4,m5)])<|okw [12] (fun w A c=>c.ZERO (hN 2) 236)<|okm []<|oka 14 [13] rfl (fun w A g c s=>s.STR c (hN 3) [[99,130,83,99]])<|okn)
  (fun a' w' A' h1 h2 h3 h4 h5=>hK _ _ _ h1 (Kp.kx h2) h4) (by kernel_rfl) (by kernel_rfl) (by kernel_rfl) (by kernel_rfl)
theorem GX (go n:Nat) (oc:UInt8) (od d:List UInt8) (w1:World) (p B:Nat) (A0:Option Addr) (l0:List UInt8) (a:Act) (w:World) (K:KT) (hs:Sz 101 a)
 (h5:sl a 5= .pointer (some ⟨p,0,none⟩)) (h7:sl a 7= .pointer (some ⟨go,0,none⟩)) (h8:sl a 8= .string (bs d)) (h9:sl a 9= .int .i64 (n:Int)) (hn:n≤255) (hnd:n≤d.length) (hdl:d.length≤40000000)
 (hxo:AlS true (.slice (some ⟨go,0,none⟩) 0 0) 0 157 #[.int .u8 (oc.toNat:Int),.string (bs od)] B A0 w) (hch0:Chn w1 p B A0 l0 w) (N00:l0.length≤50000000)
 (hK:∀a' w' A',Sz 101 a'→Kp (kx 101 [74,75,76,77,78,79,80,81,82,83,84,85]) a a'→Chn w1 p B A' ((l0++[oc,(UInt8.ofNat n)])++List.flatten [(d.take n)]) w'→AlS true (.slice (some ⟨go,0,none⟩) 0 0) 0 157 #[.int .u8 (oc.toNat:Int),.string (bs od)] B A' w'→K .normal a' w'):
 (aB Tryz.f139 17).wp Tryz.prog K a w:=by
 have e1:IntKind.u8.wrap (n:Int)=((UInt8.ofNat n).toNat:Int):=Az n hn
 have e1:(0:Int)≤(n:Int):=by omega
 have e2:(n:Int)≤(d.length:Int):=by omega
 have hN:=BU (fs:=[(· ++[oc,(UInt8.ofNat n)]),(· ++List.flatten [(d.take n)])]) N00 2000000 (by intro f hf l;simp at hf;rcases hf with rfl|rfl<;>simp[aN,cG,aH]<;>omega) (by simp)
 conv=>arg 2;whnf
 refine jK (lst:=jT l0 _) (ats:=[6,11]) (kn:=[(5,pt p),(7,pt go),(8,.string (bs d)),(9,.int .i64 (n:Int))]) (ex:=[(go,157,#[.int .u8 (oc.toNat:Int),.string (bs od)])]) (sp:=[(74,.v (pt p)),(75,.v (pt go)),(76,.v (.int .u8 (oc.toNat:Int))),(77,.v (.int .i64 (n:Int))),(78,.v (.int .u8 ((UInt8.ofNat n).toNat:Int))),(79,.m 2 5 #[.int .u8 (oc.toNat:Int),.int .u8 ((UInt8.ofNat n).toNat:Int)]),(80,.w 0),(81,.v (.string (bs d))),(82,.v (.int .i64 (n:Int))),(83,.v (.string (bs (d.take n)))),(84,.m 1 9 #[.string (bs (d.take n))]),(85,.w 1)]) hs hch0 (.cons hxo .nil) (by simp[h5,h7,h8,h9])
  (okv []<|okv []<|okl [1] (fun w A l c x=>(x (go,157,#[.int .u8 (oc.toNat:Int),.string (bs od)]) (by simp)).bk0.cells)<|okv []<|okv [3]<|okm [2,4]<|oka 5 [0] rfl (fun w A g c s=>s.U8 c (hN 0) [oc,(UInt8.ofNat n)])<|okv []<|okv []<|okv [7,8]<|okm [9]<|oka 10 [6] rfl (fun w A g c s=>s.STR c (hN 1) [(d.take n)])<|okn)
  (fun a' w' A' h1 h2 h3 h4 h5=>hK _ _ _ h1 (Kp.kx h2) h4 (h5 (go,157,#[.int .u8 (oc.toNat:Int),.string (bs od)]) (by simp))) (by kernel_rfl) (by kernel_rfl) (by kernel_rfl) (by kernel_rfl)
theorem IS (w1:World) (p B:Nat) (A0:Option Addr) (l0:List UInt8) (a:Act) (w:World) (K:KT) (hs:Sz 101 a)
 (h5:sl a 5= .pointer (some ⟨p,0,none⟩))
  (hch0:Chn w1 p B A0 l0 w) (N00:l0.length≤50000000)
 (hK:∀a' w' A',Sz 101 a'→Kp (kx 101 [92,93,94,95,96,10]) a a'→sl a' 10= .string (bs ((l0++[255])++List.replicate (300-List.length (α:=UInt8) (l0++[255])) (0:UInt8)))→Chn w1 p B A' ((l0++[255])++List.replicate (300-List.length (α:=UInt8) (l0++[255])) (0:UInt8)) w'→K .normal a' w'):
 (aB Tryz.f139 21).wp Tryz.prog K a w:=by
 have hN:=BU (fs:=[(· ++[255]),fun l=>l++List.replicate (300-l.length) 0]) N00 2000000 (by intro f hf l;simp at hf;rcases hf with rfl|rfl<;>simp[aN,cG,aH]<;>omega) (by simp)
 conv=>arg 2;whnf
 refine jK (lst:=jT l0 _) (ats:=[2,3]) (kn:=[(5,pt p)]) (ex:=[]) (sp:=[(92,.v (pt p)),(93,.m 1 5 #[.int .u8 255]),(94,.w 0),(95,.w 1),(96,.s 2),(10,.v (.string (bs (jT l0 [(· ++[255]),fun l=>l++List.replicate (300-l.length) 0] 2))))]) hs hch0 .nil (by simp[h5])
  (okv []<|okm []<|oka 1 [0] rfl (fun w A g c s=>s.U8 c (hN 0) [255])<|okw [2] (fun w A c=>c.ZERO (hN 1) 300)<|oks [3] (fun w A c=>kH p _ _ _ c.wr)<|okv [4]<|okn)
  (fun a' w' A' h1 h2 h3 h4 h5=>hK _ _ _ h1 (Kp.kx h2) (h3 5 10 _ rfl) h4) (by kernel_rfl) (by kernel_rfl) (by kernel_rfl) (by kernel_rfl)
end Go.Proofs.YtcllkmllflheiaaGreatDoor
namespace Go.Proofs.YtcllkmllflheiaaGreatDoor
open Go.RowKit Go.Proofs
attribute [local go_sem] aG aD aE
theorem CF {w:World} {base:Nat} {e:TypeId} {size n cap g j:Nat} {xs:List Value} {u:Value} (h:w.ownsRow base e size (.slice (some ⟨g,0,none⟩) n cap) n xs) (hj:j<n*size):
 (w.setCell ⟨g,j,none⟩ u).ownsRow base e size (.slice (some ⟨g,0,none⟩) n cap) n (xs.set j u):=by
 obtain⟨h1,⟨h2,_⟩|⟨g',cap',cur,hv,hb,hg,hn,hm,hc,ht⟩⟩:=h
 ·cases h2
 ·cases hv
  refine⟨by simpa using h1,.inr ⟨g,cap,cur.setIfInBounds j u,rfl,hb,Bk.set hg j u,hn,hm,by simpa using hc,?_⟩⟩
  rw[Array.toList_setIfInBounds,List.take_set,ht]
theorem dJ {w w':World} {S:Nat→Prop} {base:Nat} {e:TypeId} {size n:Nat} {v:Value} {xs:List Value} (h:w.ownsRow base e size v n xs) (hf:Fr S w w') (hS:∀k,base≤k→¬S k):
 w'.ownsRow base e size v n xs:=by
 obtain⟨h1,h2|⟨g',cap',cur,hv,hb,hg,hn,hm,hc,ht⟩⟩:=h
 ·exact⟨h1,.inl h2⟩
 ·exact⟨h1,.inr ⟨g',cap',cur,hv,hb,Bk.keep hg hf (hS g' hb),hn,hm,hc,ht⟩⟩
theorem mL {w:World} {base:Nat} {e t:TypeId} {size n:Nat} {v:Value} {xs:List Value} {cs:Array Value} {p:Addr} (h:w.ownsRow base e size v n xs) (hp:Bk w p.block t cs) (ht:t≠e) (u:Value):
 (w.setCell p u).ownsRow base e size v n xs:=by
 obtain⟨h1,h2|⟨g',cap',cur,hv,hb,hg,hn,hm,hc,ht'⟩⟩:=h
 ·exact⟨h1,.inl h2⟩
 ·refine⟨h1,.inr ⟨g',cap',cur,hv,hb,Bk.far hg (fun e1=> ?_) u,hn,hm,hc,ht'⟩⟩
  rw[←e1,Bk,hg]at hp
  injection hp with hp;injection hp with _ hp;exact ht hp.symm
theorem nV {w:World} {base:Nat} {e:TypeId} {size n g cap j:Nat} {xs:List Value} {u:Value} (h:w.ownsRow base e size (.slice (some ⟨g,0,none⟩) n cap) n xs) (hj:xs[j]? =some u):w.cell? ⟨g,j,none⟩=some u:=by
 obtain⟨h1,⟨h2,_⟩|⟨g',cap',cur,hv,hb,hg,hn,hm,hc,ht⟩⟩:=h
 ·cases h2
 ·cases hv
  rw[Bk.cell hg j]
  have hl:j<xs.length:=by
   rcases Nat.lt_or_ge j xs.length with h1|h1
   ·exact h1
   ·rw[List.getElem?_eq_none h1]at hj;cases hj
  rw[←ht,List.getElem?_take,if_pos (by omega)]at hj
  simpa using hj
theorem rE {w:World} {base:Nat} {e:TypeId} {size n g cap j:Nat} {xs:List Value} (h:w.ownsRow base e size (.slice (some ⟨g,0,none⟩) n cap) n xs):w.frozen? ⟨g,j,none⟩=false:=by
 obtain⟨h1,⟨h2,_⟩|⟨g',cap',cur,hv,hb,hg,hn,hm,hc,ht⟩⟩:=h
 ·cases h2
 ·cases hv;exact Bk.free hg j
theorem DC {w:World} {base:Nat} {e:TypeId} {size n g cap:Nat} {xs:List Value} (h:w.ownsRow base e size (.slice (some ⟨g,0,none⟩) n cap) n xs):base≤g:=by
 obtain⟨h1,⟨h2,_⟩|⟨g',cap',cur,hv,hb,_⟩⟩:=h
 ·cases h2
 ·cases hv;exact hb
theorem jM {os:List aX}:∀u∈eA os,u.oneCell'=true:=by
 induction os with
 |nil=>intro u h;cases h
 |cons o r ih=>
  intro u h
  simp only[eA,List.mem_cons]at h
  rcases h with rfl|rfl|h
  ·rfl
  ·rfl
  ·exact ih u h
theorem jS:(Tryz.prog.info? 157).map (fun i=>(i.zero,i.size,i.bytes))=some (some (.agg #[.int .u8 0,.string ⟨#[]⟩]),2,24):=by kernel_rfl
def LsA (w:World) (pl:Nat) (F:Nat→Prop) (os:List aX):Prop:=
 F pl∧∃A cap,Bk w pl 254 #[.slice A os.length cap]∧w.ownsRow 0 157 2 (.slice A os.length cap) os.length (eA os)∧∀a,A=some a→F a.block
theorem Au {w w':World} {S:Nat→Prop} {base:Nat} {e:TypeId} {size n cap:Nat} {A:Option Addr} {xs:List Value} (h:w.ownsRow base e size (.slice A n cap) n xs) (hf:Fr S w w') (hS:∀a,A=some a→¬S a.block):
 w'.ownsRow base e size (.slice A n cap) n xs:=by
 obtain⟨h1,h2|⟨g',cap',cur,hv,hb,hg,hn,hm,hc,ht⟩⟩:=h
 ·exact⟨h1,.inl h2⟩
 ·cases hv
  exact⟨h1,.inr ⟨g',cap,cur,rfl,hb,Bk.keep hg hf (hS _ rfl),hn,hm,hc,ht⟩⟩
theorem LsA.keep {w w':World} {S F:Nat→Prop} {pl:Nat} {os:List aX} (h:LsA w pl F os) (hf:Fr S w w') (hS:∀k,F k→¬S k):LsA w' pl F os:=by
 obtain⟨h1,A,cap,h2,h3,h4⟩:=h
 exact⟨h1,A,cap,h2.keep hf (hS pl h1),Au h3 hf (fun a e=>hS _ (h4 a e)),h4⟩
theorem LsA.mono {w:World} {F F':Nat→Prop} {pl:Nat} {os:List aX} (h:LsA w pl F os) (hF:∀k,F k→F' k):LsA w pl F' os:=by
 obtain⟨h1,A,cap,h2,h3,h4⟩:=h
 exact⟨hF _ h1,A,cap,h2,h3,fun a e=>hF _ (h4 a e)⟩
theorem jD {w:World} {base:Nat} {e:TypeId} {size n cap:Nat} {A:Option Addr} {xs:List Value} (h:w.ownsRow base e size (.slice A n cap) n xs):∀a,A=some a→base≤a.block:=by
 rintro a rfl
 obtain⟨h1,⟨h2,_⟩|⟨g',cap',cur,hv,hb,_⟩⟩:=h
 ·cases h2
 ·cases hv;exact hb
def wtO:List aX→Nat
 |[]=>0
 |o::r=>o.data.length+1+wtO r
theorem dO:∀os:List aX,os.length≤wtO os
 |[]=>Nat.le_refl _
 |o::r=>by have:=dO r;simp only[List.length_cons,wtO];omega
theorem uM:∀(os:List aX) (k:Nat) (o:aX),os[k]? =some o→o.data.length≤wtO os
 |[],_,_,h=>by cases h
 |o::r,0,o',h=>by cases h;simp only[wtO];omega
 |o::r,k+1,o',h=>by have:=uM r k o' h;simp only[wtO];omega
theorem sI:∀(os:List aX) (c:UInt8) (d:List UInt8),wtO (eS os c d)≤wtO os+d.length+1
 |[],c,d=>by simp only[eS,wtO];omega
 |o::r,c,d=>by
  simp only[eS]
  split
  ·simp only[wtO,List.length_append];omega
  ·have:=sI r c d;simp only[wtO];omega
theorem tF:∀(os:List aX) (k:Nat) (o:aX) (d:List UInt8),os[k]? =some o→(eA os).set (k*2+1) (.string (bs d))=eA (os.set k ⟨o.code,d⟩)
 |[],_,_,_,h=>by cases h
 |o::r,0,o',d,h=>by cases h;rfl
 |o::r,k+1,o',d,h=>by
  rw[show(k+1)*2+1=k*2+1+1+1 by omega]
  simp only[eA,List.set_cons_succ]
  rw[tF r k o' d h]
theorem nW:∀(os:List aX) (k:Nat) (o:aX) (c:UInt8) (d:List UInt8),os[k]? =some o→o.code=c→(∀j o',j<k→os[j]? =some o'→o'.code≠c)→eS os c d=os.set k ⟨o.code,o.data++d⟩
 |[],_,_,_,_,h,_,_=>by cases h
 |o::r,0,o',c,d,h,hc,_=>by cases h;simp only[eS,if_pos hc,List.set_cons_zero]
 |o::r,k+1,o',c,d,h,hc,hn=>by
  simp only[eS,List.set_cons_succ]
  rw[if_neg (hn 0 o (by omega) rfl),nW r k o' c d h hc fun j o2 hj h2=>hn (j+1) o2 (by omega) h2]
theorem lT:∀(os:List aX) (c:UInt8) (d:List UInt8),(∀j o',j<os.length→os[j]? =some o'→o'.code≠c)→eS os c d=os++[⟨c,d⟩]
 |[],c,d,_=>rfl
 |o::r,c,d,hn=>by
  simp only[eS,List.cons_append]
  rw[if_neg (hn 0 o (by simp) rfl),lT r c d fun j o2 hj h2=>hn (j+1) o2 (by simpa using hj) h2]
theorem GN (pl:Nat) (F:Nat→Prop) (os:List aX) (c:UInt8) (d:List UInt8) (w:World) (hL:LsA w pl F os) (hwt:wtO os+d.length+1≤1099511627776) (hF:∀k,w.heap.size≤k→F k):
 Calls Tryz.prog 230 #[.pointer (some ⟨pl,0,none⟩),.int .u8 (c.toNat:Int),.string (bs d)] w fun e w'=>
  e= .returned (.tuple #[])∧LsA w' pl F (eS os c d)∧Fr F w w':=by
 obtain⟨hbp,A,cap,hB,hO,hAF⟩:=hL
 have HF:=Lib.hid hF
 have HAF:=Lib.hid hAF
 clear hF hAF
 have hlw:=dO os
 have hc0:=hB.cells
 have hf0:=hB.frees
 have hAp:∀a,A=some a→a.block≠pl:=by
  rintro a rfl e
  obtain⟨_,⟨h2,_⟩|⟨g,_,cur,h2,_,hg,_⟩⟩:=hO
  ·cases h2
  ·cases h2
   rw[show g=pl from e,hB]at hg
   cases hg
 obtain⟨i0,hi0,hz0,hz1,hz2⟩:=info_parts jS
 obtain⟨n,hn⟩:∃n,n=os.length:=⟨_,rfl⟩
 rw[←hn]at hc0 hB hO
 go_enter Tryz.func230,Tryz.ntmps230
 go_wp2_with fail
 go_loopw [11] (fun iv wr=>∃(i:Nat),i≤n∧iv= .int .i64 (i:Int)∧(∀j o',j<i→os[j]? =some o'→o'.code≠c)∧wr=w) (fun iv _=>n-(intOf iv).toNat)
 case atStart=>exact⟨0,by omega,rfl,fun j o' h=>absurd h (by omega),rfl⟩
 case round=>
  obtain⟨i,hi,rfl,ha,hw⟩:=hrel
  subst hw
  by_cases hlt:i<n
  ·obtain⟨o,ho⟩:∃o,os[i]? =some o:=⟨_,List.getElem?_eq_getElem (by omega)⟩
   obtain⟨g,rfl⟩:∃g,A=some ⟨g,0,none⟩:=by
    obtain⟨A',cap',e,h1⟩:=fW hO
    cases e
    rcases h1 with rfl|⟨g,rfl⟩
    ·obtain⟨_,⟨h2,h3⟩|⟨g,_,_,h2,_⟩⟩:=hO
     ·omega
     ·cases h2
    ·exact⟨g,rfl⟩
   have c1:=nV hO (kQ os i o ho)
   have c2:=nV hO (lM os i o ho)
   have f2:∀x:Nat,wr.frozen? ⟨g,x,none⟩=false:=fun x=>rE hO
   have hol:=uM os i o ho
   have Ha:=Lib.hid ha
   have Ho:=Lib.hid ho
   clear ha ho
   by_cases he:o.code=c
   ·subst he
    go_wp2_with fail
    refine bodyPost_ret (v:= .tuple #[]) ?_ ?_ ?_
    ·exact results_none rfl _ _ _
    ·rfl
    rw[nW os i o o.code d Ho.out rfl Ha.out]
    refine⟨rfl,⟨hbp,some ⟨g,0,none⟩,cap,?_,?_,HAF.out⟩,(Fr.refl _ _).setCell (fun _=> ?_) _⟩
    ·rw[List.length_set,←hn];exact hB.far (p:=⟨g,i*2+1,none⟩) (fun e=>hAp _ rfl e.symm) _
    ·rw[List.length_set,←hn,←tF os i o _ Ho.out];exact CF hO (by omega)
    ·exact HAF.out ⟨g,0,none⟩ rfl
   ·have hbi:¬(o.code.toNat:Int)=(c.toNat:Int):=fun e=>he (UInt8.toNat.inj (by omega))
    have H1:Hid (∀j o',j<i+1→os[j]? =some o'→o'.code≠c):=Lib.hid (by
     intro j o' hj h2
     rcases Nat.lt_or_ge j i with h3|h3
     ·exact Ha.out j o' h3 h2
     ·obtain rfl:j=i:=by omega
      rw[Ho.out]at h2;cases h2;exact he)
    clear Ha he
    go_wp2_with fail
    exact⟨⟨i+1,by omega,by rw[Int.natCast_add];rfl,H1.out,trivial⟩,by simp only[intOf];omega⟩
  ·obtain rfl:i=n:=by omega
   subst hn
   have H1:Hid _:=Lib.hid (lT os c d ha)
   clear ha
   have hb2:=(hB.alloc (.cells #[.int .u8 (c.toNat:Int),.string (bs d)] 157))
   have hsr:SlR (wr.alloc (.cells #[.int .u8 (c.toNat:Int),.string (bs d)] 157)) noB 2 (some ⟨wr.heap.size,0,none⟩) 1 (eA [⟨c,d⟩]):=
    SlR.of_bk (n:=1) (size:=2) (S:=noB) (Bk.new wr 157 #[.int .u8 (c.toNat:Int),.string (bs d)]) (fun x=>x) rfl
   have hO2:(wr.alloc (.cells #[.int .u8 (c.toNat:Int),.string (bs d)] 157)).ownsRow 0 157 2 (.slice A os.length cap) os.length (eA os):=
    dJ hO (((Fr.refl noB wr).alloc _)) (fun _ _ x=>x)
   go_wp2_with (at_builtin
                go_must (refine eU rfl (.tmp 38) (.tmp 42) _ rfl 0 157 i0 _ 2 24 Tryz.underlying254 hi0 hz0 hz1 hz2 rfl (by omega) A _ _ _ rfl hO2 noB _ 1 1 _ rfl hsr jM (by unfold maxLen;omega) (by omega) (Nat.zero_le _) ?_)
                intro A1 cap1 w1 hap
                have hb3:=hb2.keep hap.fr (by rintro⟨a,e,e2⟩;exact hAp a e e2)
                have hc3:=hb3.cells
                have hf3:=hb3.frees)
   refine bodyPost_end (results_none rfl _ _ _) rfl ?_
   rw[H1.out]
   refine⟨rfl,⟨hbp,A1,cap1,?_,?_,?_⟩,?_⟩
   ·rw[List.length_append];exact(by simpa using hb3.set 0 (.slice A1 (os.length+1) cap1))
   ·rw[List.length_append,eK];exact mL hap.own hb3 (by decide) _
   ·intro a e
    rcases hap.at_ a e with h|⟨a0,e0,h⟩
    ·exact HF.out _ (by simp at h;omega)
    ·rw[←h];exact HAF.out _ e0
   ·refine((((Fr.refl noB wr).alloc _).of_no _).trans' hap.fr ?_).setCell (fun _=>hbp) _
    rintro b hb ⟨a,e,rfl⟩
    exact HAF.out a e
end Go.Proofs.YtcllkmllflheiaaGreatDoor
namespace Go.Proofs.YtcllkmllflheiaaGreatDoor
open Go.RowKit Go.Proofs
attribute [local go_sem] aG aD aE
theorem lU {w:World} {base:Nat} {e:TypeId} {size n cap:Nat} {A:Option Addr} {xs:List Value} (h:w.ownsRow base e size (.slice A n cap) n xs):SlR w noB size A n xs:=by
 refine⟨h.1,fun hn=> ?_⟩
 obtain⟨h1,⟨h2,h3⟩|⟨g,cap',cur,hv,hb,hg,_⟩⟩:=id h
 ·omega
 ·cases hv
  exact⟨_,rfl,Bk.lt hg,fun x=>x,fun j u hu=>by rw[jR,Nat.zero_add];exact nV h hu⟩
theorem kR {w:World} {S:Nat→Prop} {base:Nat} {e:TypeId} {size n cap:Nat} {A:Option Addr} {xs:List Value} (h:w.ownsRow base e size (.slice A n cap) n xs) (hS:∀a,A=some a→¬S a.block):SlR w S size A n xs:=by
 have h1:=lU h
 refine⟨h1.1,fun hn=> ?_⟩
 obtain⟨ad,e,hb,_,hc⟩:=h1.2 hn
 exact⟨ad,e,hb,hS _ e,hc⟩
theorem FO (A0:Option Addr) (cap0:Nat) (os:List aX) (c:UInt8) (d:List UInt8) (w:World) (hA:SlR w noB 2 A0 os.length (eA os)) (hwt:wtO os+d.length+1≤1099511627776):
 Calls Tryz.prog 174 #[.slice A0 os.length cap0,.int .u8 (c.toNat:Int),.string (bs d)] w fun e w'=>
  ∃A' cap',e= .returned (.slice A' (eS os c d).length cap')∧SlR w' (fun k=>k<w.heap.size) 2 A' (eS os c d).length (eA (eS os c d))∧Fr noB w w':=by
 have hlw:=dO os
 obtain⟨i0,hi0,hz0,hz1,hz2⟩:=info_parts jS
 have hO0:w.ownsRow w.heap.size 157 2 (.slice none 0 0) 0 []:=⟨rfl,.inl ⟨rfl,rfl⟩⟩
 obtain⟨n,hn⟩:∃n,n=os.length:=⟨_,rfl⟩
 rw[←hn]at hA⊢
 go_enter Tryz.func174,Tryz.ntmps174
 go_wp2_with (at_builtin
              go_must (refine eU rfl (.const (.slice none 0 0)) (.tmp 9) _ rfl w.heap.size 157 i0 _ 2 24 Tryz.underlying137 hi0 hz0 hz1 hz2 rfl (by omega) none 0 0 _ rfl hO0 noB A0 n _ _ rfl hA jM (by unfold maxLen;omega) (by omega) (Nat.le_refl _) ?_)
              intro A cap w1 hap)
 have hO:w1.ownsRow w.heap.size 157 2 (.slice A n cap) n (eA os):=by have:=hap.own;rwa [Nat.zero_add,List.nil_append]at this
 have hf1:Fr noB w w1:=hap.fr.mono (by rintro b _ ⟨a,e,_⟩;cases e)
 clear hap hO0
 go_loopw [13] (fun iv wr=>∃(i:Nat),i≤n∧iv= .int .i64 (i:Int)∧(∀j o',j<i→os[j]? =some o'→o'.code≠c)∧wr=w1) (fun iv _=>n-(intOf iv).toNat)
 case atStart=>exact⟨0,by omega,rfl,fun j o' h=>absurd h (by omega),rfl⟩
 case round=>
  obtain⟨i,hi,rfl,ha,hw⟩:=hrel
  subst hw
  have hbw:=hf1.size
  by_cases hlt:i<n
  ·obtain⟨o,ho⟩:∃o,os[i]? =some o:=⟨_,List.getElem?_eq_getElem (by omega)⟩
   obtain⟨g,rfl⟩:∃g,A=some ⟨g,0,none⟩:=by
    obtain⟨A',cap',e,h1⟩:=fW hO
    cases e
    rcases h1 with rfl|⟨g,rfl⟩
    ·obtain⟨_,⟨h2,h3⟩|⟨g,_,_,h2,_⟩⟩:=hO
     ·omega
     ·cases h2
    ·exact⟨g,rfl⟩
   have c1:=nV hO (kQ os i o ho)
   have c2:=nV hO (lM os i o ho)
   have f2:∀x:Nat,wr.frozen? ⟨g,x,none⟩=false:=fun x=>rE hO
   have hol:=uM os i o ho
   have Ha:=Lib.hid ha
   have Ho:=Lib.hid ho
   clear ha ho
   by_cases he:o.code=c
   ·subst he
    go_wp2_with fail
    go_ret
    rw[nW os i o o.code d Ho.out rfl Ha.out,List.length_set,←hn]
    refine⟨_,_,rfl,?_,hf1.setCell (p:=⟨g,i*2+1,none⟩) (fun h=>absurd (DC hO) (by simp at h;omega)) _⟩
    rw[←tF os i o _ Ho.out];exact kR (CF hO (by omega)) (fun a e h=>by have:=jD hO a e;omega)
   ·have hbi:¬(o.code.toNat:Int)=(c.toNat:Int):=fun e=>he (UInt8.toNat.inj (by omega))
    have H1:Hid (∀j o',j<i+1→os[j]? =some o'→o'.code≠c):=Lib.hid (by
     intro j o' hj h2
     rcases Nat.lt_or_ge j i with h3|h3
     ·exact Ha.out j o' h3 h2
     ·obtain rfl:j=i:=by omega
      rw[Ho.out]at h2;cases h2;exact he)
    clear Ha he
    go_wp2_with fail
    exact⟨⟨i+1,by omega,by rw[Int.natCast_add];rfl,H1.out,trivial⟩,by simp only[intOf];omega⟩
  ·obtain rfl:i=n:=by omega
   subst hn
   have H1:Hid _:=Lib.hid (lT os c d ha)
   clear ha
   have hsr:SlR (wr.alloc (.cells #[.int .u8 (c.toNat:Int),.string (bs d)] 157)) noB 2 (some ⟨wr.heap.size,0,none⟩) 1 (eA [⟨c,d⟩]):=
    SlR.of_bk (n:=1) (size:=2) (S:=noB) (Bk.new wr 157 #[.int .u8 (c.toNat:Int),.string (bs d)]) (fun x=>x) rfl
   have hO2:(wr.alloc (.cells #[.int .u8 (c.toNat:Int),.string (bs d)] 157)).ownsRow w.heap.size 157 2 (.slice A os.length cap) os.length (eA os):=
    dJ hO (((Fr.refl noB wr).alloc _)) (fun _ _ x=>x)
   go_wp2_with (at_builtin
                go_must (refine eU rfl (.tmp 34) (.tmp 38) _ rfl w.heap.size 157 i0 _ 2 24 Tryz.underlying137 hi0 hz0 hz1 hz2 rfl (by omega) A _ _ _ rfl hO2 noB _ 1 1 _ rfl hsr jM (by unfold maxLen;omega) (by omega) (by simp;omega) ?_)
                intro A1 cap1 w2 hap)
   go_ret
   rw[H1.out]
   refine⟨A1,cap1,?_,?_,(hf1.alloc _).trans' hap.fr ?_⟩
   ·rw[List.length_append];rfl
   ·rw[List.length_append,eK];exact kR hap.own (fun a e h=>by have:=jD hap.own a e;omega)
   ·rintro b hb ⟨a,e,rfl⟩
    exact absurd (jD hO a e) (by omega)
end Go.Proofs.YtcllkmllflheiaaGreatDoor
