/- Parts of the walk; written by programs, merged. -/
import Derived.Test.YtcllkmllflheiaaGreatDoorLav
set_option linter.unusedSimpArgs false
set_option linter.unusedVariables false
set_option maxRecDepth 20000
set_option maxHeartbeats 8000000
namespace Go.Proofs.YtcllkmllflheiaaGreatDoor
open Go.RowKit Go.Proofs
def OI (w:World) (base:Nat) (v:Value) (l:List Nat):Prop:=w.ownsRow base 3 1 v l.length (nH l)
theorem OI.nil (w:World) (base:Nat):OI w base (.slice none 0 0) []:=World.ownsRow_nil w base _ _
theorem OI.form {w:World} {base:Nat} {v:Value} {l:List Nat} (h:OI w base v l) (hl:0<l.length):∃g cap,v= .slice (some ⟨g,0,none⟩) l.length cap∧RI w g l∧base≤g:=by
 rcases h.2 with⟨_,hn⟩|⟨g,cap,cur,rfl,hb,hg,hnc,_,hcs,htk⟩
 ·omega
 ·refine⟨g,cap,rfl,⟨Bk.lt (t:=3) (cs:=cur) hg,fun k x hx=> ?_⟩,hb⟩
  have hkl:k<l.length:=by
   rcases Nat.lt_or_ge k l.length with h|h
   ·exact h
   ·rw[List.getElem?_eq_none h]at hx;cases hx
  rw[Bk.cell (t:=3) (cs:=cur) hg k]
  have h1:(cur.toList.take (l.length*1))[k]? =some (.int .i64 (x:Int)):=by rw[htk];exact zB l k x hx
  rw[List.getElem?_take,if_pos (by omega)]at h1
  simpa using h1
theorem xG (a b:List Nat):nH (a++b)=nH a++nH b:=by simp[nH]
theorem D9 (l:List Nat):∀u∈nH l,u.oneCell'=true:=by
 intro u hu;simp only[nH,List.mem_map]at hu;obtain⟨b,_,rfl⟩:=hu;rfl
theorem mW (w:World) (base x g:Nat) (v:Value) (l:List Nat) (h:OI w base v l) (hg:IB w g [x]) (hb:base≤w.heap.size) (hl:l.length<1000000):
 ∃v' w',(Builtin.append_ #[40,40] 40 #[v,.slice (some ⟨g,0,none⟩) 1 1]).run Tryz.prog w= .ok v' w'∧
  OI w' base v' (l++[x])∧w.grownBy w' v.ownBlock∧(v'.ownBlock=v.ownBlock∨v'.ownBlock=some w.heap.size):=by
 obtain⟨i,hi,hz,hs,hbb⟩:=info_parts rL
 obtain⟨v',w',h1,h2,h3,h4⟩:=Cx (P:=Tryz.prog) w base 40 40 3 i _ 1 8 Tryz.underlying40 hi hz hs hbb rfl (by omega) v l.length (nH l) h
  noB (some ⟨g,0,none⟩) 1 1 (nH [x]) (SlR.of_bk hg (fun h=>h) rfl) (D9 _) (by simp only[maxLen];omega) (by omega) hb
 refine⟨v',w',h1,?_,h3,h4⟩
 unfold OI;rw[List.length_append,List.length_singleton,xG];exact h2
theorem oT (w:World) (base x:Nat) (v:Value) (l:List Nat) (h:OI w base v l) (hb:base≤w.heap.size) (hl:l.length<1000000):
 ∃v' w',(Builtin.append_ #[40,40] 40 #[v,.slice (some ⟨w.heap.size,0,none⟩) 1 1]).run Tryz.prog (w.alloc (.cells #[.int .i64 (x:Int)] 3))= .ok v' w'∧
  OI w' base v' (l++[x])∧Fr (fun q=>v.ownBlock=some q) w w':=by
 obtain⟨v',w',h1,h2,h3,h4⟩:=mW (w.alloc (.cells #[.int .i64 (x:Int)] 3)) base x w.heap.size v l (World.ownsRow.alloc h _) (Bk.new w _ _) (by rw[tE];omega) hl
 exact⟨v',w',h1,h2,((Fr.refl (fun q=>v.ownBlock=some q) w).alloc _).grown h3 fun g hg _=>hg⟩
theorem OI.quiet {w w':World} {base:Nat} {v:Value} {l:List Nat} (h:OI w base v l) (hf:Fr noB w w'):OI w' base v l:=
 World.ownsRow.kept h (row:=none) ⟨hf.os,hf.tape,hf.output,hf.size,fun k hk _=>hf.block k hk id⟩ (by cases v.ownBlock<;>simp)
theorem pC (w:World) (n c:Nat) (hnc:n≤c) (hc:c≤1000000):
 ∃w',(Instr.makeSlice 40 (.int .i64 (n:Int)) (.int .i64 (c:Int))).run Tryz.prog w= .ok (.slice (some ⟨w.heap.size,0,none⟩) n c) w'∧OI w' w.heap.size (.slice (some ⟨w.heap.size,0,none⟩) n c) (List.replicate n 0)∧Fr noB w w'∧w'.heap.size=w.heap.size+1:=by
 obtain⟨i,hi,hz,hs,hb⟩:=info_parts rL
 have h:=run_make (P:=Tryz.prog) (w:=w) 40 3 i _ Tryz.underlying40 hi hz .i64 .i64 (n:Int) (c:Int) (by omega) (by omega) (by rw[hb];omega) (by omega)
 rw[Int.toNat_natCast,Int.toNat_natCast,hs,Nat.mul_one]at h
 have hm:(madeCells (Value.int IntKind.i64 0).cells c).toList=List.replicate c (.int .i64 0):=by
  rw[show(Value.int IntKind.i64 0).cells= #[Value.int IntKind.i64 0]from rfl,toList_madeCells_one]
 have hsz:(madeCells (Value.int IntKind.i64 0).cells c).size=c:=by rw[←Array.length_toList,hm,List.length_replicate]
 refine⟨_,h,⟨by simp[nH],.inr ⟨w.heap.size,c,_,by rw[List.length_replicate],Nat.le_refl _,heap_alloc_new w _,by rw[List.length_replicate];exact hnc,by simp only[maxLen];omega,by rw[hsz,Nat.mul_one],?_⟩⟩,(Fr.refl _ _).alloc _,tE _ _⟩
 rw[hm,List.length_replicate,Nat.mul_one,List.take_replicate,Nat.min_eq_left hnc];simp[nH]
theorem C7 (p pw:Nat) (hp:p<65536) (hpw:2≤pw∧pw≤3) (w:World):
 Calls Tryz.prog 11 #[.int .i64 (p:Int),.int .i64 (pw:Int)] w (fun e w'=>e= .returned (.int .i64 (gX p pw:Int))∧Fr noB w w'):=by
 obtain⟨hp1,hp2⟩:=hpw
 obtain⟨n,hn⟩:∃n,n=2*pw:=⟨_,rfl⟩
 obtain⟨c,hc⟩:∃c,c=2*pw+1:=⟨_,rfl⟩
 obtain⟨w1,hmk,hO,hF,hsz⟩:=pC w n c (by omega) (by omega)
 have hO2:OI w1 w.heap.size (.slice (some ⟨w.heap.size,0,none⟩) n c) (List.replicate n 0):=hO
 obtain⟨v',w2,hap,hA,hF2⟩:=oT w1 w.heap.size p _ _ hO2 (by omega) (by rw[List.length_replicate];omega)
 obtain⟨t,cap,rfl,hR,hbt⟩:=hA.form (by simp)
 have hfr:Fr noB w w2:=hF.trans' hF2 fun b hb he=>absurd he (by simp only[Value.ownBlock];intro h;injection h with h;omega)
 have hlen:(List.replicate n 0++[p]).length=c:=by simp;omega
 have hdig:dig (List.replicate n 0++[p]):=by
  intro d hd;rw[List.mem_append]at hd
  rcases hd with h|h
  ·have:=(List.mem_replicate.1 h).2;omega
  ·simp at h;omega
 have hval:val (List.replicate n 0++[p])=p*2^(32*pw):=by
  rw[eO,nO,List.length_replicate,Nat.zero_add,show(65536:Nat)=2^16 from rfl,←Nat.pow_mul,show 16*n=32*pw by omega,Nat.mul_comm];simp[val]
 rw[hlen]at hap
 generalize List.replicate n 0++[p]=tgt at*
 clear hA hF2 hO hO2 hF
 generalize w.heap.size=B at*
 have hn1:(2:Int)*(pw:Int)=(n:Int):=by omega
 have hc1:(n:Int)+1=(c:Int):=by omega
 have Hn:=Lib.hid hn
 have Hc:=Lib.hid hc
 have Hl:=Lib.hid hlen
 have Hv:=Lib.hid hval
 have Hs:=Lib.hid hsz
 clear hn hc hlen hval hsz
 go_enter Tryz.func11,Tryz.ntmps11
 go_wp2_with (at_builtin
              go_must (refine gV rfl (.tmp 18) (.tmp 20) _ _ rfl hap rfl rfl ?_))
 have htl:=hR.lt
 go_loopw [6,7] (fun rv bv wr=>∃(k r b:Nat),k≤37∧r=pG p pw k∧b=2^(37-k)/2∧rv= .int .i64 r∧bv= .int .i64 b∧Fr noB w2 wr) (fun _ bv _=>(intOf bv).toNat)
 case atStart=>exact⟨0,0,68719476736,by omega,rfl,rfl,rfl,rfl,Fr.refl _ _⟩
 case round=>
  obtain⟨k,r,b,hk,hr,hb,rfl,rfl,hfw⟩:=hrel
  obtain⟨wo,rfl⟩:∃wo,wo=wr:=⟨_,rfl⟩
  have hrl:=zM p pw k hk
  rw[←hr]at hrl
  by_cases hlt:k<37
  ·have hb2:b=2^(36-k):=by rw[hb,show 37-k=(36-k)+1 by omega,Nat.pow_succ];omega
   have hpp:(2:Nat)^(37-k)=b+b:=by rw[hb2,show 37-k=(36-k)+1 by omega,Nat.pow_succ];omega
   have hb0:0<b:=by rw[hb2];exact Nat.pow_pos (by omega)
   have hnb:b/2=2^(37-(k+1))/2:=by rw[hb2,show 37-(k+1)=36-k by omega]
   have hstep:pG p pw (k+1)=if(r+b)^pw≤p*2^(32*pw)then r+b else r:=by rw[pG,sJ,←hr,←hb2]
   rw[hpp]at hrl
   obtain⟨x,hx⟩:∃x,x=r+b:=⟨_,rfl⟩
   rw[←hx]at hstep
   have hxl:x<137438953472:=by omega
   obtain⟨d0,hd0⟩:∃d0,d0=x%65536:=⟨_,rfl⟩
   obtain⟨d1,hd1⟩:∃d1,d1=x/65536%65536:=⟨_,rfl⟩
   obtain⟨d2,hd2⟩:∃d2,d2=x/65536/65536:=⟨_,rfl⟩
   obtain⟨hh,hhe⟩:∃hh,hh=b/2:=⟨_,rfl⟩
   have e0:(r:Int)+(b:Int)=(x:Int):=by omega
   have e1:(x:Int)%65536=(d0:Int):=by omega
   have e2:(x:Int)/65536%65536=(d1:Int):=by omega
   have e3:(x:Int)/65536/65536=(d2:Int):=by omega
   have e4:(b:Int)/2=(hh:Int):=by omega
   have hvD:val [d0,d1,d2]=x:=by simp only[val];omega
   have hdD:dig [d0,d1,d2]:=by
    intro d hd;simp only[List.mem_cons,List.not_mem_nil,or_false]at hd;omega
   have hID:IB (wo.alloc (.cells #[.int .i64 (d0:Int),.int .i64 (d1:Int),.int .i64 (d2:Int)] 3)) wo.heap.size [d0,d1,d2]:=Bk.new wo _ _
   have hRD:=hID.ri
   have hfD:Fr noB w2 (wo.alloc (.cells #[.int .i64 (d0:Int),.int .i64 (d1:Int),.int .i64 (d2:Int)] 3)):=hfw.alloc _
   have hhb:hh<b:=by omega
   have hbl:b<137438953472:=by omega
   rw[←hhe]at hnb
   have Hx:=Lib.hid hx
   have Hnb:=Lib.hid hnb
   have Hst:=Lib.hid hstep
   have HvD:=Lib.hid hvD
   clear hr hb hb2 hpp hx hd0 hd1 hd2 hhe hID hnb hstep hvD hrl
   go_wp2_with fail
   rw[e1,e2,e3]
   go_loopw [10,11] (fun nv kv wq=>∃(j gn cn l3:Nat) (cur:List Nat),1≤j∧j≤pw∧l3=3*j∧kv= .int .i64 j∧nv= .slice (some ⟨gn,0,none⟩) l3 cn∧cur.length=l3∧dig cur∧val cur=x^j∧RI wq gn cur∧RI wq wo.heap.size [d0,d1,d2]∧Fr noB w2 wq) (fun _ kv _=>pw-(intOf kv).toNat)
   case atStart=>exact⟨1,wo.heap.size,3,3,[d0,d1,d2],by omega,by omega,rfl,rfl,rfl,rfl,hdD,by rw[HvD.out,Nat.pow_one],hRD,hRD,hfD⟩
   case round=>
    obtain⟨j,gn,cn,l3,cur,hj1,hj2,hl3,rfl,rfl,hcl,hcd,hcv,hRc,hRd,hfq⟩:=hrel
    have Hl3:=Lib.hid hl3
    have hl9:l3≤9:=by omega
    clear hl3
    by_cases hjl:j<pw
    ·go_wp2_with fail
     refine(Dl cur [d0,d1,d2] gn wo.heap.size l3 3 (l3+3) cn 3 wr hRc hRd hcl rfl rfl (by omega) (by omega) hcd hdD).mono ?_
     rintro e w3 ⟨g,q,rfl,hI,hql,hqd,hqv,hf3,hge⟩
     have hq2:val q=x^(j+1):=by rw[hqv,hcv,HvD.out,Nat.pow_succ]
     have hRq:=hI.ri
     have hRd3:RI w3 wo.heap.size [d0,d1,d2]:=hRd.keep hf3 id
     have hfq3:Fr noB w2 w3:=hfq.trans hf3
     have Hq2:=Lib.hid hq2
     have Hql:=Lib.hid hql
     clear hq2 hql hqv hI
     go_wp2_with fail
     exact⟨⟨j+1,g,l3+3,l3+3,q,by omega,by omega,by have:=Hl3.out;omega,by rw[Int.natCast_add];rfl,rfl,Hql.out,hqd,Hq2.out,hRq,hRd3,hfq3⟩,by simp only[intOf];omega⟩
    ·obtain rfl:j=pw:=by omega
     have hRt:RI wr t tgt:=hR.keep hfq id
     go_wp2_with fail
     refine(DO cur tgt gn t l3 c cn cap wr hRc hRt hcl Hl.out (by omega) (by have:=Hl3.out;have:=Hc.out;omega) (by have:=Hl3.out;omega) hcd hdig).mono ?_
     rintro e w3 ⟨rfl,hf3⟩
     have hfq3:Fr noB w2 w3:=hfq.trans hf3
     have hdec:decide (val tgt<val cur)= !decide (x^j≤p*2^(32*j)):=by
      rw[Hv.out,hcv];generalize p*2^(32*j)=G;generalize x^j=X
      by_cases h:X≤G
      ·rw[decide_eq_true h,decide_eq_false (by omega)];rfl
      ·rw[decide_eq_false h,decide_eq_true (by omega)];rfl
     rw[hdec]
     by_cases hle:x^j≤p*2^(32*j)
     ·have h1:x=pG p j (k+1):=by rw[Hst.out,if_pos hle]
      have H1:=Lib.hid h1
      have h2:(!decide (x^j≤p*2^(32*j)))=false:=by simp[hle]
      rw[h2]
      clear h1 h2 hle hdec hcv
      go_wp2_with fail
      exact⟨⟨k+1,x,hh,by omega,H1.out,Hnb.out,rfl,rfl,hfq3⟩,by simp only[intOf];omega⟩
     ·have h1:r=pG p j (k+1):=by rw[Hst.out,if_neg hle]
      have H1:=Lib.hid h1
      have h2:(!decide (x^j≤p*2^(32*j)))=true:=by simp[hle]
      rw[h2]
      clear h1 h2 hle hdec hcv
      go_wp2_with fail
      exact⟨⟨k+1,r,hh,by omega,H1.out,Hnb.out,rfl,rfl,hfq3⟩,by simp only[intOf];omega⟩
  ·obtain rfl:k=37:=by omega
   have hb0:b=0:=by rw[hb]
   subst hb0
   have hfin:((r:Int)%4294967296)=(gX p pw:Int):=by rw[gX,←hr];omega
   have hrl2:r<137438953472:=by have:=hrl;omega
   clear hrl hr hb
   have hff:Fr noB w wo:=hfr.trans hfw
   go_wp2_with fail
   go_ret
   exact⟨congrArg (fun v=>Ending.returned (.int .i64 v)) hfin,hff⟩
end Go.Proofs.YtcllkmllflheiaaGreatDoor
namespace Go.Proofs.YtcllkmllflheiaaGreatDoor
open Go.RowKit Go.Proofs
theorem OI.shape {w:World} {base:Nat} {v:Value} {l:List Nat} (h:OI w base v l):∃A cap,v= .slice A l.length cap∧(0<l.length→∃g,A=some ⟨g,0,none⟩∧RI w g l∧base≤g):=by
 rcases Nat.eq_zero_or_pos l.length with h0|h0
 ·obtain⟨A,cap,rfl,_⟩:=fW h
  exact⟨A,cap,rfl,fun h=>by omega⟩
 ·obtain⟨g,cap,rfl,hR,hb⟩:=h.form h0
  exact⟨_,cap,rfl,fun _=>⟨g,rfl,hR,hb⟩⟩
theorem OI.own {w:World} {base:Nat} {v:Value} {l:List Nat} (h:OI w base v l) {S:Nat→Prop} {w0 w':World} (hf:Fr S w0 w) (hf2:Fr (fun q=>v.ownBlock=some q) w w') (hb:w0.heap.size≤base):Fr S w0 w':=
 hf.trans' hf2 fun b hb2 he=>absurd he (by intro he;have:=(World.ownsRow.lt h b he).1;omega)
theorem CY (w:World):
 Calls Tryz.prog 10 #[.int .i64 64] w (fun e w'=>∃v,e= .returned v∧OI w' w.heap.size v aW∧Fr noB w w'):=by
 go_enter Tryz.func10,Tryz.ntmps10
 go_wp2_with fail
 go_loopw [3,4] (fun v pv wr=>∃(p:Nat),2≤p∧p≤312∧pv= .int .i64 p∧OI wr w.heap.size v (below p)∧Fr noB w wr) (fun _ pv _=>312-(intOf pv).toNat)
 case atStart=>exact⟨2,by omega,by omega,rfl,by rw[BZ];exact OI.nil w _,Fr.refl _ _⟩
 case round=>
  obtain⟨p,h2,h3,rfl,hO,hfr⟩:=hrel
  obtain⟨wo,rfl⟩:∃wo,wo=wr:=⟨_,rfl⟩
  by_cases hlt:p<312
  ·have hbl:=Cg p hlt
   have hstep:=AP p h2 hlt
   have hle:=zX p
   have hpb:yQ p=(below p).all fun q=>p%q !=0:=rfl
   obtain⟨A,cap,rfl,hA⟩:=hO.shape
   generalize hl:below p=l at*
   have Hl:=Lib.hid hl
   have Hst:=Lib.hid hstep
   have Hpb:=Lib.hid hpb
   generalize hn:l.length=n at*
   have Hn:=Lib.hid hn
   clear hl hstep hpb hn
   go_wp2_with fail
   go_loopw [5,16] (fun bv iv wq=>∃(i:Nat),i≤n∧iv= .int .i64 i∧bv= .bool ((l.take i).all fun q=>p%q !=0)∧wq=wo) (fun _ iv _=>n-(intOf iv).toNat)
   case atStart=>exact⟨0,by omega,rfl,rfl,rfl⟩
   case round=>
    obtain⟨i,hi,rfl,rfl,hwq⟩:=hrel
    subst hwq
    by_cases hin:i<n
    ·obtain⟨g,rfl,hRI,hbg⟩:=hA (by omega)
     obtain⟨q,hq⟩:∃q,l[i]? =some q:=⟨l[i]'(by rw[Hn.out];exact hin),List.getElem?_eq_getElem _⟩
     have hq2:=hle q (List.mem_of_getElem? hq)
     have hcq:=hRI.get i q hq
     have htk:(l.take (i+1)).all (fun q=>p%q !=0)=((l.take i).all (fun q=>p%q !=0)&&(p%q !=0)):=by
      rw[List.take_add_one,hq];simp
     have Htk:=Lib.hid htk
     obtain⟨m,hm⟩:∃m,m=p%q:=⟨_,rfl⟩
     have hmi:(p:Int)%(q:Int)=(m:Int):=by rw[hm];exact(Int.natCast_emod _ _).symm
     have hq0:¬((q:Int)=0):=by omega
     rw[←hm]at htk
     have Htk:=Lib.hid htk
     have hgl:=hRI.lt
     clear hm htk hq
     cases hb:(l.take i).all (fun q=>p%q !=0)with
     |false=>
      have h1:(l.take (i+1)).all (fun q=>p%q !=0)=false:=by rw[Htk.out,hb];rfl
      have H1:=Lib.hid h1
      clear h1 hb
      go_wp2_with fail
      exact⟨⟨i+1,by omega,by rw[Int.natCast_add];rfl,by rw[H1.out],trivial⟩,by simp only[intOf];omega⟩
     |true=>
      by_cases hm0:m=0
      ·have h1:(l.take (i+1)).all (fun q=>p%q !=0)=false:=by rw[Htk.out,hb,hm0];rfl
       have H1:=Lib.hid h1
       clear h1 hb
       go_wp2_with fail
       exact⟨⟨i+1,by omega,by rw[Int.natCast_add];rfl,by rw[H1.out],trivial⟩,by simp only[intOf];omega⟩
      ·have h1:(l.take (i+1)).all (fun q=>p%q !=0)=true:=by rw[Htk.out,hb];simp[hm0]
       have H1:=Lib.hid h1
       have hmz:((m:Int) !=0)=true:=by simp;omega
       clear h1 hb
       go_wp2_with fail
       exact⟨⟨i+1,by omega,by rw[Int.natCast_add];rfl,by rw[H1.out],trivial⟩,by simp only[intOf];omega⟩
    ·obtain rfl:i=n:=by omega
     rw[show l.take i=l by rw[←Hn.out,List.take_length],←Hpb.out]
     cases hpb:yQ p with
     |false=>
      have h1:below (p+1)=l:=by rw[Hst.out,hpb];rfl
      have hO2:OI wr w.heap.size (.slice A i cap) (below (p+1)):=by rw[h1];exact hO
      clear h1 hpb
      go_wp2_with fail
      exact⟨⟨p+1,by omega,by omega,by rw[Int.natCast_add];rfl,hO2,hfr⟩,by simp only[intOf];omega⟩
     |true=>
      have h1:below (p+1)=l++[p]:=by rw[Hst.out,hpb];rfl
      obtain⟨v',w3,hap,hO3,hf3⟩:=oT wr w.heap.size p _ l hO hfr.size (by have:=Hn.out;omega)
      have hfr3:Fr noB w w3:=hO.own hfr hf3 (Nat.le_refl _)
      rw[←h1]at hO3
      clear h1 hpb
      go_wp2_with (at_builtin
                   go_must (refine gV rfl (.tmp 29) (.tmp 31) _ _ rfl hap rfl rfl ?_))
      exact⟨⟨p+1,by omega,by omega,by rw[Int.natCast_add];rfl,hO3,hfr3⟩,by simp only[intOf];omega⟩
  ·obtain rfl:p=312:=by omega
   obtain⟨A,cap,rfl,hA⟩:=hO.shape
   clear hA
   rw[uR]at hO⊢
   rw[gG]at hO⊢
   go_wp2_with fail
   go_ret
   exact⟨_,rfl,hO,hfr⟩
end Go.Proofs.YtcllkmllflheiaaGreatDoor
namespace Go.Proofs.YtcllkmllflheiaaGreatDoor
open Go.RowKit Go.Proofs
def ne2 (a b:Value):Prop:=∀q,a.ownBlock=some q→b.ownBlock≠some q
theorem ne2.symm {a b:Value} (h:ne2 a b):ne2 b a:=fun q h1 h2=>h q h2 h1
abbrev Bo:TypeId:=42
def Gp (w2:World) (B p:Nat) (cs:Value→Array Value) (v:Value) (l:List Nat) (o:Value) (lo:List Nat) (x:Nat) (b4 b7 b8 b11:Bool) (x7 x8:Value) (w3:World):Prop:=
 Fr (fun q=>q=p) w2 w3∧(b8=true→b4=true)∧(b11=true→b8=true)∧
 (b8=false→Bk w3 p Bo (cs v)∧OI w3 B v l∧OI w3 B o lo∧ne2 v o∧(b7=true→∃g,x7= .slice (some ⟨g,0,none⟩) 1 1∧IB w3 g [x]))∧
 (b8=true→b11=false→Bk w3 p Bo (cs v)∧OI w3 B x8 (l++[x])∧OI w3 B o lo∧ne2 x8 o)∧
 (b11=true→∃v',Bk w3 p Bo (cs v')∧OI w3 B v' (l++[x])∧OI w3 B o lo∧ne2 v' o)
section
variable {w2:World} {B p:Nat} {cs:Value→Array Value} {v:Value} {l:List Nat} {o:Value} {lo:List Nat} {x:Nat} {b4 b7 b8 b11:Bool} {x7 x8:Value} {w3 w4:World}
theorem Gp.quiet (h:Gp w2 B p cs v l o lo x b4 b7 b8 b11 x7 x8 w3) (hf:Fr noB w3 w4):Gp w2 B p cs v l o lo x b4 b7 b8 b11 x7 x8 w4:=by
 obtain⟨h1,h2,h3,h4,h5,h6⟩:=h
 refine⟨h1.none hf,h2,h3,fun e=> ?_,fun e e'=> ?_,fun e=> ?_⟩
 ·obtain⟨a,b,c,d,f⟩:=h4 e
  exact⟨a.keep hf id,b.quiet hf,c.quiet hf,d,fun e=>by obtain⟨g,q,r⟩:=f e;exact⟨g,q,Bk.keep r hf id⟩⟩
 ·obtain⟨a,b,c,d⟩:=h5 e e'
  exact⟨a.keep hf id,b.quiet hf,c.quiet hf,d⟩
 ·obtain⟨v',a,b,c,d⟩:=h6 e
  exact⟨v',a.keep hf id,b.quiet hf,c.quiet hf,d⟩
theorem Gp.load (h:Gp w2 B p cs v l o lo x false b7 b8 b11 x7 x8 w3):Bk w3 p Bo (cs v)∧Gp w2 B p cs v l o lo x true b7 b8 b11 x7 x8 w3:=by
 obtain⟨h1,h2,h3,h4,h5,h6⟩:=h
 have h8:b8=false:=by cases b8 with|false=>rfl|true=>exact absurd (h2 rfl) (by simp)
 exact⟨(h4 h8).1,h1,fun _=>rfl,h3,h4,h5,h6⟩
theorem Gp.make (h:Gp w2 B p cs v l o lo x b4 b7 b8 b11 x7 x8 w3):Gp w2 B p cs v l o lo x b4 true b8 b11 (.slice (some ⟨w3.heap.size,0,none⟩) 1 1) x8 (w3.alloc (.cells #[.int .i64 (x:Int)] 3)):=by
 have hq:=h.quiet ((Fr.refl noB w3).alloc (.cells #[.int .i64 (x:Int)] 3))
 obtain⟨h1,h2,h3,h4,h5,h6⟩:=hq
 refine⟨h1,h2,h3,fun e=> ?_,h5,h6⟩
 obtain⟨a,b,c,d,f⟩:=h4 e
 exact⟨a,b,c,d,fun _=>⟨_,rfl,Bk.new w3 _ _⟩⟩
theorem Gp.app (h:Gp w2 B p cs v l o lo x true true false b11 x7 x8 w3) (hpB:p<B) (hB:B=w2.heap.size) (hl:l.length<1000000):
 ∃g v' w4,x7= .slice (some ⟨g,0,none⟩) 1 1∧(Builtin.append_ #[40,40] 40 #[v,.slice (some ⟨g,0,none⟩) 1 1]).run Tryz.prog w3= .ok v' w4∧
  Gp w2 B p cs v l o lo x true true true b11 x7 v' w4:=by
 obtain⟨h1,h2,h3,h4,h5,h6⟩:=h
 have h11:b11=false:=by cases b11 with|false=>rfl|true=>exact absurd (h3 rfl) (by simp)
 obtain⟨a,b,c,d,f⟩:=h4 rfl
 obtain⟨g,hg,hI⟩:=f rfl
 obtain⟨v',w4,k1,k2,k3,k4⟩:=mW w3 B x g v l b hI (by rw[hB];exact h1.size) hl
 refine⟨g,v',w4,hg,k1,⟨h1.trans' ((Fr.refl (fun q=>v.ownBlock=some q) w3).grown k3 fun g hg _=>hg) ?_,fun _=>rfl,fun _=>rfl,fun e=>absurd e (by simp),fun _ _=>⟨a.grown k3 ?_,k2,World.ownsRow.kept c k3 ?_,?_⟩,fun e=>absurd e (by rw[h11];simp)⟩⟩
 ·intro q hq he;have:=(World.ownsRow.lt b q he).1;omega
 ·intro he;have:=(World.ownsRow.lt b p he.symm).1;omega
 ·rcases ho:o.ownBlock with _|q
  ·exact .inl rfl
  ·exact .inr (fun he=>d q he.symm ho)
 ·intro q hq ho
  rcases k4 with k4|k4
  ·exact d q (k4.symm.trans hq) ho
  ·have:=(World.ownsRow.lt c q ho).2
   rw[k4]at hq;injection hq with hq;omega
theorem Gp.store (h:Gp w2 B p cs v l o lo x b4 b7 true false x7 x8 w3) (hpB:p<B) (k:Nat) (hcs:∀u,(cs v).setIfInBounds k u=cs u):
 Gp w2 B p cs v l o lo x b4 b7 true true x7 x8 (w3.setCell ⟨p,k,none⟩ x8)∧Bk w3 p Bo (cs v)∧∃A n cap,x8= .slice A n cap:=by
 obtain⟨h1,h2,h3,h4,h5,h6⟩:=h
 obtain⟨a,b,c,d⟩:=h5 rfl rfl
 have hb:=a.set k x8
 rw[hcs]at hb
 have hg:w3.grownBy (w3.setCell ⟨p,k,none⟩ x8) (some p):=by
  have hf:Fr (fun q=>q=p) w3 (w3.setCell ⟨p,k,none⟩ x8):=Fr.setCell (S:=fun q=>q=p) (Fr.refl _ _) (p:=⟨p,k,none⟩) (fun _=>rfl) _
  exact⟨hf.os,hf.tape,hf.output,hf.size,fun q hq hne=>hf.block q hq (fun e=>hne (by rw[e]))⟩
 have hn:∀{u:Value} {l':List Nat},OI w3 B u l'→u.ownBlock=none∨u.ownBlock≠some p:=by
  intro u l' hu
  exact .inr fun e=>by have:=(World.ownsRow.lt hu p e).1;omega
 exact⟨⟨h1.setCell (p:=⟨p,k,none⟩) (fun _=>rfl) _,h2,fun _=>rfl,fun e=>absurd e (by simp),fun _ e=>absurd e (by simp),fun _=>⟨x8,hb,World.ownsRow.kept b hg (hn b),World.ownsRow.kept c hg (hn c),d⟩⟩,a,by obtain⟨A,cap,e,_⟩:=b.shape;exact⟨A,_,cap,e⟩⟩
end
theorem tT (w:World):
 Calls Tryz.prog 6 #[] w (fun e w'=>∃p B vh vk,e= .returned (.pointer (some ⟨p,0,none⟩))∧Bk w' p Bo #[vh,vk]∧OI w' B vh (h0.list.map UInt32.toNat)∧OI w' B vk (GA.map UInt32.toNat)∧Fr noB w w'∧w.heap.size≤p):=by
 go_enter Tryz.func6,Tryz.ntmps6
 have hB0:Bk (w.alloc (.cells #[.slice none 0 0,.slice none 0 0] Bo)) w.heap.size Bo #[.slice none 0 0,.slice none 0 0]:=Bk.new w _ _
 have hF0:Fr noB w (w.alloc (.cells #[.slice none 0 0,.slice none 0 0] Bo)):=(Fr.refl _ _).alloc _
 have hS0:=tE w (.cells #[.slice none 0 0,.slice none 0 0] Bo)
 go_wp2_with fail
 generalize w.alloc (.cells #[.slice none 0 0,.slice none 0 0] Bo)=w1 at*
 refine(CY _).mono ?_
 rintro e w2 ⟨v,rfl,hO,hf2⟩
 obtain⟨A,cap,rfl,hA⟩:=hO.shape
 rw[gG]at hA⊢
 obtain⟨g,rfl,hR,hbg⟩:=hA (by omega)
 have hB2:=hB0.keep hf2 id
 have hF2:=hF0.trans hf2
 obtain⟨p,hp⟩:∃p,p=w.heap.size:=⟨_,rfl⟩
 rw[←hp]at hB2⊢
 obtain⟨B,hB⟩:∃B,B=w2.heap.size:=⟨_,rfl⟩
 have hgB:g<B:=by rw[hB];exact hR.lt
 have hpB:p<B:=by have:=hf2.size;omega
 have hpg:p<g:=by omega
 have HB:=Lib.hid hB
 have Hp:=Lib.hid hp
 clear hA hO hB0 hF0 hB hp hS0 hf2
 go_wp2_with fail
 go_loopw [8] (fun iv wr=>∃(k:Nat) (vh vk:Value),k≤64∧iv= .int .i64 k∧Fr (fun q=>q=p) w2 wr∧Bk wr p Bo #[vh,vk]∧OI wr B vh (((aW.take k).take 8).map fun q=>gX q 2)∧OI wr B vk ((aW.take k).map fun q=>gX q 3)∧ne2 vh vk) (fun iv _=>64-(intOf iv).toNat)
 case atStart=>exact⟨0,_,_,by omega,rfl,Fr.refl _ _,hB2,OI.nil _ _,OI.nil _ _,fun q h=>by cases h⟩
 case round=>
  obtain⟨k,vh,vk,hk,rfl,hfr,hbk,hOh,hOk,hne⟩:=hrel
  by_cases hlt:k<64
  ·obtain⟨pr,hpr⟩:∃q,aW[k]? =some q:=⟨aW[k]'(by rw[gG];exact hlt),List.getElem?_eq_getElem _⟩
   have hpl:pr<65536:=by
    have h1:=(zX 312 pr (by rw[uR];exact List.mem_of_getElem? hpr)).2;omega
   have hRw:RI wr g aW:=hR.keep hfr (by omega)
   have hcp:=hRw.get k pr hpr
   have htk:aW.take (k+1)=aW.take k++[pr]:=by rw[List.take_add_one,hpr];rfl
   have hlk:((aW.take k).map fun q=>gX q 3).length≤64:=by rw[List.length_map,List.length_take];omega
   have hlh:(((aW.take k).take 8).map fun q=>gX q 2).length≤64:=by rw[List.length_map,List.length_take];omega
   have hk2:((aW.take (k+1)).map fun q=>gX q 3)=((aW.take k).map fun q=>gX q 3)++[gX pr 3]:=by rw[htk];simp
   have hh2:(((aW.take (k+1)).take 8).map fun q=>gX q 2)=if k<8 then(((aW.take k).take 8).map fun q=>gX q 2)++[gX pr 2]else(((aW.take k).take 8).map fun q=>gX q 2):=by
    rw[List.take_take,List.take_take]
    split
    ·rw[show min 8 (k+1)=k+1 by omega,show min 8 k=k by omega,htk];simp
    ·rw[show min 8 (k+1)=8 by omega,show min 8 k=8 by omega]
   generalize((aW.take k).map fun q=>gX q 3)=lk at*
   generalize(((aW.take k).take 8).map fun q=>gX q 2)=lh at*
   obtain⟨r3,R3⟩:∃r,r=gX pr 3:=⟨_,rfl⟩
   obtain⟨r2,R2⟩:∃r,r=gX pr 2:=⟨_,rfl⟩
   rw[←R3]at hk2
   rw[←R2]at hh2
   replace R3:=Lib.hid R3
   replace R2:=Lib.hid R2
   have Hk2:=Lib.hid hk2
   have Hh2:=Lib.hid hh2
   clear htk hpr hk2 hh2
   have HR:=Lib.hid hRw
   clear hRw hk
   go_upto_region 5 with fail
   generalize decide ((k:Int)<64)=b9
   have hG0:∀x7 x8,Gp w2 B p (fun z=> #[vh,z]) vk lk vh lh r3 false false false false x7 x8 wr.drew:=by
    intro x7 x8
    exact⟨hfr.drew,fun e=>absurd e (by simp),fun e=>absurd e (by simp),fun _=>⟨hbk,hOk,hOh,hne.symm,fun e=>absurd e (by simp)⟩,fun e=>absurd e (by simp),fun e=>absurd e (by simp)⟩
   obtain⟨V,hV⟩:∃V:Nat→Value,V=(fun j=>match j with|0=> .pointer (some ⟨p,0,none⟩)|1=> .pointer (some ⟨p,0,none⟩)|2=> .pointer (some ⟨p,0,none⟩)|3=> .pointer (some ⟨p,1,none⟩)|4=>vk|5=> .int .i64 (pr:Int)|6=> .int .i64 (r3:Int)|9=> .pointer (some ⟨p,0,none⟩)|10=> .pointer (some ⟨p,1,none⟩)|_=>undef):=⟨_,rfl⟩
   have v0:V 0= .pointer (some ⟨p,0,none⟩):=congrFun hV 0
   have v1:V 1= .pointer (some ⟨p,0,none⟩):=congrFun hV 1
   have v2:V 2= .pointer (some ⟨p,0,none⟩):=congrFun hV 2
   have v3:V 3= .pointer (some ⟨p,1,none⟩):=congrFun hV 3
   have v4:V 4=vk:=congrFun hV 4
   have v5:V 5= .int .i64 (pr:Int):=congrFun hV 5
   have v6:V 6= .int .i64 (r3:Int):=congrFun hV 6
   have v9:V 9= .pointer (some ⟨p,0,none⟩):=congrFun hV 9
   have v10:V 10= .pointer (some ⟨p,1,none⟩):=congrFun hV 10
   clear hV
   refine gQ (by kernel_rfl) (by kernel_rfl) (by kernel_rfl)
    (fun u=>⟨#[.pointer none,.pointer (some ⟨p,0,none⟩),.int .i64 (k:Int),.int .i64 (pr:Int),.agg #[.slice none 0 0,.slice none 0 0],.pointer (some ⟨p,0,none⟩),.slice (some ⟨g,0,none⟩) 64 cap,.int .i64 64,.int .i64 (k:Int),.bool b9,.int .i64 (k:Int),.pointer (some ⟨g,k,none⟩),.int .i64 (pr:Int),u 0,u 1,u 2,u 3,u 4,u 5,u 6,u 7,u 8,u 9,u 10,u24,u25,u26,u27,u28,u29,u30,u31,u32,u33,u34,u35,u36,u37,undef],[]⟩)
    (fun j x w3=>if j=7 then True else if j=8 then True else if j=11 then True else x=V j)
    (fun L u w3=>Gp w2 B p (fun z=> #[vh,z]) (vk) lk (vh) lh r3 (L 4) (L 7) (L 8) (L 11) (u 7) (u 8) w3) (fun j=>if j=0 then u13 else if j=1 then u14 else if j=2 then u15 else if j=3 then u16 else if j=4 then u17 else if j=5 then u18 else if j=6 then u19 else if j=7 then u20 else if j=8 then u21 else if j=9 then u22 else if j=10 then u23 else undef) (hG0 _ _) ?_ ?_
   ·rintro L u w3 i o hG hΦ ho hL hd K hK
    match i,ho with
    |0,ho=>
     simp at ho;subst ho
     clear hΦ hd
     go_simp
     exact hK _ _ v0.symm hG (fun _ _ _ h=>h)
    |1,ho=>
     simp at ho;subst ho
     clear hΦ hd
     go_simp
     exact hK _ _ v1.symm hG (fun _ _ _ h=>h)
    |2,ho=>
     simp at ho;subst ho
     have hu1:u 1=V 1:=hΦ 1 (hd ⟨1,.data⟩ (by simp) (by rfl))
     rw[v1]at hu1
     clear hΦ hd
     have hx:∃x,u=(upd x 1 (.pointer (some ⟨p,0,none⟩))):=⟨u,by rw[←aQ hu1]⟩
     clear hu1
     obtain⟨x,rfl⟩:=hx
     simp only[upd,reduceIte,Nat.reduceEqDiff]
     go_simp
     exact hK _ _ v2.symm hG (fun _ _ _ h=>h)
    |3,ho=>
     simp at ho;subst ho
     have hu2:u 2=V 2:=hΦ 2 (hd ⟨2,.data⟩ (by simp) (by rfl))
     rw[v2]at hu2
     clear hΦ hd
     have hx:∃x,u=(upd x 2 (.pointer (some ⟨p,0,none⟩))):=⟨u,by rw[←aQ hu2]⟩
     clear hu2
     obtain⟨x,rfl⟩:=hx
     simp only[upd,reduceIte,Nat.reduceEqDiff]
     go_simp
     exact hK _ _ v3.symm hG (fun _ _ _ h=>h)
    |4,ho=>
     simp at ho;subst ho
     have hu3:u 3=V 3:=hΦ 3 (hd ⟨3,.data⟩ (by simp) (by rfl))
     rw[v3]at hu3
     clear hΦ hd
     have hx:∃x,u=(upd x 3 (.pointer (some ⟨p,1,none⟩))):=⟨u,by rw[←aQ hu3]⟩
     clear hu3
     obtain⟨x,rfl⟩:=hx
     simp only[upd,reduceIte,Nat.reduceEqDiff]
     rw[hL]at hG
     obtain⟨hbk,hG2⟩:=hG.load
     have hcl:w3.cell? ⟨p,1,none⟩=some (vk):=by simpa using hbk.cell 1
     go_simp
     exact hK _ _ v4.symm hG2 (fun _ _ _ h=>h)
    |5,ho=>
     simp at ho;subst ho
     clear hΦ hd
     go_simp
     exact hK _ _ v5.symm hG (fun _ _ _ h=>h)
    |6,ho=>
     simp at ho;subst ho
     have hu5:u 5=V 5:=hΦ 5 (hd ⟨5,.data⟩ (by simp) (by rfl))
     rw[v5]at hu5
     clear hΦ hd
     have hx:∃x,u=(upd x 5 (.int .i64 (pr:Int))):=⟨u,by rw[←aQ hu5]⟩
     clear hu5
     obtain⟨x,rfl⟩:=hx
     simp only[upd,reduceIte,Nat.reduceEqDiff]
     have hroot:=C7 pr 3 (by omega) (by omega) w3
     rw[←R3.out]at hroot
     go_simp
     refine hroot.mono ?_
     rintro e w4 ⟨rfl,hf4⟩
     exact hK _ _ v6.symm (hG.quiet hf4) (fun _ _ _ h=>h)
    |7,ho=>
     simp at ho;subst ho
     have hu6:u 6=V 6:=hΦ 6 (hd ⟨6,.data⟩ (by simp) (by rfl))
     rw[v6]at hu6
     clear hΦ hd
     have hx:∃x,u=(upd x 6 (.int .i64 (r3:Int))):=⟨u,by rw[←aQ hu6]⟩
     clear hu6
     obtain⟨x,rfl⟩:=hx
     simp only[upd,reduceIte,Nat.reduceEqDiff]
     go_simp
     exact hK _ _ trivial hG.make (fun _ _ _ h=>h)
    |8,ho=>
     simp at ho;subst ho
     have hu4:u 4=V 4:=hΦ 4 (hd ⟨4,.data⟩ (by simp) (by rfl))
     rw[v4]at hu4
     have hl4:L 4=true:=hd ⟨4,.data⟩ (by simp) (by rfl)
     have hl7:L 7=true:=hd ⟨7,.data⟩ (by simp) (by rfl)
     rw[hl4,hl7,hL]at hG
     obtain⟨g,v',w4,hx7,hap,hG2⟩:=hG.app hpB HB.out (by omega)
     clear hΦ hd
     have hx:∃x,u=(upd (upd x 4 (vk)) 7 (.slice (some ⟨g,0,none⟩) 1 1)):=⟨u,by rw[←aQ hu4,←aQ hx7]⟩
     clear hu4 hx7
     obtain⟨x,rfl⟩:=hx
     simp only[upd,reduceIte,Nat.reduceEqDiff]at hG2⊢
     refine iC _ _ _ _ rfl hap rfl rfl ?_
     refine hK _ _ trivial ?_ (fun _ _ _ h=>h)
     rw[show mark L 8 4=true from hl4,show mark L 8 7=true from hl7]
     exact hG2
    |9,ho=>
     simp at ho;subst ho
     have hu0:u 0=V 0:=hΦ 0 (hd ⟨0,.data⟩ (by simp) (by rfl))
     rw[v0]at hu0
     clear hΦ hd
     have hx:∃x,u=(upd x 0 (.pointer (some ⟨p,0,none⟩))):=⟨u,by rw[←aQ hu0]⟩
     clear hu0
     obtain⟨x,rfl⟩:=hx
     simp only[upd,reduceIte,Nat.reduceEqDiff]
     go_simp
     exact hK _ _ v9.symm hG (fun _ _ _ h=>h)
    |10,ho=>
     simp at ho;subst ho
     have hu9:u 9=V 9:=hΦ 9 (hd ⟨9,.data⟩ (by simp) (by rfl))
     rw[v9]at hu9
     clear hΦ hd
     have hx:∃x,u=(upd x 9 (.pointer (some ⟨p,0,none⟩))):=⟨u,by rw[←aQ hu9]⟩
     clear hu9
     obtain⟨x,rfl⟩:=hx
     simp only[upd,reduceIte,Nat.reduceEqDiff]
     go_simp
     exact hK _ _ v10.symm hG (fun _ _ _ h=>h)
    |11,ho=>
     simp at ho;subst ho
     have hu10:u 10=V 10:=hΦ 10 (hd ⟨10,.data⟩ (by simp) (by rfl))
     rw[v10]at hu10
     have hl8:L 8=true:=hd ⟨8,.data⟩ (by simp) (by rfl)
     rw[hl8,hL]at hG
     obtain⟨hG2,hbk,A8,n8,c8,hx8⟩:=hG.store hpB 1 (fun _=>rfl)
     have hcl:w3.cell? ⟨p,1,none⟩=some (vk):=by simpa using hbk.cell 1
     have hfz:=hbk.free 1
     clear hΦ hd
     have hx:∃x,u=(upd (upd x 10 (.pointer (some ⟨p,1,none⟩))) 8 (.slice A8 n8 c8)):=⟨u,by rw[←aQ hu10,←aQ hx8]⟩
     clear hu10 hx8
     obtain⟨x,rfl⟩:=hx
     simp only[upd,reduceIte,Nat.reduceEqDiff]at hG2⊢
     go_simp
     refine hK undef _ trivial ?_ (fun _ _ _ h=>h)
     rw[show mark L 11 8=true from hl8]
     exact hG2
   ·rintro u w3 hu L hall hG
    clear hu
    rw[hall 11 (by decide)]at hG
    obtain⟨hfr3,-,-,-,-,h6⟩:=hG
    obtain⟨v',hbk3,hO3,hP3,hne3⟩:=h6 rfl
    clear v0 v1 v2 v3 v4 v5 v6 v9 v10 hG0
    obtain⟨vk2,rfl⟩:∃z,z=v':=⟨_,rfl⟩
    obtain⟨w5,rfl⟩:∃z,z=w3:=⟨_,rfl⟩
    clear hall h6
    by_cases h8:k<8
    ·rw[if_pos h8]at Hh2
     go_upto_region 7 with fail
     generalize decide ((k:Int)<8)=b25
     generalize u 0=y13
     generalize u 1=y14
     generalize u 2=y15
     generalize u 3=y16
     generalize u 4=y17
     generalize u 5=y18
     generalize u 6=y19
     generalize u 7=y20
     generalize u 8=y21
     generalize u 9=y22
     generalize u 10=y23
     have hG0:∀x7 x8,Gp w2 B p (fun z=> #[z,vk2]) vh lh vk2 (lk++[r3]) r2 false false false false x7 x8 w5.drew:=by
      intro x7 x8
      exact⟨hfr3.drew,fun e=>absurd e (by simp),fun e=>absurd e (by simp),fun _=>⟨hbk3,hP3,hO3,hne3.symm,fun e=>absurd e (by simp)⟩,fun e=>absurd e (by simp),fun e=>absurd e (by simp)⟩
     obtain⟨V,hV⟩:∃V:Nat→Value,V=(fun j=>match j with|0=> .pointer (some ⟨p,0,none⟩)|1=> .pointer (some ⟨p,0,none⟩)|2=> .pointer (some ⟨p,0,none⟩)|3=> .pointer (some ⟨p,0,none⟩)|4=>vh|5=> .int .i64 (pr:Int)|6=> .int .i64 (r2:Int)|9=> .pointer (some ⟨p,0,none⟩)|10=> .pointer (some ⟨p,0,none⟩)|_=>undef):=⟨_,rfl⟩
     have v0:V 0= .pointer (some ⟨p,0,none⟩):=congrFun hV 0
     have v1:V 1= .pointer (some ⟨p,0,none⟩):=congrFun hV 1
     have v2:V 2= .pointer (some ⟨p,0,none⟩):=congrFun hV 2
     have v3:V 3= .pointer (some ⟨p,0,none⟩):=congrFun hV 3
     have v4:V 4=vh:=congrFun hV 4
     have v5:V 5= .int .i64 (pr:Int):=congrFun hV 5
     have v6:V 6= .int .i64 (r2:Int):=congrFun hV 6
     have v9:V 9= .pointer (some ⟨p,0,none⟩):=congrFun hV 9
     have v10:V 10= .pointer (some ⟨p,0,none⟩):=congrFun hV 10
     clear hV
     refine gQ (by kernel_rfl) (by kernel_rfl) (by kernel_rfl)
      (fun u=>⟨#[.pointer none,.pointer (some ⟨p,0,none⟩),.int .i64 (k:Int),.int .i64 (pr:Int),.agg #[.slice none 0 0,.slice none 0 0],.pointer (some ⟨p,0,none⟩),.slice (some ⟨g,0,none⟩) 64 cap,.int .i64 64,.int .i64 (k:Int),.bool b9,.int .i64 (k:Int),.pointer (some ⟨g,k,none⟩),.int .i64 (pr:Int),y13,y14,y15,y16,y17,y18,y19,y20,y21,y22,y23,.int .i64 (k:Int),.bool b25,u 0,u 1,u 2,u 3,u 4,u 5,u 6,u 7,u 8,u 9,u 10,u37,undef],[]⟩)
      (fun j x w3=>if j=7 then True else if j=8 then True else if j=11 then True else x=V j)
      (fun L u w3=>Gp w2 B p (fun z=> #[z,vk2]) (vh) lh (vk2) (lk++[r3]) r2 (L 4) (L 7) (L 8) (L 11) (u 7) (u 8) w3) (fun j=>if j=0 then u26 else if j=1 then u27 else if j=2 then u28 else if j=3 then u29 else if j=4 then u30 else if j=5 then u31 else if j=6 then u32 else if j=7 then u33 else if j=8 then u34 else if j=9 then u35 else if j=10 then u36 else undef) (hG0 _ _) ?_ ?_
     ·rintro L u w3 i o hG hΦ ho hL hd K hK
      match i,ho with
      |0,ho=>
       simp at ho;subst ho
       clear hΦ hd
       go_simp
       exact hK _ _ v0.symm hG (fun _ _ _ h=>h)
      |1,ho=>
       simp at ho;subst ho
       clear hΦ hd
       go_simp
       exact hK _ _ v1.symm hG (fun _ _ _ h=>h)
      |2,ho=>
       simp at ho;subst ho
       have hu1:u 1=V 1:=hΦ 1 (hd ⟨1,.data⟩ (by simp) (by rfl))
       rw[v1]at hu1
       clear hΦ hd
       have hx:∃x,u=(upd x 1 (.pointer (some ⟨p,0,none⟩))):=⟨u,by rw[←aQ hu1]⟩
       clear hu1
       obtain⟨x,rfl⟩:=hx
       simp only[upd,reduceIte,Nat.reduceEqDiff]
       go_simp
       exact hK _ _ v2.symm hG (fun _ _ _ h=>h)
      |3,ho=>
       simp at ho;subst ho
       have hu2:u 2=V 2:=hΦ 2 (hd ⟨2,.data⟩ (by simp) (by rfl))
       rw[v2]at hu2
       clear hΦ hd
       have hx:∃x,u=(upd x 2 (.pointer (some ⟨p,0,none⟩))):=⟨u,by rw[←aQ hu2]⟩
       clear hu2
       obtain⟨x,rfl⟩:=hx
       simp only[upd,reduceIte,Nat.reduceEqDiff]
       go_simp
       exact hK _ _ v3.symm hG (fun _ _ _ h=>h)
      |4,ho=>
       simp at ho;subst ho
       have hu3:u 3=V 3:=hΦ 3 (hd ⟨3,.data⟩ (by simp) (by rfl))
       rw[v3]at hu3
       clear hΦ hd
       have hx:∃x,u=(upd x 3 (.pointer (some ⟨p,0,none⟩))):=⟨u,by rw[←aQ hu3]⟩
       clear hu3
       obtain⟨x,rfl⟩:=hx
       simp only[upd,reduceIte,Nat.reduceEqDiff]
       rw[hL]at hG
       obtain⟨hbk,hG2⟩:=hG.load
       have hcl:w3.cell? ⟨p,0,none⟩=some (vh):=by simpa using hbk.cell 0
       go_simp
       exact hK _ _ v4.symm hG2 (fun _ _ _ h=>h)
      |5,ho=>
       simp at ho;subst ho
       clear hΦ hd
       go_simp
       exact hK _ _ v5.symm hG (fun _ _ _ h=>h)
      |6,ho=>
       simp at ho;subst ho
       have hu5:u 5=V 5:=hΦ 5 (hd ⟨5,.data⟩ (by simp) (by rfl))
       rw[v5]at hu5
       clear hΦ hd
       have hx:∃x,u=(upd x 5 (.int .i64 (pr:Int))):=⟨u,by rw[←aQ hu5]⟩
       clear hu5
       obtain⟨x,rfl⟩:=hx
       simp only[upd,reduceIte,Nat.reduceEqDiff]
       have hroot:=C7 pr 2 (by omega) (by omega) w3
       rw[←R2.out]at hroot
       go_simp
       refine hroot.mono ?_
       rintro e w4 ⟨rfl,hf4⟩
       exact hK _ _ v6.symm (hG.quiet hf4) (fun _ _ _ h=>h)
      |7,ho=>
       simp at ho;subst ho
       have hu6:u 6=V 6:=hΦ 6 (hd ⟨6,.data⟩ (by simp) (by rfl))
       rw[v6]at hu6
       clear hΦ hd
       have hx:∃x,u=(upd x 6 (.int .i64 (r2:Int))):=⟨u,by rw[←aQ hu6]⟩
       clear hu6
       obtain⟨x,rfl⟩:=hx
       simp only[upd,reduceIte,Nat.reduceEqDiff]
       go_simp
       exact hK _ _ trivial hG.make (fun _ _ _ h=>h)
      |8,ho=>
       simp at ho;subst ho
       have hu4:u 4=V 4:=hΦ 4 (hd ⟨4,.data⟩ (by simp) (by rfl))
       rw[v4]at hu4
       have hl4:L 4=true:=hd ⟨4,.data⟩ (by simp) (by rfl)
       have hl7:L 7=true:=hd ⟨7,.data⟩ (by simp) (by rfl)
       rw[hl4,hl7,hL]at hG
       obtain⟨g,v',w4,hx7,hap,hG2⟩:=hG.app hpB HB.out (by omega)
       clear hΦ hd
       have hx:∃x,u=(upd (upd x 4 (vh)) 7 (.slice (some ⟨g,0,none⟩) 1 1)):=⟨u,by rw[←aQ hu4,←aQ hx7]⟩
       clear hu4 hx7
       obtain⟨x,rfl⟩:=hx
       simp only[upd,reduceIte,Nat.reduceEqDiff]at hG2⊢
       refine iC _ _ _ _ rfl hap rfl rfl ?_
       refine hK _ _ trivial ?_ (fun _ _ _ h=>h)
       rw[show mark L 8 4=true from hl4,show mark L 8 7=true from hl7]
       exact hG2
      |9,ho=>
       simp at ho;subst ho
       have hu0:u 0=V 0:=hΦ 0 (hd ⟨0,.data⟩ (by simp) (by rfl))
       rw[v0]at hu0
       clear hΦ hd
       have hx:∃x,u=(upd x 0 (.pointer (some ⟨p,0,none⟩))):=⟨u,by rw[←aQ hu0]⟩
       clear hu0
       obtain⟨x,rfl⟩:=hx
       simp only[upd,reduceIte,Nat.reduceEqDiff]
       go_simp
       exact hK _ _ v9.symm hG (fun _ _ _ h=>h)
      |10,ho=>
       simp at ho;subst ho
       have hu9:u 9=V 9:=hΦ 9 (hd ⟨9,.data⟩ (by simp) (by rfl))
       rw[v9]at hu9
       clear hΦ hd
       have hx:∃x,u=(upd x 9 (.pointer (some ⟨p,0,none⟩))):=⟨u,by rw[←aQ hu9]⟩
       clear hu9
       obtain⟨x,rfl⟩:=hx
       simp only[upd,reduceIte,Nat.reduceEqDiff]
       go_simp
       exact hK _ _ v10.symm hG (fun _ _ _ h=>h)
      |11,ho=>
       simp at ho;subst ho
       have hu10:u 10=V 10:=hΦ 10 (hd ⟨10,.data⟩ (by simp) (by rfl))
       rw[v10]at hu10
       have hl8:L 8=true:=hd ⟨8,.data⟩ (by simp) (by rfl)
       rw[hl8,hL]at hG
       obtain⟨hG2,hbk,A8,n8,c8,hx8⟩:=hG.store hpB 0 (fun _=>rfl)
       have hcl:w3.cell? ⟨p,0,none⟩=some (vh):=by simpa using hbk.cell 0
       have hfz:=hbk.free 0
       clear hΦ hd
       have hx:∃x,u=(upd (upd x 10 (.pointer (some ⟨p,0,none⟩))) 8 (.slice A8 n8 c8)):=⟨u,by rw[←aQ hu10,←aQ hx8]⟩
       clear hu10 hx8
       obtain⟨x,rfl⟩:=hx
       simp only[upd,reduceIte,Nat.reduceEqDiff]at hG2⊢
       go_simp
       refine hK undef _ trivial ?_ (fun _ _ _ h=>h)
       rw[show mark L 11 8=true from hl8]
       exact hG2
     ·rintro u w3 hu L hall hG
      clear hu
      rw[hall 11 (by decide)]at hG
      obtain⟨hfr3,-,-,-,-,h6⟩:=hG
      obtain⟨v',hbk3,hO3,hP3,hne3⟩:=h6 rfl
      clear hall h6
      go_wp2_with fail
      exact⟨⟨k+1,v',vk2,by omega,by rw[Int.natCast_add];rfl,hfr3,hbk3,by rw[Hh2.out];exact hO3,by rw[Hk2.out];exact hP3,hne3⟩,by simp only[intOf];omega⟩
    ·rw[if_neg h8]at Hh2
     go_wp2_with fail
     exact⟨⟨k+1,vh,vk2,by omega,by rw[Int.natCast_add];rfl,hfr3,hbk3,by rw[Hh2.out];exact hP3,by rw[Hk2.out];exact hO3,hne3.symm⟩,by simp only[intOf];omega⟩
  ·obtain rfl:k=64:=by omega
   rw[show aW.take 64=aW by rw[←gG,List.take_length]]at hOh hOk
   rw[AA]at hOh
   rw[AB]at hOk
   have hFF:Fr noB w wr:=hF2.trans' hfr fun q hq he=>absurd he (by have:=Hp.out;omega)
   have Hh:=Lib.hid hOh
   have Hk:=Lib.hid hOk
   clear hOh hOk
   go_wp2_with fail
   go_ret
   exact⟨p,B,vh,vk,rfl,hbk,Hh.out,Hk.out,hFF,by have:=Hp.out;omega⟩
end Go.Proofs.YtcllkmllflheiaaGreatDoor
namespace Go.Proofs.YtcllkmllflheiaaGreatDoor
open Go.RowKit Go.Proofs
attribute [local simp] opV ibq ibn eqN ltN leN eqL ltL gtL leL geL
theorem sLd {P:Program} {opl rest:List Oper} {o:Oper} {n:Nat} {u:Nat→Value} {l:List (Nat×Value)} {w:World} {Q:Exit→Act→World→Prop} {d:Nat} {ty:TypeId} {x:Operand} {v:Value} {td:TypeDesc} (ad:Addr) (cs:Array Value) (hc:∀(j:Nat) (u:Value),cs[j]? =some u→w.cell? (ad.add j)=some u) (hu:P.underlying ty=some td)
 (h:wl P opl Q rest (F n u ((d,.agg cs)::l)) w) (hgd:o.guard=none:=by rfl) (ho:o.op= .load ty x:=by rfl) (hd:o.dst=some d:=by rfl) (hx:(F n u l).eval x=v:=by go_simp;((try with_reducible rfl);done)) (hx':v= .pointer (some ad):=by rfl)
 (ht:(match td with| .struct _| .array _ _=>true|_=>false)=true:=by rfl) (hi:(P.info? ty).map (·.size)=some cs.size:=by kernel_rfl):wl P opl Q (o::rest) (F n u l) w:=by
 rw[cJ]at h⊢
 exact eY hgd ty x ho ad (hx.trans hx') cs td hc hu ht hi (by rw[hd,eJ];exact h)
theorem JA (only:Int) (ho:only=0∨only=1∨only=2∨only=3∨only=4∨only=5) (ops:List OpD) (A:Option Addr) (cap:Nat) (w:World) (hscr:SlR w noB 17 A ops.length (AH ops)) (hG:Glb w) (ha:wU w 1 #[.int .u8 255,.int .u8 255,.int .u8 255,.int .u8 255,.int .u8 255,.int .u8 255]) (hn:ops.length≤65536)
 (E:OpD→List St→Bool) (Inv:Nat→List St→Prop) (h0:Inv 0 [])
 (hends:∀(base g T:Nat) (l:List Pr) (A:Option Addr) (cap k:Nat) (o:OpD) (w:World),fD base w g T l A cap→ops[k]? =some o→Inv k (l.map (·.s))→Calls Tryz.prog 8 #[.pointer (some ⟨g,0,none⟩),.agg (opV o),.int .i64 only] w fun e w'=>e= .returned (.bool (E o (l.map (·.s))))∧Fr noB w w')
 (hskip:∀(k:Nat) (o:OpD) (ss:List St),ops[k]? =some o→jF o.kind only=false→Inv k ss→Inv (k+1) ss)
 (hstep:∀(k:Nat) (o:OpD) (ss:List St),ops[k]? =some o→jF o.kind only=true→E o ss=false→Inv k ss→∃ss',Inv (k+1) ss'∧∀(base g T:Nat) (l:List Pr) (A:Option Addr) (cap:Nat) (w:World),fD base w g T l A cap→l.map (·.s)=ss→Db base w→Calls Tryz.prog 9 #[.pointer (some ⟨g,0,none⟩),.agg (opV o)] w (lN base g T ss' w)):
 Calls Tryz.prog 5 #[.slice A ops.length cap,.int .i64 only] w fun e w'=>e= .returned (.int .i64 (-1))∧Fr noB w w':=by
 have hlow:Low w.heap.size:=⟨Ce hG,ha.1⟩
 have frN:∀{w':World},Fr (fL w.heap.size) w w'→Fr noB w w':=fun hF=>(Fr.refl noB w).trans' hF fun b hb hx=>by have h1:w.heap.size≤b:=hx;omega
 have g2:∀{w':World},Fr (fL w.heap.size) w w'→Db w.heap.size w':=fun hF=>⟨hG.keep (frN hF) (fun _ _ x=>x),ha.keep (frN hF) (fun x=>x),hlow,hF.size⟩
 have Hh:=Lib.hid (And.intro hends (And.intro hskip hstep))
 have Hg:=Lib.hid (And.intro hlow (And.intro hscr (And.intro @frN @g2)))
 clear hends hskip hstep hG ha hlow hscr frN g2
 obtain⟨base,hbase⟩:∃b,b=w.heap.size:=⟨_,rfl⟩
 rw[←hbase]at Hg
 refine en Tryz.func5 Tryz.ntmps5 ?_
 refine W ?_
 refine sX (tT w) ?_
 rintro e w1 ⟨T,B,vh,vk,rfl,-,-,-,f1,hT⟩
 refine⟨_,rfl,?_⟩
 refine W ?_
 refine sA ?_
 intro w2 hB f2
 replace hB:Bk w2 w1.heap.size 36 #[.pointer (some ⟨T,0,none⟩),.slice none 0 0,.bool false]:=hB
 have hW:fD base w2 w1.heap.size T [] none 0:=⟨hB,⟨rfl,.inl ⟨rfl,rfl⟩⟩,eV.nil _ _ _,by rw[hbase];exact f1.size,(fun i x hx=>by simp at hx),(fun b hb=>by cases hb),(fun b hb=>by cases hb)⟩
 have f:=(f1.none f2).of_no (fL base)
 generalize w1.heap.size=g at*
 clear hB f1 f2 hT hbase
 refine W ?_
 refine cL (fun i=>ops.length-i.1) (fun(i:Nat×List Pr×Option Addr×Nat)=>[(14,.int .i64 ((i.1:Nat):Int)),(1,.int .i64 only),(5,.pointer (some ⟨g,0,none⟩)),(12,.slice A ops.length cap),(13,.int .i64 (ops.length:Int))]) (fun i w'=>i.1≤ops.length∧fD base w' g T i.2.1 i.2.2.1 i.2.2.2∧Inv i.1 (i.2.1.map (·.s))∧Fr (fL base) w w') (0,[],none,0) (mt (p:=True) trivial).1 ⟨Nat.zero_le _,hW,h0,f⟩ ?_
 clear hW h0 f
 rintro⟨k,l,A',c'⟩ u w3 ⟨hk,hW,hI,f⟩
 dsimp only at hk hW hI⊢
 by_cases hlt:k<ops.length
 rotate_left
 ·clear hW hI
  refine W ?_
  exact⟨rfl,Hg.out.2.2.1 f⟩
 obtain⟨op,hop⟩:∃op,ops[k]? =some op:=⟨_,List.getElem?_eq_getElem hlt⟩
 obtain⟨ad,hA,hc⟩:=uY (Hg.out.2.1.keep (Hg.out.2.2.1 f)) hop
 rw[In]at hc
 subst hA
 have Hop:=Lib.hid hop
 have hi1:wrap64 ((k:Int)+1)=((k+1:Nat):Int):=by rw[IntWalk.wrap64_in _ ⟨by omega,by omega⟩];omega
 have hm1:ops.length-(k+1)<ops.length-k:=by omega
 have Hi:=Lib.hid (And.intro hi1 hm1)
 clear hop hi1 hk hm1
 refine W ?_
 refine sLd (ad.add (k*17)) (opV op) hc Tryz.underlying30 ?_
 clear hc
 refine W ?_
 refine sA ?_
 intro w4 hO f4
 refine W ?_
 refine sT ?_
 intro w5 hO f5
 replace f5:=bA f4 (Nat.le_refl _) f5
 replace hO:Bk w5 w3.heap.size 30 (opV op):=hO
 replace hW:=hW.nop Hg.out.1 f5
 replace f:=f.none f5
 generalize w3.heap.size=q at*
 clear f4 f5
 refine V ?_
 refine pg [1,5,7,12,13,14] ?_
 clear u
 intro u
 refine W ?_
 refine sCe ((Dz op.kind only w5 ho).mono fun e w' x=>⟨x.1,x.2.symm⟩) ?_
 cases hp:jF op.kind only with
 |false=>
  refine W ?_
  rw[iQ,Hi.out.1]
  exact⟨(k+1,l,A',c'),(mt (p:=True) trivial).1,⟨hlt,hW,Hh.out.2.1 k op _ Hop.out hp hI,f⟩,Hi.out.2⟩
 |true=>
 have HO:=fun _:True=>hO
 clear hO
 refine W ?_
 refine sLd ⟨q,0,none⟩ (opV op) (fun j u hj=>by rw[kX,Nat.zero_add];exact DM (HO trivial) hj) Tryz.underlying30 ?_
 refine W ?_
 refine sC (Hh.out.1 base g T l A' c' k op w5 hW Hop.out hI) ?_
 intro w6 f6
 replace hW:=hW.nop Hg.out.1 f6
 replace f:=f.none f6
 have hO:=(HO trivial).keep f6 id
 clear f6 HO
 cases hE:E op (l.map (·.s))with
 |true=>
  refine W ?_
  exact⟨rfl,Hg.out.2.2.1 f⟩
 |false=>
 obtain⟨ss',hI',hcall⟩:=Hh.out.2.2 k op _ Hop.out hp hE hI
 have Hcall:=Lib.hid hcall
 have HE:=Lib.hid hI'
 clear hp hE hI hI' hcall
 refine V ?_
 refine cF (h:= ?_)
 refine pg [1,5,7,12,13,14] ?_
 clear u
 intro u
 refine cK ?_
 refine tN ?_
 refine cS ?_
 refine cM [1,5,7,12,13,14] [] (fun w'=>w6=w') ?_ ?_
 ·by_cases q5:only=5
  by_cases q7:op.kind=7
  all_goals
   refine W ?_
   exact mt rfl
 rintro u _ rfl
 replace hO:=fun _:True=>hO
 refine W ?_
 refine sLd ⟨q,0,none⟩ (opV op) (fun j u hj=>by rw[kX,Nat.zero_add];exact DM (hO trivial) hj) Tryz.underlying30 ?_
 clear hO
 refine W ?_
 refine sC (show Calls Tryz.prog _ _ w6 fun e w'=>e= .returned (.bool true)∧∃l' A' cap',fD base w' g T l' A' cap'∧l'.map (·.s)=ss'∧Fr (fL base) w6 w' from Hcall.out base g T l A' c' w6 hW rfl (Hg.out.2.2.2 f)) ?_
 rintro w7 ⟨l',A2,c2,hW7,rfl,f7⟩
 refine W ?_
 rw[iQ,Hi.out.1]
 exact⟨(k+1,l',A2,c2),(mt (p:=True) trivial).1,⟨hlt,hW7,HE.out,f.trans f7⟩,Hi.out.2⟩
end Go.Proofs.YtcllkmllflheiaaGreatDoor
namespace Go.Proofs.YtcllkmllflheiaaGreatDoor
open Go.RowKit Go.Proofs
attribute [local simp] opV lF ibq ibn eqN ltN leN eqL ltL gtL leL geL
structure G2 (T:Nat) (o:OpD) (x:Pr) (s':St):Prop where
 put:o.kind=2→s'=(x.s.put o.s).1
 take:o.kind=3→s'=x.s.take.1
 tick:o.kind=4→∃d:Nat,o.n%4294967296=(d:Int)∧(∀w,aC w x.L x.s→Calls Tryz.prog 19 #[.pointer (some ⟨x.L.p,0,none⟩),.int .u32 (d:Int)] w (bP x.L s' (.tuple #[]) w))∧(∀w,aA w x.p T x.M x.s→Calls Tryz.prog 20 #[.pointer (some ⟨x.p,0,none⟩),.int .u32 (d:Int)] w fun e w'=>e= .returned (.tuple #[])∧bE x.p T x.M w s' w')
 poll:o.kind=5→∃c:Int,(∀w,aC w x.L x.s→Calls Tryz.prog 21 #[.pointer (some ⟨x.L.p,0,none⟩),.int .i64 o.n] w (bP x.L s' (.int .i64 c) w))∧(∀w,aA w x.p T x.M x.s→Calls Tryz.prog 22 #[.pointer (some ⟨x.p,0,none⟩),.int .i64 o.n] w fun e w'=>e= .returned (.int .i64 c)∧bE x.p T x.M w s' w')
 image:o.kind=7→x.s.phase≠3
 same:¬(2≤o.kind∧o.kind≤5)→s'=x.s
attribute [-go_sem] run_eql_struct run_neq_struct run_equalIn_agg in
theorem IU (base g T:Nat) (l:List Pr) (A:Option Addr) (cap:Nat) (o:OpD) (w:World) (h:fD base w g T l A cap) (hG:Db base w) (hk1:¬o.kind=1) (i:Nat) (x:Pr) (hi:i=nZ o.a l.length) (hx:l[i]? =some x) (hll:l.length≤65536) (hA0: -9223372036854775808≤o.a) (hA1:o.a≤9223372036854775807)
 (s':St) (hC:G2 T o x s'):
 Calls Tryz.prog 9 #[.pointer (some ⟨g,0,none⟩),.agg (opV o)] w (lN base g T ((l.map (·.s)).set i s') w):=by
 have hlow:=hG.low
 have hP:=h.ps.at_ i x hx
 have done:∀w3 w4 w',Fr noB w w3→Now x.L w3 s' w4→bE x.p T x.M w4 s' w'→lN base g T ((l.map (·.s)).set i s') w (.returned (.bool true)) w':=fun w3 w4 w' f3 hN hM=>by
  obtain⟨x',rfl,p1,p2,hP2,hF,ho⟩:=((h.nop hlow f3).ps.at_ i x hx).both hlow hN hM
  exact⟨rfl,l.set i x',A,cap,(h.nop hlow f3).one hlow hx hF hP2 ho p1 p2,by rw[List.map_set],(f3.of_no _).trans (hF.mono fun k _ hk=>hP.lo k hk)⟩
 have model:∀w3 w4,Fr noB w w3→Fr (bW x.L) w3 w4→aA w4 x.p T x.M x.s:=fun w3 w4 f3 f4=>((h.nop hlow f3).ps.at_ i x hx).model hlow f4
 have hlt:∀k,bW x.L k→k<w.heap.size:=fun k hk=>hP.b.lt k hk
 have hil:i<l.length:=by
  rcases Nat.lt_or_ge i l.length with h1|h1
  ·exact h1
  ·rw[List.getElem?_eq_none h1]at hx;cases hx
 obtain⟨ga,hA,c0,c1⟩:=h.pair hx
 have hW:=h.bk
 have Hd:=Lib.hid (And.intro @done (And.intro @model hlt))
 have HC:=Lib.hid hC
 have hB:=hP.b
 subst hA
 have hpk:∀w,Calls Tryz.prog 12 #[.int .i64 o.a,.int .i64 (l.length:Int)] w fun e w'=>e= .returned (.int .i64 (i:Int))∧w=w':=fun w=>by rw[hi];exact vX o.a l.length w (by omega) (by omega) hA0 hA1
 have Pk:=Lib.hid hpk
 clear done model hlt hC h hG hlow hP hpk hi hx
 generalize hS':(l.map (·.s)).set i s'=ss at*
 clear hS'
 refine en Tryz.func9 Tryz.ntmps9 ?_
 refine W ?_
 refine sA ?_
 intro w1 hO f
 replace hO:Bk w1 w.heap.size 30 (opV o):=hO
 obtain⟨q,hq⟩:∃q,w.heap.size=q:=⟨_,rfl⟩
 rw[hq]at hO⊢
 have hqn:¬bW x.L q:=fun hx=>by have:=Hd.out.2.2 q hx;omega
 replace hW:=hW.keep f id
 replace c0:=c0.keep f id
 replace c1:=c1.keep f id
 have hqb:=hO.lt
 have hlen:¬l.length=0:=by omega
 refine W ?_
 refine cY (fun b=>[(9,.pointer (some ⟨b,0,none⟩)),(3,.pointer (some ⟨q,0,none⟩))]) (fun b w'=>Bk w' b 48 #[.pointer (some ⟨x.L.p,0,none⟩),.pointer (some ⟨x.p,0,none⟩)]∧Bk w' q 30 (opV o)∧Fr noB w w'∧q≤b) ?_ ?_
 ·refine dI (An hW (An hO (An c0 (An c1 f)))) [15] ([0,1,2,4,6,7,8,3,5,9,10,2000,11,12,13,14,15,3000,14,11,12,13,15]) (h:= ?_)
  clear hW hO c0 c1 f hB hqb
  intro w2 h2 _
  have pr:∀w',(Bk w' g 36 #[.pointer (some ⟨T,0,none⟩),.slice (some ⟨ga,0,none⟩) l.length cap,.bool false]∧Bk w' q 30 (opV o)∧DK w' ⟨ga,i*2,none⟩ (.pointer (some ⟨x.L.p,0,none⟩))∧DK w' ⟨ga,i*2+1,none⟩ (.pointer (some ⟨x.p,0,none⟩))∧Fr noB w w')→w'.cell? ⟨ga,i*2,none⟩=some (.pointer (some ⟨x.L.p,0,none⟩))∧w'.cell? ⟨ga,i*2+1,none⟩=some (.pointer (some ⟨x.p,0,none⟩)):=fun w' hS=>⟨hS.2.2.1,hS.2.2.2.1⟩
  have fi:∀w3 w4 w5,Bk w3 q 30 (opV o)∧Fr noB w w3→Fr noB w3 w4→Fr (aJ w3.heap.size) w4 w5→Bk w5 q 30 (opV o)∧Fr noB w w5∧q≤w3.heap.size:=fun w3 w4 w5 h3 f4 f5=>by
   have f6:=bA f4 (Nat.le_refl _) f5
   exact⟨h3.1.keep f6 id,h3.2.none f6,Nat.le_of_lt h3.1.lt⟩
  have Pr:=Lib.hid (And.intro pr fi)
  clear pr fi
  refine D ?_
  refine dF2 ?_ ?_
  ·refine dQe (Pk.out w2) h2 ?_
   refine D ?_
   refine dQ (v:= .agg #[.pointer (some ⟨x.L.p,0,none⟩),.pointer (some ⟨x.p,0,none⟩)]) ?_ ?_
   ·intro w' hS
    obtain⟨q0,q1⟩:=Pr.out.1 w' hS
    go_simp
   refine D ?_
   refine dA2 (by infer_instance) h2 ?_
   intro w3 h3 hb f3
   refine D ?_
   refine dZ ?_
   intro w4 hb f4
   obtain⟨e1,e2,e3⟩:=Pr.out.2 w2 w3 w4 ⟨h2.2.1,h2.2.2.2.2⟩ f3 f4
   refine D ?_
   refine tN ?_
   exact⟨_,(mt (p:=True) trivial).1,hb,e1,e2,e3⟩
  ·refine dA2 (by infer_instance) h2 ?_
   intro w3 h3 hb f3
   refine D ?_
   refine dQe (Pk.out w3) h3 ?_
   refine D ?_
   refine dQ (v:= .agg #[.pointer (some ⟨x.L.p,0,none⟩),.pointer (some ⟨x.p,0,none⟩)]) ?_ ?_
   ·intro w' hS
    obtain⟨q0,q1⟩:=Pr.out.1 w' hS
    go_simp
   refine D ?_
   refine dZ ?_
   intro w4 hb f4
   obtain⟨e1,e2,e3⟩:=Pr.out.2 w2 w3 w4 ⟨h2.2.1,h2.2.2.2.2⟩ f3 f4
   refine D ?_
   refine tN ?_
   exact⟨_,(mt (p:=True) trivial).1,hb,e1,e2,e3⟩
 clear hW hO c0 c1 f
 rintro b u w2 ⟨hb,hO,f,hqb⟩
 replace hB:=hB.none f
 have hbn:¬bW x.L b:=fun hx=>by have:=Hd.out.2.2 b hx;omega
 clear hqb hq hlen hil hll hA0 hA1 Pk
 by_cases k2:o.kind=2
 ·have hs:=HC.out.put k2
  have Hn:=Lib.hid (And.intro hqn hbn)
  clear hqn hbn hk1
  refine W ?_
  refine dI (An hb hO) [9] [0,2,5,7,1,3,6,8,4,9,10,11] (h:= ?_)
  clear hb hO
  rintro w3 ⟨hb,hO⟩ f3
  replace f:=f.none f3
  refine D ?_
  refine dC (Dn x.L x.s o.s w3 (hB.none f3)) ?_ ?_
  ·rintro w' ⟨_,f4⟩
   exact⟨hb.keep f4 Hn.out.2,hO.keep f4 Hn.out.1⟩
  rintro w4 ⟨h4,f4⟩ _
  refine D ?_
  refine dD (G3 x.p T x.M x.s o.s w4 (Hd.out.2.1 w3 w4 f f4)) ?_
  intro w5 h5
  refine D ?_
  refine W ?_
  exact Hd.out.1 w3 w4 w5 f ⟨x.L,rfl,fun _=> .inl,by rw[hs];exact h4,f4⟩ (by rw[hs];exact h5)
 by_cases k3:o.kind=3
 ·have hs:=HC.out.take k3
  clear hqn hk1
  refine W ?_
  refine sC (CJ x.L x.s w2 hB) ?_
  rintro w4 ⟨h4,f4⟩
  have hb4:=hb.keep f4 hbn
  refine W ?_
  refine sC (F7 x.p T x.M x.s w4 (Hd.out.2.1 w2 w4 f f4)) ?_
  intro w5 h5
  refine W ?_
  exact Hd.out.1 w2 w4 w5 f ⟨x.L,rfl,fun _=> .inl,by rw[hs];exact h4,f4⟩ (by rw[hs];exact h5)
 by_cases k4:o.kind=4
 ·obtain⟨d,hd,cB,cM⟩:=HC.out.tick k4
  have hw:IntKind.u32.wrap o.n=(d:Int):=by rw[IntKind.wrap_u32];exact hd
  have CB:=Lib.hid (And.intro cB cM)
  clear hk1 hd cB cM
  refine W ?_
  refine sC (CB.out.1 w2 hB) ?_
  intro w4 h4
  have h4':=h4
  obtain⟨L',p1,o1,b4,f4⟩:=h4'
  have hb4:=hb.keep f4 hbn
  have hO4:=hO.keep f4 hqn
  refine W ?_
  refine sC (CB.out.2 w4 (Hd.out.2.1 w2 w4 f f4)) ?_
  intro w5 h5
  refine W ?_
  exact Hd.out.1 w2 w4 w5 f h4 h5
 by_cases k5:o.kind=5
 ·obtain⟨c,cB,cM⟩:=HC.out.poll k5
  have CB:=Lib.hid (And.intro cB cM)
  have Hn:=Lib.hid (And.intro hqn hbn)
  clear hk1 cB cM hbn hqn
  refine W ?_
  refine dI (An hb hO) [9] [0,2,5,7,1,3,6,8,4,9,10,11] (h:= ?_)
  clear hb hO
  rintro w3 ⟨hb,hO⟩ f3
  replace f:=f.none f3
  refine D ?_
  refine dC (CB.out.1 w3 (hB.none f3)) ?_ ?_
  ·rintro w' ⟨L',p1,o1,b4,f4⟩
   exact⟨hb.keep f4 Hn.out.2,hO.keep f4 Hn.out.1⟩
  intro w4 h4 _
  have h4':=h4
  obtain⟨L',p1,o1,b4,f4⟩:=h4'
  refine D ?_
  refine dD (CB.out.2 w4 (Hd.out.2.1 w3 w4 f f4)) ?_
  intro w5 h5
  refine D ?_
  refine W ?_
  exact Hd.out.1 w3 w4 w5 f h4 h5
 have hs:=HC.out.same (by omega)
 have now:∀w4,Fr noB w w4→aC w4 x.L x.s→Now x.L w4 s' w4:=fun w4 _ hB=>⟨x.L,rfl,fun _=> .inl,by rw[hs];exact hB,Fr.refl _ _⟩
 by_cases k6:o.kind=6
 ·have hE:∀w,(binOp .eql 69 (.agg #[.int .i64 x.s.now,.int .i64 (x.s.lease:Int),.int .i64 (x.s.phase:Int),.int .u32 (x.s.address:Int),.int .i64 x.s.boots,.int .i64 (x.s.image.length:Int),.int .i64 x.s.lost,.int .i64 (x.s.cache.length:Int)]) (.agg #[.int .i64 x.s.now,.int .i64 (x.s.lease:Int),.int .i64 (x.s.phase:Int),.int .u32 (x.s.address:Int),.int .i64 x.s.boots,.int .i64 (x.s.image.length:Int),.int .i64 x.s.lost,.int .i64 (x.s.cache.length:Int)])).run Tryz.prog w= .ok (.bool true) w:=fun w=>Ez w (by kernel_rfl)
  have hGd:Tryz.prog.eqGuardType Tryz.prog.depth 69=false:=by kernel_rfl
  have Now_:=Lib.hid now
  clear hk1 hbn hqn now
  refine W ?_
  refine dI (An hb (An hB f)) [5] [0,3,1,4,2,5,6,7] (h:= ?_)
  clear hb hB f hO
  intro w3 h3 _
  refine D ?_
  refine dQc (Br x.L x.s w3 h3.2.1) h3 ?_
  intro w4 f4 h4
  refine D ?_
  refine dD (Fc x.p T x.M x.s w4 (Hd.out.2.1 w4 w4 h4.2.2 (Fr.refl _ _))) ?_
  intro w5 h5
  refine D ?_
  refine W ?_
  exact Hd.out.1 w4 w4 w5 h4.2.2 (Now_.out w4 h4.2.2 h4.2.1) (by rw[hs];exact h5)
 by_cases k7:o.kind=7
 ·have hp:=HC.out.image k7
  have Now_:=Lib.hid now
  clear hk1 now hqn
  refine W ?_
  refine sC (Bl x.L x.s w2 hB) ?_
  rintro w4 ⟨h4,f4⟩
  rw[if_neg hp,decide_eq_false hp,show bs []=⟨#[]⟩from rfl]
  have hb4:=hb.keep f4 hbn
  have hM:=Hd.out.2.1 w2 w4 f f4
  refine W ?_
  exact Hd.out.1 w2 w4 w4 f ⟨x.L,rfl,fun _=> .inl,by rw[hs];exact h4,f4⟩ (by rw[hs];exact .at_ hM)
 have k1:=hk1
 refine W ?_
 exact Hd.out.1 w2 w2 w2 f (now w2 f hB) (by rw[hs];exact .at_ (Hd.out.2.1 w2 w2 f (Fr.refl _ _)))
theorem Dm (base g T:Nat) (l:List Pr) (A:Option Addr) (cap:Nat) (o:OpD) (w:World) (h:fD base w g T l A cap) (hG:Db base w) (hk1:¬o.kind=1) (hl0:l=[]):
 Calls Tryz.prog 9 #[.pointer (some ⟨g,0,none⟩),.agg (opV o)] w (lN base g T (l.map (·.s)) w):=by
 subst hl0
 have hW:=h.bk
 refine en Tryz.func9 Tryz.ntmps9 ?_
 refine W ?_
 refine sA ?_
 intro w1 hO f
 replace hO:Bk w1 w.heap.size 30 (opV o):=hO
 replace hW:=hW.keep f id
 generalize w.heap.size=q at hO⊢
 refine W ?_
 exact⟨rfl,[],A,cap,h.nop hG.low f,rfl,f.of_no _⟩
end Go.Proofs.YtcllkmllflheiaaGreatDoor
