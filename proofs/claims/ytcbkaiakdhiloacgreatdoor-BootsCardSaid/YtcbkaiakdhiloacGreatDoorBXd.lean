/- Parts of the walk; written by programs, merged. -/
import Derived.Test.YtcbkaiakdhiloacGreatDoorBXc
set_option linter.unusedSimpArgs false
set_option linter.unusedVariables false
set_option maxRecDepth 20000
set_option maxHeartbeats 8000000
namespace Go.Proofs.YtcbkaiakdhiloacGreatDoor
open Go.RowKit Go.Proofs
def CQ.e1 (g:CQ) (s:St):Nat:=g.el s.lease s.phase s.image.length 1
theorem CQ.e1_le (g:CQ) (s:St):g.e1 s≤g.lost:=by unfold CQ.e1 CQ.el;split<;>omega
def wNqq (s:St):Nat:=(s.cache.filter fun e=> !e.known).length
section
variable {c:JG} {y:Way} {im:List UInt8} {k i tw F nx pt d m:Nat} {s t:St} {h:aK} {g:CQ} {du T:Int}
theorem els1 (h:s.cache.length=1):g.els s=g.e1 s:=by unfold CQ.els CQ.e1;rw[h]
theorem e1_of (a:t.lease=s.lease) (b:t.phase=s.phase) (c:t.image=s.image):g.e1 t=g.e1 s:=by unfold CQ.e1;rw[a,b,c]
theorem Tk.e1 (z:Tk s t):g.e1 t=g.e1 s:=e1_of z.lease z.phase z.image
theorem arp_again {ak:Int} (hc:s.c.card=aL) (hl:s.lease≠3) (ha:s.address=aS) (hk:s.cache=[ntK du ak]):s.frameP JH={s with cache:=[ntK (wrap64 (s.now+60)) 0]}:=by
 have hw:(gQ 2 bG aF aL aS).1=aZ 2 bG aF aL aS:=rfl
 have hwl:(aZ 2 bG aF aL aS).length≤1500:=by simp[aZ,aB,dO]
 have he:(aT aL bG 2054 (aZ 2 bG aF aL aS)).1=eP aL bG 2054 (aZ 2 bG aF aL aS):=by unfold aT;rw[if_neg (by decide),if_neg (by omega)]
 have hr:aJ JH=(⟨aL,bG,2054,iC (aZ 2 bG aF aL aS)⟩,0):=by
  unfold JH;rw[hw,he];exact fA _ _ _ _ (by decide) (by decide) hwl
 have hr2:bE (iC (aZ 2 bG aF aL aS))=(⟨2,bG,aF,aL,aS⟩,0):=gZ _ _ _ _ _ _ (.inr rfl) (by decide) (by decide)
 unfold St.frameP
 rw[hr]
 dsimp only
 rw[if_neg (by rintro(h|h);exact h rfl;exact h.1 hc.symm),if_pos rfl]
 unfold St.arpP
 rw[hr2]
 dsimp only
 rw[if_pos rfl]
 unfold St.arped
 rw[if_neg (fun h=>hl h.1)]
 have hq:s.asked ⟨2,bG,aF,aL,aS⟩=false:=by
  unfold St.asked
  simp
 dsimp only
 rw[hq,if_neg (by decide),ha,if_pos ⟨by decide,by decide⟩]
 have hf:oT s.cache aF=some (ntK du ak):=by rw[hk];rfl
 unfold St.learn
 dsimp only
 rw[hf]
 dsimp only
 rw[if_pos (show(ntK du ak).waits=[]from rfl)]
 show({s with cache:=bY s.cache aF fun _=>ntK (wrap64 (s.now+60)) 0}:St)=_
 rw[hk]
 rfl
theorem first_arp (b:Bzqq s) {ak:Int} {p:List UInt8} (hk:s.cache=[ntW du ak p]) (hp:p≠[]) (hx:s.tx=[uA]) (hl:g.lost≤2) (hn:g.n+2<4611686018427387904) (hh:h.sent+h.window≤2097152):
 ∃g',g'.n≤g.n+2∧g'.lost≤2∧Wa g' s∧((bTurns tw (F+2) s h g=some ({s with tx:=[]},h,g')∧g'.lost=g.els s+1)∨
  (bTurns tw (F+2) s h g=bTurns tw (F+1) {s with cache:=[ntK (wrap64 (s.now+60)) 0],tx:=[(aT bG aL 2048 p).1]} h g'∧g'.lost=g.els s)):=by
 obtain⟨s0,hs0⟩:∃s0:St,s0={s with tx:=[]}:=⟨_,rfl⟩
 have B0qq:Bzqq s0:=by rw[hs0];exact⟨b.card,b.crx,b.ctx,b.rx,b.lease,b.addr,b.mask,b.router,b.src,b.untl,b.phase,b.cm⟩
 have hk0:s0.cache=[ntW du ak p]:=by rw[hs0];exact hk
 have hx0:s0.tx=[]:=by rw[hs0]
 have hel:g.els s0=g.els s:=by rw[hs0];rfl
 have wOf:∀{g':CQ},Wa g' s0→Wa g' s:=fun w=>by rw[hs0]at w;exact⟨w.lease,w.phase,w.bytes,w.cached⟩
 obtain⟨g',b1,e,hn',hl2,w,hl'⟩:=gone_el g s0 hl
 have ecs:bTurns tw (F+2) s h g=match bGoes tw [uA] s0 h g with
  |none=>none
  |some (s,h,g)=>bTurns tw (F+1) s h g:=by rw[hs0];exact turns_cons (F+1) hx (by rw[hx];exact Nat.le_of_ble_eq_true rfl)
 rw[ecs,bGoes,if_pos ⟨HD,hh,Gj,by omega,by omega⟩]
 dsimp only
 rw[D9]
 dsimp only
 rw[if_pos ⟨rfl,Nat.le_of_ble_eq_true rfl⟩,e]
 dsimp only
 cases b1 with
 |true=>
  rw[if_pos rfl]at hl'⊢
  refine⟨g',by omega,hl2,wOf w,.inl ⟨?_,by omega⟩⟩
  rw[bGoes]
  dsimp only
  rw[turns_nil hx0,hs0]
 |false=>
  rw[if_neg (by decide)]at hl'⊢
  obtain⟨g2,b2,e',hn2,hl3,w',hl''⟩:=gone_el g' s0 (by omega)
  have hle:g'.els s0=g.els s0:=by rw[w.els];omega
  rw[comes_cons tw JH [] s0 g' B0qq.rx B0qq.crx Gv B0qq.cm (by omega) (by omega) e']
  cases b2 with
  |true=>
   rw[if_pos rfl]at hl''⊢
   refine⟨g2,by omega,hl3,wOf w',.inl ⟨?_,by omega⟩⟩
   rw[bComes]
   dsimp only
   rw[bGoes]
   dsimp only
   rw[turns_nil hx0,hs0]
  |false=>
   rw[if_neg (by decide)]at hl''⊢
   refine⟨g2,by omega,hl3,wOf w',.inr ⟨?_,by omega⟩⟩
   have key:∀bb,s0.hear bb JH={s with cache:=[ntK (wrap64 (s.now+60)) 0],tx:=[(aT bG aL 2048 p).1]}:=by
    intro bb
    have e1:∀r,({s0 with rx:=r}:St).hear1 JH={s with rx:=r,cache:=[ntK (wrap64 (s.now+60)) 0],tx:=[(aT bG aL 2048 p).1]}:=by
     intro r
     unfold St.hear1
     rw[show({s0 with rx:=r}:St).over=false from B0qq.ovr,if_neg (by decide),Fz (s:={s0 with rx:=r}) B0qq.card (by show s0.lease≠3;rw[B0qq.lease];decide) B0qq.adr hk0 hp (by show s0.tx.length≠s0.c.tx;rw[hx0,B0qq.ctx];decide),hs0]
     rfl
    have e0:s0={s0 with rx:=[]}:=(rx_nil B0qq.rx).symm
    have es:({s with rx:=[],cache:=[ntK (wrap64 (s.now+60)) 0],tx:=[(aT bG aL 2048 p).1]}:St)={s with cache:=[ntK (wrap64 (s.now+60)) 0],tx:=[(aT bG aL 2048 p).1]}:=by rw[←b.rx]
    unfold St.hear
    cases bb
    ·rw[if_neg (by decide)]
     have:=e1 []
     rw[rx_nil B0qq.rx]at this
     rw[this,es]
    ·rw[if_pos rfl,e1 [JH]]
     dsimp only
     rw[es]
     unfold St.hear1
     rw[show({s with cache:=[ntK (wrap64 (s.now+60)) 0],tx:=[(aT bG aL 2048 p).1]}:St).over=false from b.ovr,if_neg (by decide)]
     exact arp_again (s:={s with cache:=[ntK (wrap64 (s.now+60)) 0],tx:=[(aT bG aL 2048 p).1]}) b.card (by show s.lease≠3;rw[b.lease];decide) b.adr rfl
   rw[key,bComes]
   dsimp only
   rw[bGoes]
structure Rs (T:Int) (s:St) (g:CQ) (m:Nat):Prop where
 tx:s.tx=[]
 now:s.now=T
 t0:0≤T
 lost:g.lost≤2
 ts:1≤s.tsends∧s.tsends≤1+g.e1 s∧T<s.tagain∧s.tagain≤T+9
 m9:m≤9
 ch:((s.cache=[]∨∃du,s.cache=[ntK du 0])∧s.tagain≤T+m)∨
  ∃(a:Nat) (du:Int) (p:List UInt8),s.cache=[ntW du a p]∧pKqq s p∧1≤a∧a≤2∧a≤g.e1 s∧T<du∧du≤T+2∧du≤T+m∧(s.tsends=2→du-2*a+3≤s.tagain)∧(s.tsends=3→du-2*a+7≤s.tagain)
def Tock (tw F:Nat) (T:Int) (s s2:St) (h:aK) (g:CQ) (m:Nat):Prop:=
 (∃s' g' m',bTurns tw F s2 h g=some (s',h,g')∧Tk s s'∧Rs T s' g' m'∧g'.n≤g.n+2∧wNqq s'+s.tsends≤wNqq s+s'.tsends∧((g'.e1 s'=g.e1 s∧m'+1≤m)∨g'.e1 s'=g.e1 s+1))∨
 (∃s1 g1 f du F1,bTurns tw F s2 h g=bTurns tw F1 s1 h g1∧F≤F1+1∧F1≤F∧Tk s s1∧s1.tx=[f]∧fKqq s f∧s1.cache=[ntK du 0]∧Pb T s1 g1∧g1.els s1=g.e1 s∧g1.n≤g.n+2∧s.tsends+1≤wNqq s+s1.tsends)
theorem arp_tock {a:Nat} {p:List UInt8} {u:St} (b:Bzqq s) (z:Tk s u) (hk:u.cache=[ntW (T+2) a p]) (hp:pKqq s p) (hx:u.tx=[uA]) (hun:u.now=T) (t0:0≤T) (t1:T≤1000000) (hl:g.lost≤2) (hn:g.n+2<4611686018427387904) (hh:h.sent+h.window≤2097152) (ha1:1≤a) (ha:a≤g.e1 s+1)
 (h1:1≤u.tsends) (h2:u.tsends≤2+g.e1 s) (h3:T<u.tagain) (h4:u.tsends≤3→u.tagain≤T+9) (h5:u.tsends=2→T+2-2*a+3≤u.tagain) (h6:u.tsends=3→T+2-2*a+7≤u.tagain) (hw:s.tsends+1≤wNqq s+u.tsends):
 Tock tw (F+2) T s u h g m:=by
 have bu:=b.tk z
 obtain⟨i,hi,ep⟩:=hp
 have eu:g.els u=g.e1 s:=by rw[els1 (by rw[hk];rfl),z.e1]
 obtain⟨g',e1,e2,e3,e4⟩:=first_arp (tw:=tw) (F:=F) (h:=h) (g:=g) bu hk (by rw[ep];exact Ii) hx hl hn hh
 rw[eu]at e4
 have e5:=e3.els
 rcases e4 with⟨e4,e6⟩|⟨e4,e6⟩
 ·left
  have hz:Tk s {u with tx:=[]}:=⟨z.c,z.rx,z.lease,z.addr,z.mask,z.router,z.source,z.untl,z.phase,z.port,z.peer,z.block,z.wind,z.next,z.came,z.image,z.goal,z.last⟩
  have q:g'.e1 {u with tx:=[]}=g.e1 s+1:=by
   have x1:g'.e1 {u with tx:=[]}=g'.e1 u:=rfl
   have x2:=els1 (g:=g') (s:=u) (by rw[hk];rfl)
   omega
  have hwu:wNqq {u with tx:=[]}=1:=by unfold wNqq;show(u.cache.filter _).length=1;rw[hk];rfl
  refine⟨_,g',2,e4,hz,⟨rfl,hun,t0,e2,⟨h1,by show u.tsends≤_;omega,h3,h4 (by omega)⟩,by decide,.inr ⟨a,T+2,p,hk,hz.pK ⟨i,hi,ep⟩,ha1,by omega,by omega,by omega,by omega,by omega,h5,h6⟩⟩,e1,by rw[hwu];show 1+s.tsends≤wNqq s+u.tsends;omega,.inr q⟩
 ·right
  have hw6:wrap64 (u.now+60)=T+60:=by rw[hun];exact IntWalk.wrap64_in _ ⟨by omega,by omega⟩
  refine⟨_,g',_,_,F+1,e4,by omega,by omega,⟨z.c,z.rx,z.lease,z.addr,z.mask,z.router,z.source,z.untl,z.phase,z.port,z.peer,z.block,z.wind,z.next,z.came,z.image,z.goal,z.last⟩,rfl,⟨i,hi,by rw[ep];rfl⟩,rfl,?_,?_,e1,hw⟩
  ·have q:g'.els {u with cache:=[ntK (wrap64 (u.now+60)) 0],tx:=[(aT bG aL 2048 p).1]}=g'.els u:=by
    unfold CQ.els
    show g'.el u.lease u.phase u.image.length 1=g'.el u.lease u.phase u.image.length u.cache.length
    rw[hk];rfl
   refine⟨bu.rx,hun,t0,t1,e2,⟨h1,?_,by show u.now<u.tagain;omega,fun x=>by show u.tagain≤u.now+9;have:=h4 x;omega⟩⟩
   rw[q];show u.tsends≤_;omega
  ·have q:g'.els {u with cache:=[ntK (wrap64 (u.now+60)) 0],tx:=[(aT bG aL 2048 p).1]}=g'.els u:=by
    unfold CQ.els
    show g'.el u.lease u.phase u.image.length 1=g'.el u.lease u.phase u.image.length u.cache.length
    rw[hk];rfl
   rw[q];omega
theorem leases4 (hl:s.lease=4) (hu:s.untl=0):s.leases=s:=by
 unfold St.leases
 rw[if_neg (by omega),if_neg (by omega),if_neg (by omega),if_pos hu]
theorem pow_le3 {a:Nat} (h0:1≤a) (h:a≤3):∃P:Int,(2:Int)^a=P∧((a=1∧P=2)∨(a=2∧P=4)∨(a=3∧P=8)):=by
 match a,h0,h with
 |1,_,_=>exact⟨2,rfl,.inl ⟨rfl,rfl⟩⟩
 |2,_,_=>exact⟨4,rfl,.inr (.inl ⟨rfl,rfl⟩)⟩
 |3,_,_=>exact⟨8,rfl,.inr (.inr ⟨rfl,rfl⟩)⟩
 |a+4,_,h=>omega
theorem tick_gen (b:Bzqq s) (R:Rs T s g m) (t1:T+1≤1000000) (hn:g.n+2<4611686018427387904) (hh:h.sent+h.window≤2097152):Tock tw (F+2) (T+1) s (s.tick d) h g m:=by
 obtain⟨rtx,rnow,rt0,rlost,⟨r1,r2,r3,r4⟩,rm9,rch⟩:=R
 have he1:=g.e1_le s
 have hwn:wrap64 (s.now+1)=T+1:=by rw[rnow];exact IntWalk.wrap64_in _ ⟨by omega,by omega⟩
 obtain⟨u,hu⟩:∃u:St,u={s with now:=T+1,draw:=d}:=⟨_,rfl⟩
 have zu:Tk s u:=by rw[hu];exact⟨rfl,rfl,rfl,rfl,rfl,rfl,rfl,rfl,rfl,rfl,rfl,rfl,rfl,rfl,rfl,rfl,rfl,rfl⟩
 have bu:=b.tk zu
 have un:u.now=T+1:=by rw[hu]
 have ux:u.tx=[]:=by rw[hu];exact rtx
 have uc:u.cache=s.cache:=by rw[hu]
 have uts:u.tsends=s.tsends:=by rw[hu]
 have utg:u.tagain=s.tagain:=by rw[hu]
 have etk:s.tick d=u.neighbours.leases.again:=by
  unfold St.tick
  rw[hwn]
  dsimp only
  rw[←hu,bu.ovr,if_neg (by decide)]
 rw[etk]
 have hts3:s.tsends≤3:=by omega
 obtain⟨P,hP,hPc⟩:=pow_le3 r1 hts3
 rcases rch with⟨hc,hm⟩|⟨a,du,p,hc,hp,a1,a2,a3,d1,d2,d3,d4,d5⟩
 ·
  have hv:∃v:St,u.neighbours=v∧Tk s v∧v.now=T+1∧v.tx=[]∧v.tsends=s.tsends∧v.tagain=s.tagain∧(v.cache=[]∨∃du,v.cache=[ntK du 0]):=by
   rcases hc with hc|⟨du,hc⟩
   ·exact⟨u,HZ (uc.trans hc),zu,un,ux,uts,utg,.inl (uc.trans hc)⟩
   ·refine⟨_,neighK (uc.trans hc),⟨zu.c,zu.rx,zu.lease,zu.addr,zu.mask,zu.router,zu.source,zu.untl,zu.phase,zu.port,zu.peer,zu.block,zu.wind,zu.next,zu.came,zu.image,zu.goal,zu.last⟩,un,ux,uts,utg,?_⟩
    by_cases hh:u.now<du
    ·exact .inr ⟨du,if_pos hh⟩
    ·exact .inl (if_neg hh)
  have hws:wNqq s=0:=by rcases hc with hc|⟨du,hc⟩<;>unfold wNqq<;>rw[hc]<;>rfl
  obtain⟨v,ev,zv,vn,vx,vts,vtg,vc⟩:=hv
  have bv:=b.tk zv
  rw[ev,leases4 bv.lease bv.untl]
  have vpK:∀{p},pKqq v p→pKqq s p:=fun⟨i,hi,e⟩=>⟨i,hi,by rw[e,zv.source,zv.port,zv.goal,zv.last]⟩
  obtain⟨t,et,zt,tn,ht⟩:=again_out bv vn (by omega) (by omega) (by omega) (by rw[vx];exact Nat.zero_le _) (by rcases vc with x|x;exact .inl x;exact .inr (.inl x))
  rw[et]
  have z2:=zv.trans zt
  rcases ht with⟨⟨n1,n2,n3⟩,tx,tc⟩|⟨⟨f1,f2,f3,f4⟩,ht⟩
  ·left
   have q:=z2.e1 (g:=g)
   have htc:t.cache=[]∨∃du,t.cache=[ntK du 0]:=by rw[tc];exact vc
   have hwt:wNqq t=0:=by rcases htc with hc|⟨du,hc⟩<;>unfold wNqq<;>rw[hc]<;>rfl
   exact⟨t,g,m-1,turns_nil (tx.trans vx),z2,⟨tx.trans vx,tn.trans vn,by omega,rlost,⟨by omega,by omega,by omega,by omega⟩,by omega,.inl ⟨htc,by omega⟩⟩,by omega,by omega,.inl ⟨q,by omega⟩⟩
  ·rw[vts,hP]at f3 f4
   rcases ht with⟨du,k1,k2,f,k3,k4⟩|⟨k1,k2,p,k3,k4⟩|⟨du,ak,p0,k1,_⟩
   ·right
    have hel:g.els t=g.e1 s:=by rw[els1 (by rw[k2,k1];rfl),z2.e1]
    refine⟨t,g,f,du,F+2,rfl,by omega,Nat.le_refl _,z2,by rw[k4,vx];rfl,zv.fK k3,by rw[k2,k1],⟨z2.rx.trans b.rx,tn.trans vn,by omega,t1,rlost,⟨by omega,by omega,?_,fun x=> ?_⟩⟩,hel,by omega,by omega⟩
    ·rw[tn,vn];omega
    ·rw[tn,vn];omega
   ·have hel:=he1
    refine arp_tock b z2 (a:=1) k4 (vpK k3) (by rw[k2,vx];rfl) (tn.trans vn) (by omega) t1 rlost hn hh (Nat.le_refl _) (by omega) (by omega) (by omega) ?_ (fun x=> ?_) (fun x=> ?_) (fun x=> ?_) (by omega)
    ·omega
    ·omega
    ·omega
    ·omega
   ·rcases vc with x|⟨_,x⟩<;>(rw[x]at k1;cases k1)
 ·
  have hws:wNqq s=1:=by unfold wNqq;rw[hc];rfl
  have ha3:(a:Int)≠3:=fun h=>by
   have h':a=3:=Int.ofNat.inj h
   rw[h']at a2;exact absurd a2 (by decide)
  have hC:(s.tsends=1∧P=2)∨(s.tsends=2∧P=4∧du-2*a+3≤s.tagain)∨(s.tsends=3∧P=8∧du-2*a+7≤s.tagain):=by
   rcases hPc with x|x|x
   ·exact .inl x
   ·exact .inr (.inl ⟨x.1,x.2,d4 x.1⟩)
   ·exact .inr (.inr ⟨x.1,x.2,d5 x.1⟩)
  clear hPc d4 d5
  by_cases hdue:T+1<du
  ·rw[neighW0 (uc.trans hc) (by rw[un];exact hdue),leases4 bu.lease bu.untl]
   have vpK:∀{p},pKqq u p→pKqq s p:=fun⟨i,hi,e⟩=>⟨i,hi,by rw[e,zu.source,zu.port,zu.goal,zu.last]⟩
   obtain⟨t,et,zt,tn,ht⟩:=again_out bu un (by omega) (by omega) (by omega) (by rw[ux];exact Nat.zero_le _) (.inr (.inr ⟨du,a,p,uc.trans hc⟩))
   rw[et]
   have z2:=zu.trans zt
   left
   have q:=z2.e1 (g:=g)
   have hout:∃p',pKqq s p'∧t.cache=[ntW du a p']∧t.tx=[]∧((T+1<s.tagain∧t.tsends=s.tsends∧t.tagain=s.tagain)∨(s.tagain≤T+1∧t.tsends=s.tsends+1∧T+1+2*2^s.tsends-1≤t.tagain∧t.tagain≤T+1+2*2^s.tsends+1)):=by
    rcases ht with⟨⟨n1,n2,n3⟩,tx,tc⟩|⟨⟨f1,f2,f3,f4⟩,ht⟩
    ·exact⟨p,hp,tc.trans (uc.trans hc),tx.trans ux,.inl ⟨by omega,by omega,by omega⟩⟩
    ·rw[uts]at f3 f4
     rcases ht with⟨du',k1,_⟩|⟨k1,_⟩|⟨du',ak,p0,k1,k2,p',k3,k4⟩
     ·rw[uc.trans hc]at k1;cases k1
     ·rw[uc.trans hc]at k1;cases k1
     ·rw[uc.trans hc]at k1
      simp only[List.cons.injEq,ntW,bD.mk.injEq,and_true,true_and]at k1
      obtain⟨rfl,rfl,rfl⟩:=k1
      exact⟨p',vpK k3,k4,k2.trans ux,.inr ⟨by omega,by omega,f3,f4⟩⟩
   obtain⟨p',hp',tc,tx,hto⟩:=hout
   have hwt:wNqq t=1:=by unfold wNqq;rw[tc];rfl
   rw[hP]at hto
   refine⟨t,g,m-1,turns_nil tx,z2,⟨tx,tn.trans un,by omega,rlost,?_,by omega,.inr ⟨a,du,p',tc,z2.pK hp',a1,a2,by omega,hdue,by omega,by omega,?_,?_⟩⟩,by omega,by omega,.inl ⟨q,by omega⟩⟩
   ·rcases hto with⟨x1,x2,x3⟩|⟨x1,x2,x3,x4⟩
    ·exact⟨by omega,by omega,by omega,by omega⟩
    ·rcases hC with⟨z0,rfl⟩|⟨z0,rfl,z1⟩|⟨z0,rfl,z1⟩<;>exact⟨by omega,by omega,by omega,by omega⟩
   ·intro x
    rcases hto with⟨x1,x2,x3⟩|⟨x1,x2,x3,x4⟩<;>rcases hC with⟨z0,rfl⟩|⟨z0,rfl,z1⟩|⟨z0,rfl,z1⟩<;>omega
   ·intro x
    rcases hto with⟨x1,x2,x3⟩|⟨x1,x2,x3,x4⟩<;>rcases hC with⟨z0,rfl⟩|⟨z0,rfl,z1⟩|⟨z0,rfl,z1⟩<;>omega
  ·have hdu:du=T+1:=by omega
   have ew1:wrap64 (du+2)=T+1+2:=by rw[hdu];exact IntWalk.wrap64_in _ ⟨by omega,by omega⟩
   have ew2:wrap64 ((a:Int)+1)=((a+1:Nat):Int):=by rw[IntWalk.wrap64_in _ ⟨by omega,by omega⟩];omega
   have hnd:¬u.now<du:=by rw[un];exact hdue
   have en:=neighW (s:=u) (du:=du) (ak:=(a:Int)) (p:=p) (uc.trans hc) ha3 bu.adr bu.card ux bu.ctx hnd
   rw[ew1,ew2]at en
   clear ew1 ew2 hwn
   obtain⟨v,hv⟩:∃v:St,v={u with cache:=[ntW (T+1+2) ((a+1:Nat):Int) p],tx:=[uA]}:=⟨_,rfl⟩
   rw[←hv]at en
   have zv:Tk s v:=by rw[hv];exact⟨zu.c,zu.rx,zu.lease,zu.addr,zu.mask,zu.router,zu.source,zu.untl,zu.phase,zu.port,zu.peer,zu.block,zu.wind,zu.next,zu.came,zu.image,zu.goal,zu.last⟩
   have vn:v.now=T+1:=by rw[hv];exact un
   have vx:v.tx=[uA]:=by rw[hv]
   have vc:v.cache=[ntW (T+1+2) ((a+1:Nat):Int) p]:=by rw[hv]
   have vts:v.tsends=s.tsends:=by rw[hv];exact uts
   have vtg:v.tagain=s.tagain:=by rw[hv];exact utg
   have bv:=b.tk zv
   have vpK:∀{p},pKqq v p→pKqq s p:=fun⟨i,hi,e⟩=>⟨i,hi,by rw[e,zv.source,zv.port,zv.goal,zv.last]⟩
   rw[en,leases4 bv.lease bv.untl]
   obtain⟨t,et,zt,tn,ht⟩:=again_out bv vn (by omega) (by omega) (by omega) (by rw[vx];exact Nat.le_refl _) (.inr (.inr ⟨_,_,p,vc⟩))
   rw[et]
   have z2:=zv.trans zt
   have hout:∃p',pKqq s p'∧t.cache=[ntW (T+1+2) ((a+1:Nat):Int) p']∧t.tx=[uA]∧((T+1<s.tagain∧t.tsends=s.tsends∧t.tagain=s.tagain)∨(s.tagain≤T+1∧t.tsends=s.tsends+1∧T+1+2*2^s.tsends-1≤t.tagain∧t.tagain≤T+1+2*2^s.tsends+1)):=by
    rcases ht with⟨⟨n1,n2,n3⟩,tx,tc⟩|⟨⟨f1,f2,f3,f4⟩,ht⟩
    ·exact⟨p,hp,tc.trans vc,tx.trans vx,.inl ⟨by omega,by omega,by omega⟩⟩
    ·rw[vts]at f3 f4
     rcases ht with⟨du',k1,_⟩|⟨k1,_⟩|⟨du',ak,p0,k1,k2,p',k3,k4⟩
     ·rw[vc]at k1;cases k1
     ·rw[vc]at k1;cases k1
     ·rw[vc]at k1
      simp only[List.cons.injEq,ntW,bD.mk.injEq,and_true,true_and]at k1
      obtain⟨rfl,rfl,rfl⟩:=k1
      exact⟨p',vpK k3,k4,k2.trans vx,.inr ⟨by omega,by omega,f3,f4⟩⟩
   obtain⟨p',hp',tc,tx,hto⟩:=hout
   rw[hP]at hto
   refine arp_tock b z2 (a:=a+1) tc hp' tx (tn.trans vn) (by omega) t1 rlost hn hh (by omega) (by omega) ?_ ?_ ?_ ?_ ?_ ?_ ?_
   all_goals rcases hto with⟨x1,x2,x3⟩|⟨x1,x2,x3,x4⟩<;>rcases hC with⟨z0,rfl⟩|⟨z0,rfl,z1⟩|⟨z0,rfl,z1⟩
   all_goals first|omega|(intro x;omega)
end
end Go.Proofs.YtcbkaiakdhiloacGreatDoor
namespace Go.Proofs.YtcbkaiakdhiloacGreatDoor
open Go.RowKit Go.Proofs
structure Inv1 (c:JG) (im:List UInt8) (nx pt:Nat) (o:Bool) (T:Int) (s:St) (h:aK) (g:CQ) (μ m:Nat):Prop where
 a:Aqqq c nx pt s
 rx:s.rx=[]
 ha:Ha im nx o h
 port:h.port+wNqq s≤s.tsends
 whn:h.whn≤T
 rs:Rs T s g m
 mu:μ+10*g.e1 s=m+15050
structure Inv2 (c:JG) (y:Way) (im:List UInt8) (T:Int) (s:St) (h:aK) (g:CQ) (μ m k:Nat):Prop where
 x:Cxqq c y im
 l:Lqqq c y im k s
 rx:s.rx=[]
 goal:s.goal=y.pe
 last:s.last=sJ (k%65536)
 hq:Hq y im k h
 whn:h.whn≤T
 rs:Rs T s g m
 mu:μ+10*(3*k+g.e1 s)=m+15020
def InvA (c:JG) (im:List UInt8) (nx pt:Nat) (o:Bool) (T:Int) (s:St) (h:aK) (g:CQ) (μ:Nat):Prop:=(∃m,Inv1 c im nx pt o T s h g μ m)∨∃y m k,Inv2 c y im T s h g μ m k
def NextB (c:JG) (im:List UInt8) (nx pt:Nat) (o:Bool) (T:Int) (N:Nat) (μ:Nat) (r:Option (St×aK×CQ)):Prop:=
 ∃s' h' g',r=some (s',h',g')∧g'.n≤N∧((s'.phase=3∧s'.image=im)∨∃μ',μ'<μ∧InvA c im nx pt o T s' h' g' μ')
section
variable {c:JG} {y:Way} {im:List UInt8} {nx pt tw F d μ m k N:Nat} {o:Bool} {s t:St} {h:aK} {g:CQ} {du T:Int}
theorem Lqqq.bz (L:Lqqq c y im k s) (X:Cxqq c y im) (hr:s.rx=[]):Bzqq s:=⟨by rw[L.c];exact X.card,by rw[L.c];exact X.rx,by rw[L.c];exact X.tx,hr,L.lease,L.addr,L.mask,L.router,by rw[L.src];exact X.nx,L.untl,.inr L.phase,L.cm X⟩
theorem Aqqq.bz (A:Aqqq c nx pt s) (C:Cqqq c) (hnx:nx=aF∨nx=hFar) (hr:s.rx=[]):Bzqq s:=⟨by rw[A.cc];exact C.card,by rw[A.cc];exact C.rx,by rw[A.cc];exact C.tx,hr,A.lease,A.addr,A.mask,A.router,by rw[A.src];exact hnx,A.untl,.inl A.phase,A.cm⟩
theorem wN0 (hk:s.cache=[ntK du 0]):wNqq s=0:=by unfold wNqq;rw[hk];rfl
theorem So.inv (S:So c y im du T k s g) (X:Cxqq c y im) (hx:s.tx=[]) (q:Hq y im k h) (hw:h.whn≤T) {e:Nat} (he:k=nbK y im∨e≤3*k+g.els s) (hμ:15030≤μ+10*e):(s.phase=3∧s.image=im)∨∃μ',μ'<μ∧InvA c im nx pt o T s h g μ':=by
 rcases S.m with⟨L,hk,hg,hl⟩|⟨_,_,h3,hi⟩
 ·right
  have hkn:=L.kn
  have hnb:=nbK_le X
  have hel:=els1 (g:=g) (s:=s) (by rw[hk];rfl)
  have hee:=g.els_le s
  have hlo:=S.lost
  have hts:=S.ts.resolve_left (by omega)
  have hno:=S.now
  have he':=he.resolve_left (by omega)
  refine⟨9+15020-10*(3*k+g.e1 s),by omega,.inr ⟨y,9,k,X,L,S.rx,hg,hl,q,hw,⟨hx,S.now,S.t0,S.lost,⟨hts.1,by omega,by omega,by omega⟩,Nat.le_refl _,.inl ⟨.inr ⟨du,hk⟩,by omega⟩⟩,by omega⟩⟩
 ·exact .inl ⟨h3,hi⟩
theorem lvN_new (hw:h.whn≤T):lvN {h with now:=T+1}=0:=by
 unfold lvN
 rw[if_neg (by show ¬h.whn=T+1;omega)]
theorem next2 (I:Inv2 c y im T s h g μ m k) (t1:T+1≤1000000) (hF:600≤F) (hN:g.n+144*F+10<4611686018427387904):NextB c im nx pt o (T+1) (g.n+144*F+2) μ (bTurns tw F (s.tick d) {h with now:=T+1} g):=by
 obtain⟨X,L,hrx,hgo,hla,q,hw,R,hμ⟩:=I
 obtain⟨F,rfl⟩:∃F',F=F'+2:=⟨F-2,by omega⟩
 have q':Hq y im k {h with now:=T+1}:=⟨⟨q.o.image,q.o.next,q.o.port,q.o.block,q.o.window⟩,q.le,q.near⟩
 have hnb:=nbK_le X
 have hkn:=L.kn
 have hw8:=X.ok.wd2
 have hsn:h.sent+h.window≤2097152:=by rw[q.o.window];have:=q.le;omega
 have hlv:=lvN_new hw
 have he1:=g.e1_le s
 have hlo:=R.lost
 have hm9:=R.m9
 rcases tick_gen (tw:=tw) (F:=F) (d:=d) (h:={h with now:=T+1}) (L.bz X hrx) R t1 (by omega) hsn with⟨s',g',m',e,z,R',hn',_,hc⟩|⟨s1,g1,f,du,F1,e,hF1,hF2,z,hx,⟨i,hi,ef⟩,hk,P,hel,hn1,_⟩
 ·have e1':=g'.e1_le s'
  have l1':=R'.lost
  have m9':=R'.m9
  refine⟨s',_,g',e,by omega,.inr ⟨m'+15020-10*(3*k+g'.e1 s'),by rcases hc with⟨x,z⟩|x<;>omega,.inr ⟨y,m',k,X,L.tk z,z.rx.trans hrx,z.goal.trans hgo,z.last.trans hla,q',by show h.whn≤T+1;omega,R',by omega⟩⟩⟩
 ·have ef':f=Js y i (k%65536):=by rw[ef,L.src,L.port,hgo,hla];rfl
  rw[ef']at hx
  rw[e]
  obtain⟨s2,h2,g2,k2,e2,S,hx2,o2,hno,hwn,hk2,hn2,hR⟩:=first_ack (tw:=tw) (F:=F1) X (L.tk z) (z.goal.trans hgo) (z.last.trans hla) hk P hx hi q' (by omega) (by omega) (by omega)
  have hw2:h2.whn≤T+1:=by
   rcases hwn with x|x
   ·rw[x];show h.whn≤_;omega
   ·rw[x];exact Int.le_refl _
  refine⟨s2,h2,g2,e2,by omega,S.inv X hx2 o2 hw2 (e:=3*k+g.e1 s+1) ?_ (by omega)⟩
  rcases hR with x|x
  ·exact .inl x
  ·exact .inr (by omega)
theorem tock_next1 {s2:St} (A:Aqqq c nx pt s) (C:Cqqq c) (hnx:nx=aF∨nx=hFar) (hpt:pt<65536) (hpt8:pt≠68) (hsh:sha im=c.digest) (hlen:im.length<4000) (hrx:s.rx=[]) (H:Ha im nx o h) (hpo:h.port+wNqq s≤s.tsends) (hw:h.whn≤T) (hnow:h.now=T) (hm9:m≤9) (hlo:g.lost≤2) (hμ:m+15050≤μ+10*g.e1 s) (hF:600≤F) (hN:g.n+144*F+10<4611686018427387904)
 (K:Tock tw F T s s2 h g m):NextB c im nx pt o T (g.n+144*F+2) μ (bTurns tw F s2 h g):=by
 have hs1:=H.sent
 have hs2:=H.window
 have he1:=g.e1_le s
 rcases K with⟨s',g',m',e,z,R',hn',hwn',hc⟩|⟨s1,g1,f,du,F1,e,hF1,hF2,z,hx,⟨i,hi,ef⟩,hk,P,hel,hn1,hwn1⟩
 ·have e1':=g'.e1_le s'
  have l1':=R'.lost
  have m9':=R'.m9
  refine⟨s',_,g',e,by omega,.inr ⟨m'+15050-10*g'.e1 s',by rcases hc with⟨x,z⟩|x<;>omega,.inl ⟨m',A.tk z,z.rx.trans hrx,H,by omega,hw,R',by omega⟩⟩⟩
 ·have A1:=A.tk z
  have ef':f=mFqq nx pt i 69 (rrqB c):=by rw[ef,A.src,A.port,A.goal,A.last]
  rw[ef']at hx
  rw[e]
  rcases first_ask (tw:=tw) (F:=F1) o C hnx hpt hpt8 hsh hlen A1 hk P hx hi H (by omega) (by omega) (by omega)with⟨h2,g2,e2,H2,hp2,hn2,hw2,hl2,w2,hl2',hgn⟩|⟨y,s2,h2,g2,k2,e2,X,S,hx2,o2,hno,hwn,hgn⟩
  ·have Pts:=P.ts
   have Pn:=P.now
   have q:g2.e1 {s1 with tx:=[]}=g2.lost:=by
    have x1:g2.e1 {s1 with tx:=[]}=g2.e1 s1:=rfl
    have x2:=els1 (g:=g2) (s:=s1) (by rw[hk];rfl)
    have x3:=w2.els
    omega
   refine⟨_,h2,g2,e2,by omega,.inr ⟨9+15050-10*g2.lost,by omega,.inl ⟨9,A1.txAs [],by show s1.rx=[];exact P.rx,H2,?_,?_,⟨rfl,P.now,P.t0,hl2,⟨Pts.1,?_,?_,?_⟩,Nat.le_refl _,.inl ⟨.inr ⟨du,hk⟩,?_⟩⟩,by omega⟩⟩⟩
   ·have:wNqq {s1 with tx:=[]}=0:=wN0 (du:=du) hk
    rw[this];show h2.port+0≤s1.tsends;omega
   ·rw[hw2];exact hw
   ·rw[q];show s1.tsends≤_;omega
   ·show T<s1.tagain;omega
   ·have:=Pts.2.2.2 (by omega);show s1.tagain≤_;omega
   ·have:=Pts.2.2.2 (by omega);show s1.tagain≤_;omega
  ·have hw2:h2.whn≤T:=by
    rcases hwn with x|x
    ·rw[x];exact hw
    ·rw[x,hnow];exact Int.le_refl _
   exact⟨s2,h2,g2,e2,by omega,S.inv X hx2 o2 hw2 (e:=0) (.inr (Nat.zero_le _)) (by omega)⟩
theorem next1 (I:Inv1 c im nx pt o T s h g μ m) (C:Cqqq c) (hnx:nx=aF∨nx=hFar) (hpt:pt<65536) (hpt8:pt≠68) (hsh:sha im=c.digest) (hlen:im.length<4000) (t1:T+1≤1000000) (hF:600≤F) (hN:g.n+144*F+10<4611686018427387904):NextB c im nx pt o (T+1) (g.n+144*F+2) μ (bTurns tw F (s.tick d) {h with now:=T+1} g):=by
 obtain⟨A,hrx,H,hpo,hw,R,hμ⟩:=I
 have hs1:=H.sent
 have hs2:=H.window
 obtain⟨F,rfl⟩:∃F',F=F'+2:=⟨F-2,by omega⟩
 exact tock_next1 A C hnx hpt hpt8 hsh hlen hrx (h:={h with now:=T+1}) ⟨H.image,H.next,H.options,H.port,H.sent,H.window⟩ hpo (by show h.whn≤_;omega) rfl R.m9 R.lost (Nat.le_of_eq hμ.symm) hF hN (tick_gen (A.bz C hnx hrx) R t1 (by omega) (by show h.sent+h.window≤_;omega))
end
end Go.Proofs.YtcbkaiakdhiloacGreatDoor
namespace Go.Proofs.YtcbkaiakdhiloacGreatDoor
open Go.RowKit Go.Proofs
structure Dqqq (c:JG) (ls:Nat) (s:St):Prop where
 cc:s.c=c
 rx:s.rx=[]
 lease:s.lease=ls
 phase:s.phase=0
 cache:s.cache=[]
 image:s.image=[]
 xid:s.xid<4294967296
 adr:ls=2→s.addr=aS∧s.server=aF
structure Hn (im:List UInt8) (nx:Nat) (o:Bool) (h:aK):Prop where
 image:h.image=im
 lease:h.lease=4294967295
 next:h.next=nx
 options:h.options=o
 port:h.port=0
 sent:h.sent=0
 window:h.window=0
structure D3q (c:JG) (nx:Nat) (s:St):Prop where
 cc:s.c=c
 rx:s.rx=[]
 lease:s.lease=3
 phase:s.phase=0
 cache:s.cache=[]
 image:s.image=[]
 addr:s.addr=aS
 mask:s.mask=4294967040
 router:s.router=aF
 src:s.source=nx
 untl:s.untl=0
section
variable {c:JG} {im ld a f:List UInt8} {nx pt tw F d μ m i ls N:Nat} {o:Bool} {s t:St} {h h1:aK} {g:CQ} {T:Int}
theorem turn_single (hx:s.tx=[f]) (hfl:f.length≤1048576) (hnum:qC f=true) (ea:h.answer f=(h1,[a],true)) (hal:a.length≤1048576) (hrx:s.rx=[]) (hcr:s.c.rx=16) (hcm:s.Cm) (hl:g.lost≤2) (hn:g.n+2<4611686018427387904) (hh:h.sent+h.window≤2097152):
 ∃g',g'.n≤g.n+2∧g'.lost≤2∧Wa g' s∧((bTurns tw (F+2) s h g=some ({s with tx:=[]},h1,g')∧g'.lost=g.els s+1)∨
  (∃b,bTurns tw (F+2) s h g=bTurns tw (F+1) (({s with tx:=[]}:St).hear b a) h1 g'∧g'.lost=g.els s)):=by
 obtain⟨s0,hs0⟩:∃s0:St,s0={s with tx:=[]}:=⟨_,rfl⟩
 have hx0:s0.tx=[]:=by rw[hs0]
 have hrx0:s0.rx=[]:=by rw[hs0];exact hrx
 have hcr0:s0.c.rx=16:=by rw[hs0];exact hcr
 have hcm0:s0.Cm:=by rw[hs0];exact hcm
 have hel:g.els s0=g.els s:=by rw[hs0];rfl
 have wOf:∀{g':CQ},Wa g' s0→Wa g' s:=fun w=>by rw[hs0]at w;exact⟨w.lease,w.phase,w.bytes,w.cached⟩
 obtain⟨g',b1,e,hn',hl2,w,hl'⟩:=gone_el g s0 hl
 have ecs:bTurns tw (F+2) s h g=match bGoes tw [f] s0 h g with
  |none=>none
  |some (s,h,g)=>bTurns tw (F+1) s h g:=by rw[hs0];exact turns_cons (F+1) hx (by rw[hx];exact Nat.le_of_ble_eq_true rfl)
 rw[ecs,bGoes,if_pos ⟨hfl,hh,hnum,by omega,by omega⟩]
 dsimp only
 rw[ea]
 dsimp only
 rw[if_pos ⟨rfl,Nat.le_of_ble_eq_true rfl⟩,e]
 dsimp only
 cases b1 with
 |true=>
  rw[if_pos rfl]at hl'⊢
  refine⟨g',by omega,hl2,wOf w,.inl ⟨?_,by omega⟩⟩
  rw[bGoes]
  dsimp only
  rw[turns_nil hx0,hs0]
 |false=>
  rw[if_neg (by decide)]at hl'⊢
  obtain⟨g2,b2,e',hn2,hl3,w',hl''⟩:=gone_el g' s0 (by omega)
  have hle:g'.els s0=g.els s0:=by rw[w.els];omega
  rw[comes_cons tw a [] s0 g' hrx0 hcr0 hal hcm0 (by omega) (by omega) e']
  cases b2 with
  |true=>
   rw[if_pos rfl]at hl''⊢
   refine⟨g2,by omega,hl3,wOf w',.inl ⟨?_,by omega⟩⟩
   rw[bComes]
   dsimp only
   rw[bGoes]
   dsimp only
   rw[turns_nil hx0,hs0]
  |false=>
   rw[if_neg (by decide)]at hl''⊢
   refine⟨g2,by omega,hl3,wOf w',.inr ⟨decide (0<tw∧g2.n%tw=0),?_,by omega⟩⟩
   rw[bComes]
   dsimp only
   rw[bGoes,hs0]
theorem Dqqq.ovr (D:Dqqq c ls s):s.over=false:=by unfold St.over;rw[D.phase];rfl
theorem Dqqq.cm (D:Dqqq c ls s):s.Cm:=fun x=>by rw[D.phase]at x;rcases x with x|x<;>cases x
theorem say_all {kind:UInt8} {os:List bK} {w:St} (hc:w.c.card=aL) (h16:w.c.tx=16) (hx:w.tx=[]) (hl:w.lease<4):w.say kind false os={w with id:=w.id+1,tx:=[dhF lE (w.id%65536) 0 4294967295 (w.msg kind os)]}:=by
 have had:w.address=0:=by unfold St.address;rw[if_neg (by omega)]
 unfold St.say
 rw[if_neg (by decide),iX (u:=w.took) (by show w.tx.length≠w.c.tx;rw[hx,h16];decide)]
 have e2:(aT lE w.took.c.card 2048 (w.packet 4294967295 68 67 (w.msg kind os))).1=dhF lE (w.id%65536) 0 4294967295 (w.msg kind os):=by
  show(aT lE w.c.card 2048 (vC (w.id%65536) 64 17 w.address 4294967295 (jC 68 67 w.address 4294967295 (w.msg kind os)).1).1).1=_
  rw[hc,had]
  rfl
 rw[e2]
 show({w.took with tx:=w.tx++_}:St)=_
 rw[hx]
 rfl
theorem asks_out {w:St} (D:Dqqq c ls w) (C:Cqqq c) (hls:ls=1∨ls=2) (hx:w.tx=[]):∃i ld,i<65536∧w.asks={w with id:=w.id+1,tx:=[dhF lE i 0 4294967295 ld]}∧Msg w.xid 0 (if ls=1 then 1 else 3) ld:=by
 have hc:w.c.card=aL:=by rw[D.cc];exact C.card
 have h16:w.c.tx=16:=by rw[D.cc];exact C.tx
 have hlt:w.lease<4:=by rw[D.lease];omega
 have had:w.address=0:=by unfold St.address;rw[if_neg (by omega)]
 have hid:w.id%65536<65536:=Nat.mod_lt _ (by decide)
 unfold St.asks
 rcases hls with rfl|rfl
 ·rw[if_pos D.lease,say_all hc h16 hx hlt]
  have M:=AK w 1 [] hc D.xid (by rw[had];decide) (by decide) (.inl rfl)
  rw[had]at M
  exact⟨_,_,hid,rfl,M⟩
 ·rw[if_neg (by rw[D.lease];decide),say_all hc h16 hx hlt]
  have M:=AK w 3 w.both hc D.xid (by rw[had];decide) (by decide) (.inr rfl)
  rw[had]at M
  exact⟨_,_,hid,rfl,M⟩
theorem hearsD (H:Hn im nx o h) {xid:Nat} {kind:UInt8} (hk:kind=1∨kind=3) (M:Msg xid 0 kind ld) (hi:i<65536):h.answer (dhF lE i 0 4294967295 ld)=(hostD h,[Ar ((h.id+1)%65536) xid nx (if kind=3 then 5 else 2) 4294967295],true):=by
 obtain⟨os,er,eo⟩:=M.rd
 have e:=uC h lE i 0 4294967295 xid 0 kind ld os hi (by decide) (by decide) M.len er eo hk
 have e0:Ar ((h.id+1)%65536) xid h.next (if kind=3 then 5 else 2) h.lease=Ar ((h.id+1)%65536) xid nx (if kind=3 then 5 else 2) 4294967295:=by rw[H.next,H.lease]
 rw[e0]at e
 exact e
theorem Hn.hostD (H:Hn im nx o h):Hn im nx o (hostD h):=⟨H.image,H.lease,H.next,H.options,H.port,H.sent,H.window⟩
theorem leased_ever (hl:s.lease=2) (ha:s.addr=aS) (hs:s.server=aF) (hn:nx≠0):s.leased ⟨true,s.xid,0,aS,nx,aL,vJ 5 4294967295⟩=({s with server:=aF,mask:=4294967040,router:=aF,source:=nx,t1:=0,t2:=0,untl:=0,lease:=3,lagain:=wrap64 (s.now+2)}:St).ask 0 aS:=by
 unfold St.leased
 rw[show eF (vJ 5 4294967295) 53=some [5]from rfl,n54]
 dsimp only
 rw[if_neg (by decide),if_pos rfl,if_pos (.inl hs.symm)]
 unfold St.granted
 rw[n51 (by decide)]
 dsimp only
 rw[if_neg (by rintro(h|h|h);exact h (.inl hl);cases h;exact h ha.symm),n1,n3,if_pos hn]
 dsimp only[Option.getD]
 unfold St.times
 rw[if_pos rfl,if_pos hl,ha]
theorem rep_hear (kd:UInt8) (hc:s.c.card=aL) (hx:s.xid<4294967296) (hn:nx<4294967296) (hi:i<65536) (ho:s.over=false):s.hear1 (Ar i s.xid nx kd 4294967295)=s.leased ⟨true,s.xid,0,aS,nx,aL,vJ kd 4294967295⟩:=by
 unfold St.hear1
 rw[ho,if_neg (by decide),qE s i s.xid nx kd 4294967295 hc hi,mG hc hx hn]
theorem leased_offer_no (hl:s.lease≠1):s.leased ⟨true,s.xid,0,aS,nx,aL,vJ 2 4294967295⟩=s:=by
 unfold St.leased
 rw[show eF (vJ 2 4294967295) 53=some [2]from rfl,n54]
 dsimp only
 rw[if_pos rfl,if_neg (fun x=>hl x.1)]
theorem leased_ack_no (hl:s.lease=3):s.leased ⟨true,s.xid,0,aS,nx,aL,vJ 5 4294967295⟩=s:=by
 unfold St.leased
 rw[show eF (vJ 5 4294967295) 53=some [5]from rfl,n54]
 dsimp only
 rw[if_neg (by decide),if_pos rfl]
 split
 ·unfold St.granted
  rw[n51 (by decide)]
  dsimp only
  rw[if_pos (.inl (by omega))]
 ·rfl
theorem D2_hear (D:Dqqq c 2 s) (C:Cqqq c) (hnx:nx=aF∨nx=hFar) (hx:s.tx=[]) (hi:i<65536) (h0:0≤s.now) (h1:s.now≤1000000) (b:Bool):∃t,s.hear b (Ar i s.xid nx 5 4294967295)=t∧D3q c nx t∧t.tx=[arpP]∧t.now=s.now∧t.lagain=s.now+2:=by
 have hn4:nx<4294967296:=by rcases hnx with rfl|rfl<;>decide
 have hn0:nx≠0:=by rcases hnx with rfl|rfl<;>decide
 have hc:s.c.card=aL:=by rw[D.cc];exact C.card
 have h16:s.c.tx=16:=by rw[D.cc];exact C.tx
 have hw:wrap64 (s.now+2)=s.now+2:=IntWalk.wrap64_in _ ⟨by omega,by omega⟩
 obtain⟨ad,sv⟩:=D.adr rfl
 have key:∀r,∃t,({s with rx:=r}:St).hear1 (Ar i s.xid nx 5 4294967295)=t∧t.rx=r∧D3q c nx {t with rx:=[]}∧t.tx=[arpP]∧t.now=s.now∧t.lagain=s.now+2∧t.xid=s.xid:=by
  intro r
  have e:=rep_hear (s:={s with rx:=r}) (nx:=nx) (i:=i) 5 hc D.xid hn4 hi D.ovr
  have e2:=leased_ever (s:={s with rx:=r}) (nx:=nx) D.lease ad sv hn0
  have e3:=e.trans e2
  refine⟨_,e3,?_⟩
  unfold St.ask St.arp
  rw[iX (by show s.tx.length≠s.c.tx;rw[hx,h16];decide)]
  dsimp only
  rw[hx,hc]
  exact⟨rfl,⟨D.cc,rfl,rfl,D.phase,D.cache,D.image,ad,rfl,rfl,rfl,rfl⟩,rfl,rfl,hw,rfl⟩
 unfold St.hear
 cases b
 ·rw[if_neg (by decide)]
  obtain⟨t,e,r,d3,x,n,l,_⟩:=key []
  rw[rx_nil D.rx]at e
  rw[rx_nil r]at d3
  exact⟨t,e,d3,x,n,l⟩
 ·rw[if_pos rfl]
  obtain⟨t,e,r,d3,x,n,l,xi⟩:=key [Ar i s.xid nx 5 4294967295]
  rw[e]
  refine⟨{t with rx:=[]},?_,d3,x,n,l⟩
  have hcc:t.c.card=aL:=by rw[show t.c=c from d3.cc];exact C.card
  have e4:=rep_hear (s:={t with rx:=[]}) (nx:=nx) (i:=i) 5 hcc (by show t.xid<_;rw[xi];exact D.xid) hn4 hi (by unfold St.over;show(t.phase==3||t.phase==4)=false;rw[show t.phase=0 from d3.phase];rfl)
  have e5:Ar i ({t with rx:=[]}:St).xid nx 5 4294967295=Ar i s.xid nx 5 4294967295:=by show Ar i t.xid nx 5 4294967295=_;rw[xi]
  rw[e5]at e4
  exact e4.trans (leased_ack_no d3.lease)
theorem D1_hear (D:Dqqq c 1 s) (C:Cqqq c) (hnx:nx=aF∨nx=hFar) (hx:s.tx=[]) (hi:i<65536) (h0:0≤s.now) (h1:s.now≤1000000) (b:Bool):∃t j ld,s.hear b (Ar i s.xid nx 2 4294967295)=t∧Dqqq c 2 t∧j<65536∧t.tx=[dhF lE j 0 4294967295 ld]∧Msg t.xid 0 3 ld∧t.now=s.now∧t.lsends=1∧s.now+1≤t.lagain∧t.lagain≤s.now+3:=by
 have hn4:nx<4294967296:=by rcases hnx with rfl|rfl<;>decide
 have hc:s.c.card=aL:=by rw[D.cc];exact C.card
 have hw:=wait_bd s 0 h0 h1 (by decide)
 have key:∀r,∃t j ld,({s with rx:=r}:St).hear1 (Ar i s.xid nx 2 4294967295)=t∧t.rx=r∧Dqqq c 2 {t with rx:=[]}∧j<65536∧t.tx=[dhF lE j 0 4294967295 ld]∧Msg t.xid 0 3 ld∧t.now=s.now∧t.lsends=1∧s.now+1≤t.lagain∧t.lagain≤s.now+3∧t.xid=s.xid:=by
  intro r
  have e:=rep_hear (s:={s with rx:=r}) (nx:=nx) (i:=i) 2 hc D.xid hn4 hi D.ovr
  have e2:=yZ (s:={s with rx:=r}) (nx:=nx) (ls:=4294967295) D.lease
  have e3:=e.trans e2
  obtain⟨w,hw'⟩:∃w:St,w={s with rx:=r,addr:=aS,server:=aF,lease:=2,lsends:=1,lagain:=wrap64 (s.now+s.wait 0)}:=⟨_,rfl⟩
  have eg:({({s with rx:=r}:St)with addr:=aS,server:=aF}:St).goes 2=w.asks:=by rw[hw'];rfl
  rw[eg]at e3
  have Dwqq:Dqqq c 2 {w with rx:=[]}:=by rw[hw'];exact⟨D.cc,rfl,rfl,D.phase,D.cache,D.image,D.xid,fun _=>⟨rfl,rfl⟩⟩
  obtain⟨j,ld,hj,ea,M⟩:=asks_out Dwqq C (.inr rfl) (by rw[hw'];exact hx)
  have ea':w.asks={w with id:=w.id+1,tx:=[dhF lE j 0 4294967295 ld]}:=by
   have wc:w.c.card=aL:=by rw[hw'];exact hc
   have wl:w.lease=2:=by rw[hw']
   have wx:w.tx=[]:=by rw[hw'];exact hx
   have e6:({w with rx:=[]}:St).asks={w with rx:=[],id:=w.id+1,tx:=[dhF lE (w.id%65536) 0 4294967295 (w.msg 3 w.both)]}:=by
    unfold St.asks
    rw[if_neg (by show ¬w.lease=1;omega),say_all (w:={w with rx:=[]}) wc (by show w.c.tx=16;rw[hw'];show s.c.tx=16;rw[D.cc];exact C.tx) wx (by show w.lease<4;omega)]
    rfl
   have e7:=e6.symm.trans ea
   have e8:[dhF lE (w.id%65536) 0 4294967295 (w.msg 3 w.both)]=[dhF lE j 0 4294967295 ld]:=congrArg St.tx e7
   unfold St.asks
   rw[if_neg (by omega),say_all wc (by rw[hw'];show s.c.tx=16;rw[D.cc];exact C.tx) wx (by omega),e8]
  refine⟨_,j,ld,e3.trans ea',?_⟩
  subst hw'
  refine⟨rfl,⟨D.cc,rfl,rfl,D.phase,D.cache,D.image,D.xid,fun _=>⟨rfl,rfl⟩⟩,hj,rfl,M,rfl,rfl,?_,?_,rfl⟩
  ·show _≤wrap64 (s.now+s.wait 0);omega
  ·show wrap64 (s.now+s.wait 0)≤_;omega
 unfold St.hear
 cases b
 ·rw[if_neg (by decide)]
  obtain⟨t,j,ld,e,r,d,hj,x,M,n,l,l1,l2,_⟩:=key []
  rw[rx_nil D.rx]at e
  rw[rx_nil r]at d
  exact⟨t,j,ld,e,d,hj,x,M,n,l,l1,l2⟩
 ·rw[if_pos rfl]
  obtain⟨t,j,ld,e,r,d,hj,x,M,n,l,l1,l2,xi⟩:=key [Ar i s.xid nx 2 4294967295]
  rw[e]
  refine⟨{t with rx:=[]},j,ld,?_,d,hj,x,M,n,l,l1,l2⟩
  have hcc:t.c.card=aL:=by rw[show t.c=c from d.cc];exact C.card
  have e4:=rep_hear (s:={t with rx:=[]}) (nx:=nx) (i:=i) 2 hcc (by show t.xid<_;rw[xi];exact D.xid) hn4 hi d.ovr
  have e5:Ar i ({t with rx:=[]}:St).xid nx 2 4294967295=Ar i s.xid nx 2 4294967295:=by show Ar i t.xid nx 2 4294967295=_;rw[xi]
  rw[e5]at e4
  exact e4.trans (leased_offer_no (by show t.lease≠1;rw[show t.lease=2 from d.lease];decide))
end
end Go.Proofs.YtcbkaiakdhiloacGreatDoor
namespace Go.Proofs.YtcbkaiakdhiloacGreatDoor
open Go.RowKit Go.Proofs
structure InvD (c:JG) (im:List UInt8) (nx:Nat) (o:Bool) (ls:Nat) (T:Int) (s:St) (h:aK) (g:CQ) (μ:Nat):Prop where
 d:Dqqq c ls s
 tx:s.tx=[]
 now:s.now=T
 t0:0≤T
 hn:Hn im nx o h
 whn:h.whn≤T
 lost:g.lost≤2
 was:g.was.lease≤3
 ts:1≤s.lsends∧s.lsends≤1+g.els s∧T<s.lagain∧s.lagain≤T+9
 mu:(μ:Int)+10*(g.els s:Nat)+T=s.lagain+15200-40*ls
structure InvE (c:JG) (im:List UInt8) (nx:Nat) (o:Bool) (T:Int) (s:St) (h:aK) (g:CQ) (μ:Nat):Prop where
 d:D3q c nx s
 tx:s.tx=[]
 now:s.now=T
 t0:0≤T
 hn:Hn im nx o h
 whn:h.whn≤T
 lost:g.lost≤2
 was:g.was.lease≤3
 ts:T<s.lagain∧s.lagain≤T+2
 mu:(μ:Int)+T=s.lagain+15080
def InvZ (c:JG) (im:List UInt8) (nx:Nat) (o:Bool) (T:Int) (s:St) (h:aK) (g:CQ) (μ:Nat):Prop:=
 (∃pt,pt<65536∧pt≠68∧InvA c im nx pt o T s h g μ)∨InvD c im nx o 1 T s h g μ∨InvD c im nx o 2 T s h g μ∨InvE c im nx o T s h g μ
def NextZ (c:JG) (im:List UInt8) (nx:Nat) (o:Bool) (T:Int) (N:Nat) (μ:Nat) (r:Option (St×aK×CQ)):Prop:=
 ∃s' h' g',r=some (s',h',g')∧g'.n≤N∧((s'.phase=3∧s'.image=im)∨∃μ',μ'<μ∧InvZ c im nx o T s' h' g' μ')
section
variable {c:JG} {im ld a f:List UInt8} {nx pt tw F d μ m i ls N:Nat} {o:Bool} {s t:St} {h h1:aK} {g:CQ} {T:Int}
theorem NextB.z {r:Option (St×aK×CQ)} (h:NextB c im nx pt o T N μ r) (h1:pt<65536) (h2:pt≠68):NextZ c im nx o T N μ r:=by
 obtain⟨s',h',g',e,n,x|⟨μ',l,x⟩⟩:=h
 ·exact⟨s',h',g',e,n,.inl x⟩
 ·exact⟨s',h',g',e,n,.inr ⟨μ',l,.inl ⟨pt,h1,h2,x⟩⟩⟩
theorem turnP (hx:t.tx=[arpP]) (hl:g.lost≤2) (hn:g.n+2<4611686018427387904) (hh:h.sent+h.window≤2097152):∃g',bTurns tw (F+2) t h g=some ({t with tx:=[]},h,g')∧g'.n≤g.n+1∧g'.lost≤2∧g'.was.lease=t.lease:=by
 obtain⟨g',b,e,hn',hl2,w,_⟩:=gone_el g {t with tx:=[]} hl
 refine⟨g',?_,by omega,hl2,w.lease⟩
 rw[turns_cons (F+1) hx (by rw[hx];exact Nat.le_of_ble_eq_true rfl),bGoes,if_pos ⟨Hv,hh,F2,by omega,by omega⟩]
 dsimp only
 rw[CX]
 dsimp only
 rw[if_pos ⟨rfl,Nat.zero_le _⟩,e]
 dsimp only
 cases b with
 |true=>
  rw[if_pos rfl,bGoes]
  dsimp only
  exact turns_nil rfl
 |false=>
  rw[if_neg (by decide),bComes]
  dsimp only
  rw[bGoes]
  dsimp only
  exact turns_nil rfl
theorem Hn.sum (H:Hn im nx o h):h.sent+h.window≤2097152:=by rw[H.sent,H.window];decide
theorem Wa.txs {g':CQ} (w:Wa g' s):g'.els {s with tx:=[]}=g'.lost:=Wa.els (s:={s with tx:=[]}) ⟨w.lease,w.phase,w.bytes,w.cached⟩
theorem D_lost {g':CQ} (hls:ls=1∨ls=2) (D:Dqqq c ls s) (hnow:s.now=T) (t0:0≤T) (H:Hn im nx o h) (hw:h.whn≤T) (w:Wa g' s) (hl2:g'.lost≤2) (hl:g'.lost=g.els s+1) (hts:1≤s.lsends∧s.lsends≤2+g.els s∧T<s.lagain∧(s.lsends≤3→s.lagain≤T+9)):
 ∃μ',InvD c im nx o ls T {s with tx:=[]} h g' μ'∧μ'+10*(g.els s+1)+40*ls≤15209:=by
 have e:=w.txs
 have h9:=hts.2.2.2 (by omega)
 have hlag:({s with tx:=[]}:St).lagain=s.lagain:=rfl
 refine⟨(s.lagain-T+15200-40*ls-10*(g.els s+1:Nat)).toNat,⟨⟨D.cc,D.rx,D.lease,D.phase,D.cache,D.image,D.xid,D.adr⟩,rfl,hnow,t0,H,hw,hl2,by rw[w.lease,D.lease];omega,⟨hts.1,by rw[e];show s.lsends≤_;omega,hts.2.2.1,h9⟩,?_⟩,by omega⟩
 rw[e,hl,hlag]
 omega
theorem turnD2 (D:Dqqq c 2 s) (C:Cqqq c) (hnx:nx=aF∨nx=hFar) (hx:s.tx=[dhF lE i 0 4294967295 ld]) (M:Msg s.xid 0 3 ld) (hi:i<65536) (hnow:s.now=T) (t0:0≤T) (t1:T≤1000000) (H:Hn im nx o h) (hw:h.whn≤T) (hl:g.lost≤2) (hn:g.n+10<4611686018427387904) (hts:1≤s.lsends∧s.lsends≤2+g.els s∧T<s.lagain∧(s.lsends≤3→s.lagain≤T+9)):
 ∃s' h' g' μ',bTurns tw (F+4) s h g=some (s',h',g')∧g'.n≤g.n+4∧InvZ c im nx o T s' h' g' μ'∧μ'+10*(g.els s+1)≤15129:=by
 have ea:=hearsD H (.inr rfl) M hi
 rw[if_pos rfl]at ea
 have hid:(h.id+1)%65536<65536:=Nat.mod_lt _ (by decide)
 have hes:=g.els_le s
 obtain⟨g',n1,l1,w,x|⟨b,e,le⟩⟩:=turn_single (tw:=tw) (F:=F+2) hx (DZ M hi (by decide) (by decide)) (EH M hi (by decide) (by decide)) ea (vT _ _ _ _ _ hid) D.rx (by rw[D.cc];exact C.rx) D.cm hl (by omega) H.sum
 ·obtain⟨μ',I,hμ⟩:=D_lost (.inr rfl) D hnow t0 H.hostD hw w l1 x.2 hts
  exact⟨_,_,g',μ',x.1,by omega,.inr (.inr (.inl I)),by omega⟩
 ·obtain⟨t,et,d3,tx,tn,tl⟩:=D2_hear (s:={s with tx:=[]}) ⟨D.cc,D.rx,D.lease,D.phase,D.cache,D.image,D.xid,D.adr⟩ C hnx rfl hid (by show 0≤s.now;omega) (by show s.now≤_;omega) b
  have tn':t.now=s.now:=tn
  have tl':t.lagain=s.now+2:=tl
  have et':({s with tx:=[]}:St).hear b (Ar ((h.id+1)%65536) s.xid nx 5 4294967295)=t:=et
  rw[et']at e
  obtain⟨g2,e2,n2,l2,w2⟩:=turnP (tw:=tw) (F:=F+1) (h:=hostD h) (g:=g') tx l1 (by omega) H.hostD.sum
  refine⟨_,_,g2,15082,e.trans e2,by omega,.inr (.inr (.inr ⟨⟨d3.cc,d3.rx,d3.lease,d3.phase,d3.cache,d3.image,d3.addr,d3.mask,d3.router,d3.src,d3.untl⟩,rfl,tn'.trans hnow,t0,H.hostD,hw,l2,by rw[w2,d3.lease];decide,⟨?_,?_⟩,?_⟩)),by omega⟩
  ·show T<t.lagain;omega
  ·show t.lagain≤_;omega
  ·show _=t.lagain+_;omega
theorem turnD1 (D:Dqqq c 1 s) (C:Cqqq c) (hnx:nx=aF∨nx=hFar) (hx:s.tx=[dhF lE i 0 4294967295 ld]) (M:Msg s.xid 0 1 ld) (hi:i<65536) (hnow:s.now=T) (t0:0≤T) (t1:T≤1000000) (H:Hn im nx o h) (hw:h.whn≤T) (hl:g.lost≤2) (hn:g.n+20<4611686018427387904) (hts:1≤s.lsends∧s.lsends≤2+g.els s∧T<s.lagain∧(s.lsends≤3→s.lagain≤T+9)):
 ∃s' h' g' μ',bTurns tw (F+5) s h g=some (s',h',g')∧g'.n≤g.n+6∧InvZ c im nx o T s' h' g' μ'∧μ'+10*(g.els s+1)≤15169:=by
 have ea:=hearsD H (.inl rfl) M hi
 rw[if_neg (by decide)]at ea
 have hid:(h.id+1)%65536<65536:=Nat.mod_lt _ (by decide)
 have hes:=g.els_le s
 obtain⟨g',n1,l1,w,x|⟨b,e,le⟩⟩:=turn_single (tw:=tw) (F:=F+3) hx (DZ M hi (by decide) (by decide)) (EH M hi (by decide) (by decide)) ea (vT _ _ _ _ _ hid) D.rx (by rw[D.cc];exact C.rx) D.cm hl (by omega) H.sum
 ·obtain⟨μ',I,hμ⟩:=D_lost (.inl rfl) D hnow t0 H.hostD hw w l1 x.2 hts
  exact⟨_,_,g',μ',x.1,by omega,.inr (.inl I),by omega⟩
 ·obtain⟨t,j,ld',et,d2,hj,tx,M',tn,ts1,tl1,tl2⟩:=D1_hear (s:={s with tx:=[]}) ⟨D.cc,D.rx,D.lease,D.phase,D.cache,D.image,D.xid,D.adr⟩ C hnx rfl hid (by show 0≤s.now;omega) (by show s.now≤_;omega) b
  have tn':t.now=s.now:=tn
  have tl1':s.now+1≤t.lagain:=tl1
  have tl2':t.lagain≤s.now+3:=tl2
  have et':({s with tx:=[]}:St).hear b (Ar ((h.id+1)%65536) s.xid nx 2 4294967295)=t:=et
  rw[et']at e
  obtain⟨s',h',g2,μ',e2,n2,I,hμ⟩:=turnD2 (tw:=tw) (F:=F) (h:=hostD h) (g:=g') (T:=T) d2 C hnx tx M' hj (tn'.trans hnow) t0 t1 H.hostD hw l1 (by omega) ⟨by omega,by omega,by omega,fun _=>by omega⟩
  exact⟨s',h',g2,μ',e.trans e2,by omega,I,by omega⟩
theorem now_1 (h0:0≤T) (h1:T≤1000000):wrap64 (T+1)=T+1:=IntWalk.wrap64_in _ ⟨by omega,by omega⟩
theorem nextD (I:InvD c im nx o ls T s h g μ) (hls:ls=1∨ls=2) (C:Cqqq c) (hnx:nx=aF∨nx=hFar) (t1:T+1≤1000000) (hN:g.n+30<4611686018427387904):NextZ c im nx o (T+1) (g.n+10) μ (bTurns tw (F+5) (s.tick d) {h with now:=T+1} g):=by
 obtain⟨D,hx,hnow,t0,H,hw,hl,hwas,⟨s1,s2,s3,s4⟩,hμ⟩:=I
 have H':Hn im nx o {h with now:=T+1}:=⟨H.image,H.lease,H.next,H.options,H.port,H.sent,H.window⟩
 have hw':({h with now:=T+1}:aK).whn≤T+1:=by show h.whn≤_;omega
 have hes:=g.els_le s
 obtain⟨u,hu⟩:∃u:St,u={s with now:=T+1,draw:=d}:=⟨_,rfl⟩
 have un:u.now=T+1:=by rw[hu]
 have Duqq:Dqqq c ls u:=by rw[hu];exact⟨D.cc,D.rx,D.lease,D.phase,D.cache,D.image,D.xid,D.adr⟩
 have ux:u.tx=[]:=by rw[hu];exact hx
 have ul:u.lsends=s.lsends:=by rw[hu]
 have ug:u.lagain=s.lagain:=by rw[hu]
 have ue:g.els u=g.els s:=by rw[hu];rfl
 have etk:s.tick d=u.leases.again:=by
  unfold St.tick
  rw[hnow,now_1 t0 (by omega)]
  dsimp only
  rw[←hu,Duqq.ovr,if_neg (by decide),HZ Duqq.cache]
 have hag:∀v:St,v.phase=0→v.again=v:=fun v hv=>by
  unfold St.again
  rw[if_pos (.inl (by unfold St.busy;rw[hv];rfl))]
 have el:u.leases=if u.now<u.lagain then u else {u with lagain:=wrap64 (u.now+u.wait u.lsends),lsends:=u.lsends+1}.asks:=by
  unfold St.leases
  have hul:=Duqq.lease
  rw[if_neg (by omega),if_pos (by omega)]
  by_cases hh:u.now<u.lagain
  ·rw[if_pos hh,if_pos hh]
  ·rw[if_neg hh,if_neg hh,if_neg (by omega)]
 rw[etk,el]
 by_cases hh:u.now<u.lagain
 ·rw[if_pos hh,hag u Duqq.phase]
  refine⟨u,_,g,turns_nil ux,by omega,.inr ⟨μ-1,by omega,?_⟩⟩
  have J:InvD c im nx o ls (T+1) u {h with now:=T+1} g (μ-1):=⟨Duqq,ux,un,by omega,H',hw',hl,hwas,⟨by omega,by omega,by omega,by omega⟩,by rw[ue,ug];omega⟩
  rcases hls with rfl|rfl
  ·exact .inr (.inl J)
  ·exact .inr (.inr (.inl J))
 ·rw[if_neg hh]
  have hwt:=wait_bd u u.lsends (by omega) (by omega) (by omega)
  obtain⟨P,hP,hPc⟩:=pow_le3 (a:=u.lsends) (by omega) (by omega)
  rw[hP]at hwt
  obtain⟨v,hv⟩:∃v:St,v={u with lagain:=wrap64 (u.now+u.wait u.lsends),lsends:=u.lsends+1}:=⟨_,rfl⟩
  have Dvqq:Dqqq c ls v:=by rw[hv];exact⟨Duqq.cc,Duqq.rx,Duqq.lease,Duqq.phase,Duqq.cache,Duqq.image,Duqq.xid,Duqq.adr⟩
  have vg:v.lagain=wrap64 (u.now+u.wait u.lsends):=by rw[hv]
  have vl:v.lsends=u.lsends+1:=by rw[hv]
  have ve:g.els v=g.els s:=by rw[hv,←ue];rfl
  have vn:v.now=T+1:=by rw[hv];exact un
  obtain⟨j,ld,hj,ea,M⟩:=asks_out Dvqq C hls (by rw[hv];exact ux)
  rw[←hv,ea]
  obtain⟨z,hz⟩:∃z:St,z={v with id:=v.id+1,tx:=[dhF lE j 0 4294967295 ld]}:=⟨_,rfl⟩
  have Dzqq:Dqqq c ls z:=by rw[hz];exact⟨Dvqq.cc,Dvqq.rx,Dvqq.lease,Dvqq.phase,Dvqq.cache,Dvqq.image,Dvqq.xid,Dvqq.adr⟩
  have zg:z.lagain=v.lagain:=by rw[hz]
  have zl:z.lsends=v.lsends:=by rw[hz]
  have ze:g.els z=g.els s:=by rw[hz,←ve];rfl
  have zn:z.now=T+1:=by rw[hz];exact vn
  have zx:z.tx=[dhF lE j 0 4294967295 ld]:=by rw[hz]
  have zi:z.xid=v.xid:=by rw[hz]
  rw[←hz,hag z Dzqq.phase]
  have hts:1≤z.lsends∧z.lsends≤2+g.els z∧T+1<z.lagain∧(z.lsends≤3→z.lagain≤T+1+9):=by
   rw[zg,vg,zl,vl,ze]
   clear hv hz vg zg
   generalize wrap64 (u.now+u.wait u.lsends)=q at*
   refine⟨by omega,by omega,by omega,fun x=>by omega⟩
  rcases hls with rfl|rfl
  ·obtain⟨s',h',g',μ',e,n,J,hq⟩:=turnD1 (tw:=tw) (F:=F) (h:={h with now:=T+1}) Dzqq C hnx zx (by rw[zi];exact M) hj zn (by omega) t1 H' hw' hl (by omega) hts
   exact⟨s',h',g',e,by omega,.inr ⟨μ',by omega,J⟩⟩
  ·obtain⟨s',h',g',μ',e,n,J,hq⟩:=turnD2 (tw:=tw) (F:=F+1) (h:={h with now:=T+1}) Dzqq C hnx zx (by rw[zi];exact M) hj zn (by omega) t1 H' hw' hl (by omega) hts
   exact⟨s',h',g',e,by omega,.inr ⟨μ',by omega,J⟩⟩
theorem nextE (I:InvE c im nx o T s h g μ) (C:Cqqq c) (hnx:nx=aF∨nx=hFar) (hsh:sha im=c.digest) (hlen:im.length<4000) (t1:T+1≤1000000) (hF:600≤F) (hN:g.n+144*(F+2)+10<4611686018427387904):NextZ c im nx o (T+1) (g.n+144*(F+2)+2) μ (bTurns tw (F+2) (s.tick d) {h with now:=T+1} g):=by
 obtain⟨D,hx,hnow,t0,H,hw,hl,hwas,⟨s1,s2⟩,hμ⟩:=I
 have H':Hn im nx o {h with now:=T+1}:=⟨H.image,H.lease,H.next,H.options,H.port,H.sent,H.window⟩
 have hw':({h with now:=T+1}:aK).whn≤T+1:=by show h.whn≤_;omega
 obtain⟨u,hu⟩:∃u:St,u={s with now:=T+1,draw:=d}:=⟨_,rfl⟩
 have un:u.now=T+1:=by rw[hu]
 have Duqq:D3q c nx u:=by rw[hu];exact⟨D.cc,D.rx,D.lease,D.phase,D.cache,D.image,D.addr,D.mask,D.router,D.src,D.untl⟩
 have ux:u.tx=[]:=by rw[hu];exact hx
 have ug:u.lagain=s.lagain:=by rw[hu]
 have hov:u.over=false:=by unfold St.over;rw[Duqq.phase];rfl
 have etk:s.tick d=u.leases.again:=by
  unfold St.tick
  rw[hnow,now_1 t0 (by omega)]
  dsimp only
  rw[←hu,hov,if_neg (by decide),HZ Duqq.cache]
 have el:u.leases=if u.now<u.lagain then u else({u with lease:=4}:St).read:=by
  unfold St.leases
  have hul:=Duqq.lease
  rw[if_neg (by omega),if_neg (by omega),if_pos hul]
 rw[etk,el]
 by_cases hh:u.now<u.lagain
 ·rw[if_pos hh]
  have hag:u.again=u:=by
   unfold St.again
   rw[if_pos (.inl (by unfold St.busy;rw[Duqq.phase];rfl))]
  rw[hag]
  exact⟨u,_,g,turns_nil ux,by omega,.inr ⟨μ-1,by omega,.inr (.inr (.inr ⟨Duqq,ux,un,by omega,H',hw',hl,hwas,⟨by omega,by omega⟩,by rw[ug];omega⟩))⟩⟩
 ·rw[if_neg hh]
  obtain⟨pt,hpt⟩:∃pt,pt=1024+u.draw%60000:=⟨_,rfl⟩
  have hpm:u.draw%60000<60000:=Nat.mod_lt _ (by decide)
  obtain⟨v,hv⟩:∃v:St,v={u with lease:=4,phase:=1,port:=pt,peer:=0,block:=512,wind:=1,next:=1,came:=0,image:=[],last:=rrqB c,goal:=69,tsends:=1,tagain:=wrap64 (u.now+u.wait 0)}:=⟨_,rfl⟩
  have er:({u with lease:=4}:St).read=v.tell:=by
   have ec:u.c=c:=Duqq.cc
   rw[hv,hpt]
   unfold St.read St.waits rrqB fsQ
   dsimp only
   rw[ec,if_pos rfl]
   rfl
  have A:Aqqq c nx pt v:=by rw[hv];exact⟨Duqq.cc,rfl,Duqq.addr,Duqq.mask,Duqq.router,Duqq.src,Duqq.untl,rfl,rfl,rfl,rfl,rfl,rfl,rfl,rfl,rfl⟩
  have vrx:v.rx=[]:=by rw[hv];exact Duqq.rx
  have vx:v.tx=[]:=by rw[hv];exact ux
  have vk:v.cache=[]:=by rw[hv];exact Duqq.cache
  have vn:v.now=T+1:=by rw[hv];exact un
  have vb:=A.bz C hnx vrx
  have et:=AN (s:=v) (dst:=v.source) (fm:=v.port) (port:=v.goal) (ld:=v.last) vb.card vb.hop vk (by rw[vx,vb.ctx];decide) vb.addr
  have et':v.tell=_:=et
  have hw2:wrap64 (v.now+2)=T+1+2:=by rw[vn];exact IntWalk.wrap64_in _ ⟨by omega,by omega⟩
  rw[er,et',vx,vb.adr,hw2]
  clear hw2
  have hwt:=wait_bd u 0 (by omega) (by omega) (by decide)
  have vg:v.tagain=wrap64 (u.now+u.wait 0):=by rw[hv]
  have vts:v.tsends=1:=by rw[hv]
  obtain⟨z,hz⟩:∃z:St,z={v with id:=v.id+1,cache:=[ntW (T+1+2) 1 (pkU (v.id%65536) aS v.source v.port v.goal v.last)],tx:=[]++[uA]}:=⟨_,rfl⟩
  rw[←hz]
  have Azqq:Aqqq c nx pt z:=by rw[hz];exact⟨A.cc,A.lease,A.addr,A.mask,A.router,A.src,A.untl,A.phase,A.port,A.block,A.wind,A.next,A.came,A.image,A.goal,A.last⟩
  have zrx:z.rx=[]:=by rw[hz];exact vrx
  have zb:=Azqq.bz C hnx zrx
  have zk:z.cache=[ntW (T+1+2) ((1:Nat):Int) (pkU (v.id%65536) aS z.source z.port z.goal z.last)]:=by rw[hz];rfl
  have zn:z.now=T+1:=by rw[hz];exact vn
  have zg:z.tagain=wrap64 (u.now+u.wait 0):=by rw[hz];exact vg
  have zts:z.tsends=1:=by rw[hz];exact vts
  have zx:z.tx=[uA]:=by rw[hz];rfl
  have hag:z.again=z:=by
   unfold St.again
   rw[if_pos (.inr (by rw[zg,zn];omega))]
  rw[hag]
  have ze:g.e1 z=0:=by
   unfold CQ.e1 CQ.el
   rw[if_neg (by rw[Azqq.lease];omega)]
  have zw:wNqq z=1:=by unfold wNqq;rw[zk];rfl
  have hp0:=H.port
  have ha:Ha im nx o {h with now:=T+1}:=⟨H.image,H.next,H.options,by show h.port≤60;omega,by show h.sent≤1000;rw[H.sent];decide,by show h.window≤8;rw[H.window];decide⟩
  have hid:v.id%65536<65536:=Nat.mod_lt _ (by decide)
  clear hv hz vg
  generalize wrap64 (u.now+u.wait 0)=q at*
  have K:Tock tw (F+2) (T+1) z z {h with now:=T+1} g 9:=arp_tock zb (.refl z) (a:=1) (p:=pkU (v.id%65536) aS z.source z.port z.goal z.last) zk ⟨_,hid,rfl⟩ zx zn (by omega) t1 hl (by omega) H'.sum (Nat.le_refl _) (by omega) (by omega) (by omega) (by omega) (fun _=>by omega) (fun x=>by omega) (fun x=>by omega) (by omega)
  exact(tock_next1 (μ:=μ) Azqq C hnx (by omega) (by omega) hsh hlen zrx ha (by show h.port+wNqq z≤_;omega) hw' rfl (Nat.le_refl 9) hl (by omega) (by omega) hN K).z (by omega) (by omega)
end
end Go.Proofs.YtcbkaiakdhiloacGreatDoor
namespace Go.Proofs.YtcbkaiakdhiloacGreatDoor
open Go.RowKit Go.Proofs
section
variable {c:JG} {im:List UInt8} {nx tw d μ N:Nat} {o:Bool} {s:St} {h:aK} {g:CQ} {T:Int}
theorem NextZ.mono {r:Option (St×aK×CQ)} {N':Nat} (h:NextZ c im nx o T N μ r) (hN:N≤N'):NextZ c im nx o T N' μ r:=by
 obtain⟨s',h',g',e,n,x⟩:=h
 exact⟨s',h',g',e,by omega,x⟩
theorem nextZ (I:InvZ c im nx o T s h g μ) (C:Cqqq c) (hnx:nx=aF∨nx=hFar) (hsh:sha im=c.digest) (hlen:im.length<4000) (t1:T+1≤1000000) (hN:g.n+200000<4611686018427387904):NextZ c im nx o (T+1) (g.n+150000) μ (bTurns tw 1000 (s.tick d) {h with now:=T+1} g):=by
 rcases I with⟨pt,h1,h2,⟨m,I⟩|⟨y,m,k,I⟩⟩|I|I|I
 ·exact((next1 I C hnx h1 h2 hsh hlen t1 (by decide) (by omega)).z h1 h2).mono (by omega)
 ·exact((next2 (nx:=nx) (pt:=pt) (o:=o) I t1 (by decide) (by omega)).z h1 h2).mono (by omega)
 ·exact(nextD (F:=995) I (.inl rfl) C hnx t1 (by omega)).mono (by omega)
 ·exact(nextD (F:=995) I (.inr rfl) C hnx t1 (by omega)).mono (by omega)
 ·exact(nextE (F:=998) I C hnx hsh hlen t1 (by decide) (by omega)).mono (by omega)
theorem InvZ.facts (I:InvZ c im nx o T s h g μ):s.now=T∧s.phase≠3∧s.phase≠4:=by
 rcases I with⟨pt,h1,h2,⟨m,I⟩|⟨y,m,k,I⟩⟩|I|I|I
 ·exact⟨I.rs.now,by rw[I.a.phase];decide,by rw[I.a.phase];decide⟩
 ·exact⟨I.rs.now,by rw[I.l.phase];decide,by rw[I.l.phase];decide⟩
 ·exact⟨I.now,by rw[I.d.phase];decide,by rw[I.d.phase];decide⟩
 ·exact⟨I.now,by rw[I.d.phase];decide,by rw[I.d.phase];decide⟩
 ·exact⟨I.now,by rw[I.d.phase];decide,by rw[I.d.phase];decide⟩
theorem ticksZ (C:Cqqq c) (hnx:nx=aF∨nx=hFar) (hsh:sha im=c.digest) (hlen:im.length<4000):∀(n t:Nat) (s:St) (h:aK) (g:CQ) (μ:Nat),InvZ c im nx o (t:Int) s h g μ→μ<n→t+n≤20000→g.n≤200000*t→∃s' h',bTicks tw 1000 n t s h g=some (s',h',true)∧s'.phase=3∧s'.image=im
 |0,_,_,_,_,_,_,hμ,_,_=>absurd hμ (Nat.not_lt_zero _)
 |n+1,t,s,h,g,μ,I,hμ,ht,hn=>by
  obtain⟨hnow,_,_⟩:=I.facts
  have ec:((t+1:Nat):Int)=(t:Int)+1:=by omega
  obtain⟨s',h',g',e,n',hx⟩:=nextZ (tw:=tw) (d:=7*t%4294967296) I C hnx hsh hlen (by omega) (by omega)
  rw[bTicks,if_pos ⟨by omega,by omega⟩,ec,e]
  dsimp only
  rcases hx with⟨p3,hi⟩|⟨μ',hμ',J⟩
  ·rw[if_pos (.inl p3),decide_eq_true p3]
   exact⟨s',h',rfl,p3,hi⟩
  ·obtain⟨_,n3,n4⟩:=J.facts
   rw[if_neg (by rintro(x|x);exact n3 x;exact n4 x)]
   rw[←ec]at J
   exact ticksZ C hnx hsh hlen n (t+1) s' h' g' μ' J (by omega) (by omega) (by omega)
end
def cfgB (im:List UInt8) (bk wd:Nat):JG:=⟨aL,[107,101,114,110,101,108],600000,sha im,bk,wd,16,16⟩
theorem bootsP (im:List UInt8) (bk wd nx tw:Nat) (o:Bool) (loss:List Int) (hlen:im.length<4000) (b1:8≤bk) (b2:bk≤1008) (w1:1≤wd) (w2:wd≤8) (hnx:nx=aF∨nx=hFar):
 ∃s' h',bTicks tw 1000 20000 0 (Ew im 600000 bk wd) (wV im 4294967295 nx o) (luckKeep loss (Ew im 600000 bk wd))=some (s',h',true)∧s'.phase=3∧s'.image=im:=by
 have C:Cqqq (cfgB im bk wd):=⟨rfl,rfl,rfl,rfl,b1,b2,w1,w2,by show 4000≤600000;decide⟩
 obtain⟨s,hs⟩:∃s,s=Ew im 600000 bk wd:=⟨_,rfl⟩
 obtain⟨h,hh⟩:∃h,h=wV im 4294967295 nx o:=⟨_,rfl⟩
 obtain⟨g,hg⟩:∃g,g=luckKeep loss s:=⟨_,rfl⟩
 rw[←hs,←hh,←hg]
 have H:Hn im nx o {h with now:=0+1}:=by rw[hh];exact⟨rfl,rfl,rfl,rfl,rfl,rfl,rfl⟩
 have hw:({h with now:=0+1}:aK).whn≤1:=by rw[hh];exact(by decide:(0:Int)≤1)
 obtain⟨u,hu⟩:∃u:St,u={s with now:=1,draw:=0}:=⟨_,rfl⟩
 have un:u.now=1:=by rw[hu]
 have uc:u.cache=[]:=by rw[hu,hs];rfl
 have ux:u.tx=[]:=by rw[hu,hs];rfl
 have etk:s.tick 0=u.leases.again:=by
  have e0:wrap64 (s.now+1)=1:=by rw[hs];exact now_1 (T:=0) (by decide) (by decide)
  have eo:u.over=false:=by rw[hu,hs];rfl
  unfold St.tick
  rw[e0]
  dsimp only
  rw[←hu,eo,if_neg (by decide),HZ uc]
 have hwt:=wait_bd u 0 (by omega) (by omega) (by decide)
 obtain⟨v,hv⟩:∃v:St,v={u with xid:=u.draw,lease:=1,lsends:=1,lagain:=wrap64 (u.now+u.wait 0)}:=⟨_,rfl⟩
 have el:u.leases=v.asks:=by
  unfold St.leases
  rw[if_pos (by rw[hu,hs];rfl),hv]
  rfl
 have Dvqq:Dqqq (cfgB im bk wd) 1 v:=by
  rw[hv,hu,hs]
  exact⟨rfl,rfl,rfl,rfl,rfl,rfl,by show 0<_;decide,fun x=>by cases x⟩
 have vl:v.lsends=1:=by rw[hv]
 have vn:v.now=1:=by rw[hv];exact un
 have vg:v.lagain=wrap64 (u.now+u.wait 0):=by rw[hv]
 obtain⟨j,ld,hj,ea,M⟩:=asks_out Dvqq C (.inl rfl) (by rw[hv];exact ux)
 obtain⟨z,hz⟩:∃z:St,z={v with id:=v.id+1,tx:=[dhF lE j 0 4294967295 ld]}:=⟨_,rfl⟩
 have Dzqq:Dqqq (cfgB im bk wd) 1 z:=by rw[hz];exact⟨Dvqq.cc,Dvqq.rx,Dvqq.lease,Dvqq.phase,Dvqq.cache,Dvqq.image,Dvqq.xid,Dvqq.adr⟩
 have zg:z.lagain=v.lagain:=by rw[hz]
 have zl:z.lsends=v.lsends:=by rw[hz]
 have zn:z.now=1:=by rw[hz];exact vn
 have zx:z.tx=[dhF lE j 0 4294967295 ld]:=by rw[hz]
 have zi:z.xid=v.xid:=by rw[hz]
 have hag:z.again=z:=by
  unfold St.again
  rw[if_pos (.inl (by unfold St.busy;rw[Dzqq.phase];rfl))]
 rw[←hz]at ea
 have gn:g.n=0:=by rw[hg];rfl
 have gl:g.lost=0:=by rw[hg];rfl
 obtain⟨s',h',g',μ,e,n1,J,hq⟩:=turnD1 (tw:=tw) (F:=995) (h:={h with now:=0+1}) (g:=g) (T:=1) Dzqq C hnx zx (by rw[zi];exact M) hj zn (by decide) (by decide) H hw (by omega) (by omega) ⟨by omega,by omega,by rw[zg,vg];omega,fun _=>by rw[zg,vg];omega⟩
 obtain⟨_,n3,n4⟩:=J.facts
 have ed:7*0%4294967296=0:=rfl
 have hsn:s.now=0:=by rw[hs];rfl
 rw[show(20000:Nat)=19999+1 from rfl,bTicks,if_pos ⟨by rw[hsn];decide,by decide⟩,ed,etk,el,ea,hag]
 have e':bTurns tw 1000 z {h with now:=((0+1:Nat):Int)} g=some (s',h',g'):=e
 rw[e']
 dsimp only
 rw[if_neg (by rintro(x|x);exact n3 x;exact n4 x)]
 exact ticksZ C hnx rfl hlen 19999 1 s' h' g' μ J (by omega) (by decide) (by omega)
end Go.Proofs.YtcbkaiakdhiloacGreatDoor
