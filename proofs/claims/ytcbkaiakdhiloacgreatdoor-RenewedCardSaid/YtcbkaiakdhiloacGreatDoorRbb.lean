/- Parts of the walk; written by programs, merged. -/
import Derived.Test.YtcbkaiakdhiloacGreatDoorRba
set_option linter.unusedSimpArgs false
set_option linter.unusedVariables false
set_option maxRecDepth 20000
set_option maxHeartbeats 8000000
namespace Go.Proofs.YtcbkaiakdhiloacGreatDoor
open Go.RowKit Go.Proofs
def dhF (d:Mac) (i fi ti:Nat) (ld:List UInt8):List UInt8:=frU d aL i 64 fi ti 68 67 ld
structure Msg (xid cl:Nat) (kind:UInt8) (ld:List UInt8):Prop where
 len:ld.length≤1472
 rd:∃os,aQ ld=(⟨false,xid,cl,0,0,aL,os⟩,0)∧FT os 53=[kind]
 tf:(aM ld).1.fs=[]
theorem AK (s:St) (kind:UInt8) (os:List bK) (hc:s.c.card=aL) (hx:s.xid<4294967296) (ha:s.address<4294967296) (hk:kind≠4) (hos:os=[]∨os=s.both):Msg s.xid s.address kind (s.msg kind os):=by
 obtain⟨e1,e2⟩:=GY s kind os hc hx ha hk hos
 refine⟨by unfold St.msg;exact iW ..,⟨_,e1,e2⟩,?_⟩
 have e3:∃r,s.msg kind os=1::1::r∨s.msg kind os=r∧r.length<2:=by
  unfold St.msg fP
  split
  ·exact⟨[],.inr ⟨rfl,by decide⟩⟩
  split
  ·exact⟨[],.inr ⟨rfl,by decide⟩⟩
  ·exact⟨_,.inl rfl⟩
 obtain⟨r,e|⟨e,hr⟩⟩:=e3
 ·rw[e]
  have hn:num (sub (1::1::r) 0 2)=257:=rfl
  unfold aM
  rw[if_neg (by simp),hn]
  rfl
 ·rw[e]
  unfold aM
  rw[if_pos hr]
  rfl
section
variable {im dg ld:List UInt8} {n r i a t bd ak sl fi ti xid cl:Nat} {s:St} {h:aK} {da:Mac} {kind:UInt8}
theorem DZ (M:Msg xid cl kind ld) (hi:i<65536) (hfi:fi<4294967296) (hti:ti<4294967296):(dhF da i fi ti ld).length≤1048576:=by
 obtain⟨_,_,_,_,_,_,h⟩:=gB (d:=da) (src:=aL) (i:=i) (ttl:=64) (fi:=fi) (ti:=ti) (fm:=68) (tp:=67) (ld:=ld) hi (by decide) hfi hti (by decide) (by decide) M.len
 exact Nat.le_trans h (by decide)
theorem Cp (M:Msg xid cl kind ld) (hi:i<65536) (hfi:fi<4294967296) (hti:ti<4294967296):iV (dhF da i fi ti ld)=(1,ti):=by
 obtain⟨b,u,e1,e2,e3,_⟩:=gB (d:=da) (src:=aL) (i:=i) (ttl:=64) (fi:=fi) (ti:=ti) (fm:=68) (tp:=67) (ld:=ld) hi (by decide) hfi hti (by decide) (by decide) M.len
 unfold iV dhF
 rw[e1]
 dsimp only
 rw[e2]
 dsimp only
 rw[e3]
 dsimp only
 rw[if_pos ⟨rfl,rfl⟩,if_pos rfl]
theorem EH (M:Msg xid cl kind ld) (hi:i<65536) (hfi:fi<4294967296) (hti:ti<4294967296):qC (dhF da i fi ti ld)=true:=by
 unfold dhF
 refine AI hi (by decide) hfi hti (by decide) (by decide) M.len ?_ ?_<;>rw[M.tf]<;>exact⟨Int.le_refl 0,(by decide:(0:Int)≤70000)⟩
def hostD (h:aK):aK:={h with id:=(h.id+1)%65536}
theorem HR.hostD (H:HR im n h):HR im n (hostD h):=⟨H.image,H.lease,H.next,H.options,H.sent,H.window,H.whn⟩
theorem Tr.hostD {q:Nat} (T:Tr im r q s h):Tr im r q s (hostD h):=by
 rcases T with⟨A,p⟩|⟨pe,k,B,o,h1,h2,h3,h4,h5⟩
 ·exact .inl ⟨A,p⟩
 ·exact .inr ⟨pe,k,B,⟨o.image,o.next,o.port,o.block,o.window⟩,h1,h2,h3,h4,h5⟩
structure Gr (t n:Nat) (s u:St):Prop where
 phase:u.phase=s.phase
 port:u.port=s.port
 peer:u.peer=s.peer
 block:u.block=s.block
 wind:u.wind=s.wind
 next:u.next=s.next
 came:u.came=s.came
 image:u.image=s.image
 goal:u.goal=s.goal
 last:u.last=s.last
 tsends:u.tsends=s.tsends
 cache:u.cache=s.cache
 tx:u.tx=s.tx
 now:u.now=s.now
 lease:u.lease=4
 t1:u.t1=((t+n/2:Nat):Int)
 t2:u.t2=((t+n/8*7:Nat):Int)
 untl:u.untl=((t+n:Nat):Int)
theorem Tr.grant {q t n:Nat} {u:St} (T:Tr im r q s h) (g:Gr t n s u):Tr im r q u h:=by
 rcases T with⟨A,p⟩|⟨pe,k,B,o,h1,h2,h3,h4,h5⟩
 ·exact .inl ⟨⟨g.phase.trans A.phase,g.port.trans A.port,g.next.trans A.next,g.came.trans A.came,g.block.trans A.block,g.image.trans A.image,g.goal.trans A.goal,g.last.trans A.last⟩,by rw[g.tsends];exact p⟩
 ·exact .inr ⟨pe,k,⟨g.phase.trans B.phase,g.port.trans B.port,g.peer.trans B.peer,g.block.trans B.block,g.wind.trans B.wind,g.next.trans B.next,g.came.trans B.came,g.image.trans B.image,g.goal.trans B.goal,g.last.trans B.last⟩,o,h1,h2,h3,h4,h5⟩
theorem LS (hd:Hd dg s) (hl5:s.lease=5∨s.lease=6) (hx:s.tx=[]) (hnow:s.now=(t:Int)) (ht:t≤100000) (hn:n≤2015) (hn1:16≤n) (hcm:(s.phase=1∨s.phase=2)∧1≤s.block∧s.next≤s.image.length+1) (H:HR im n h) (M:Msg s.xid cl 3 ld) (hi:i<65536) (hti:ti=aF∨ti=4294967295) (hw:decide (bd+n/8*7≤t)=decide (ti=4294967295)) (hw2:bd+n/2≤t) (hak:ak≤4) (hsl:sl≤100000) (hbd:bd≤100000) (out:List (List UInt8)) (ho:out.length≤100):
 ∃s' bd' ak',iE n a t (dhF da i aS ti ld) ⟨s,h,bd,ak,sl⟩ out=some (⟨s',hostD h,bd',ak',sl⟩,out)∧((s'=s∧bd'=bd∧ak'=ak+1∧ak+1≤a)∨(Hd dg s'∧Gr t n s s'∧bd'=t∧ak'=0)):=by
 have htl:ti<4294967296:=by rcases hti with rfl|rfl<;>decide
 obtain⟨os,er,eo⟩:=M.rd
 have e:=uC h da i aS ti s.xid cl 3 ld os hi (by decide) htl M.len er eo (.inr rfl)
 have e0:Ar ((h.id+1)%65536) s.xid h.next (if(3:UInt8)=3 then 5 else 2) h.lease=Ar ((h.id+1)%65536) s.xid aF 5 n:=by rw[if_pos rfl,H.next,H.lease]
 rw[e0]at e
 change h.answer (dhF da i aS ti ld)=(hostD h,_,_)at e
 have hfr:=jM (a:=a) (t:=t) (d:=⟨s,h,bd,ak,sl⟩) H (DZ (da:=da) M hi (by decide) htl) (EH M hi (by decide) htl) hak hsl hbd e (Nat.le_refl 1) out
 rw[Cp M hi (by decide) htl,if_pos ⟨rfl,by show s.address≠0;rw[hd.adr];decide⟩,if_neg (by rintro(x|x);exact x hw;exact absurd hw2 (Nat.not_le.mpr x))]at hfr
 by_cases hq:ak+1≤a
 ·rw[if_pos hq]at hfr
  exact⟨s,bd,ak+1,hfr,.inl ⟨rfl,rfl,rfl,hq⟩⟩
 rw[if_neg hq]at hfr
 have hid:(h.id+1)%65536<65536:=Nat.mod_lt _ (by decide)
 have eg:s.frameP (Ar ((h.id+1)%65536) s.xid aF 5 n)={s.grant aF n with lease:=4}:=by
  rw[qE s _ _ _ _ _ (by rw[hd.c];rfl) hid,mG (by rw[hd.c];rfl) hd.xid (by decide),uG (.inr hl5) hd.addr hd.server (by omega) (by omega) (by decide),if_neg (by omega)]
 have hone:=jI t ⟨s,hostD h,t,0,sl⟩ out (Ar ((h.id+1)%65536) s.xid aF 5 n) hd.rx (by show s.c.rx≠0;rw[hd.c];show 16≠0;decide) (by unfold St.over;rcases hcm.1 with x|x<;>(show(s.phase==3||s.phase==4)=false;rw[x];rfl)) (vT _ _ _ _ _ hid) (fun _=>hcm.2) (by rw[eg];show s.tx.length≤16;rw[hx];decide) (by omega) (by show s.lease≠2;omega)
 have hfr2:=hfr.trans hone
 rw[eg]at hfr2
 have hx2:({s.grant aF n with lease:=4}:St).tx=[]:=hx
 rw[hx2,List.append_nil]at hfr2
 have w:∀k:Nat,k≤2015→wrap64 ((t:Int)+(k:Nat))=((t+k:Nat):Int):=fun k hk=>(IntWalk.wrap64_in _ ⟨by omega,by omega⟩).trans (by omega)
 refine⟨_,t,0,hfr2,.inr ⟨⟨hd.c,hd.rx,hd.draw,hd.xid,Nat.le_refl 4,hd.addr,rfl,rfl,rfl,rfl⟩,⟨rfl,rfl,rfl,rfl,rfl,rfl,rfl,rfl,rfl,rfl,rfl,rfl,hx.symm,rfl,rfl,?_,?_,?_⟩,rfl,rfl⟩⟩
 ·show wrap64 (s.now+(n/2:Nat))=_
  rw[hnow];exact w _ (by omega)
 ·show wrap64 (s.now+(n/8*7:Nat))=_
  rw[hnow];exact w _ (by omega)
 ·show wrap64 (s.now+(n:Nat))=_
  rw[hnow];exact w _ (by omega)
end
end Go.Proofs.YtcbkaiakdhiloacGreatDoor
namespace Go.Proofs.YtcbkaiakdhiloacGreatDoor
open Go.RowKit Go.Proofs
structure Mid (dg:List UInt8) (n t:Nat) (s:St) (bd:Nat):Prop where
 hd:Hd dg s
 tx:s.tx=[]
 now:s.now=(t:Int)
 t1:s.t1=((bd+n/2:Nat):Int)
 t2:s.t2=((bd+n/8*7:Nat):Int)
 untl:s.untl=((bd+n:Nat):Int)
 cls:s.lease=4∨(s.lease=5∧bd+n/2≤t)∨(s.lease=6∧bd+n/8*7≤t)
 live:t<bd+n
 le:bd≤t
theorem Mid.mv {dg:List UInt8} {n t bd:Nat} {s u:St} (m:Mid dg n t s bd) (v:Mv s u) (hx:u.tx=[]):Mid dg n t u bd:=⟨v.hd m.hd,hx,v.now.trans m.now,v.t1.trans m.t1,v.t2.trans m.t2,v.untl.trans m.untl,by rw[v.lease];exact m.cls,m.live,m.le⟩
structure In4 (im dg:List UInt8) (n a t:Nat) (d:RnD):Prop where
 hr:HR im n d.h
 now:d.h.now=(t:Int)
 mid:Mid dg n t d.s d.bound
 cache:d.s.cache=[]∨∃du,d.s.cache=[ntK du 0]
 asked:d.asked≤a
 slow:d.slow≤3*t
 tr:∃r,r≤6∧r*n≤d.bound∧Tr im r 0 d.s d.h
 ts:1≤d.s.tsends∧d.s.tsends≤d.slow%3
def EOk (im:List UInt8) (r:Nat) (s:St) (h:aK) (sl:Nat) (E:List (List UInt8)):Prop:=
 (E=[]∧(s.cache=[]∨∃du,s.cache=[ntK du 0])∧Tr im r 0 s h∧s.tsends≤sl%3)∨
 (∃i du,i<65536∧E=[tF i s.goal s.last]∧s.cache=[ntK du 0]∧Tr im r 1 s h∧s.tsends≤sl%3+1)∨
 (∃i du ak,i<65536∧E=[uA]∧s.cache=[ntW du ak (pkU i aS aF 1025 s.goal s.last)]∧Tr im r 1 s h∧s.tsends≤sl%3+1)
theorem Ii {i fi ti fm tp:Nat} {ld:List UInt8}:pkU i fi ti fm tp ld≠[]:=by
 have hu:(jC fm tp fi ti ld).1.length≤1480:=rU ..
 unfold pkU vC
 rw[if_neg (by decide),if_neg (by omega)]
 intro e
 have:=congrArg List.length e
 unfold fG at this
 rw[List.length_append,eZ]at this
 simp at this
theorem E6:(iV uA).1=0:=by kernel_rfl
theorem Gj:qC uA=true:=by kernel_rfl
theorem HD:uA.length≤1048576:=Nat.le_of_ble_eq_true (by kernel_rfl)
theorem Gv:JH.length≤1048576:=Nat.le_of_ble_eq_true (by kernel_rfl)
section
variable {im dg ld:List UInt8} {n r i a t F bd ak sl:Nat} {s:St} {h:aK} {du:Int}
theorem Ke {dw aw:Int} {p:List UInt8} (hd:Hd dg s) (hx:s.tx=[]) (hk:s.cache=[ntW dw aw p]) (hp:p≠[]) (hcm:(s.phase=1∨s.phase=2)∧1≤s.block∧s.next≤s.image.length+1) (hl:s.lease≠3) (H:HR im n h) (hak:ak≤4) (hsl:sl≤100000) (hbd:bd≤100000):
 iE n a t uA ⟨s,h,bd,ak,sl⟩ []=some (⟨{s with cache:=[ntK (wrap64 (s.now+60)) 0]},h,bd,ak,sl⟩,[(aT bG aL 2048 p).1]):=by
 have hfr:=jM (a:=a) (t:=t) (d:=⟨s,h,bd,ak,sl⟩) H HD Gj hak hsl hbd (D9 h) (Nat.le_refl 1) []
 rw[E6,if_neg (by rintro⟨x,_⟩;cases x),if_neg (by decide)]at hfr
 have eg:=Fz (s:=s) (du:=dw) (ak:=aw) (p:=p) (by rw[hd.c];rfl) hl hd.adr hk hp (by rw[hx,hd.c];show 0≠16;decide)
 have hone:=jI t ⟨s,h,bd,ak,sl⟩ [] JH hd.rx (by show s.c.rx≠0;rw[hd.c];show 16≠0;decide) (by unfold St.over;rcases hcm.1 with x|x<;>(show(s.phase==3||s.phase==4)=false;rw[x];rfl)) Gv (fun _=>hcm.2) (by rw[eg,hx];exact Nat.le_of_ble_eq_true rfl) (Nat.zero_le _) (by have:=hd.lease;show s.lease≠2;omega)
 have hfr2:=hfr.trans hone
 rw[eg,hx]at hfr2
 rw[hfr2]
 rw[show({s with cache:=[ntK (wrap64 (s.now+60)) 0]}:St)={s with cache:=[ntK (wrap64 (s.now+60)) 0],tx:=[]} by rw[←hx]]
 rfl
theorem Tr.cacheAs {q:Nat} (T:Tr im r q s h) (c:List bD):Tr im r q {s with cache:=c} h:=by
 rcases T with⟨A,p⟩|⟨pe,k,B,o,h1,h2,h3,h4,h5⟩
 ·exact .inl ⟨⟨A.phase,A.port,A.next,A.came,A.block,A.image,A.goal,A.last⟩,p⟩
 ·exact .inr ⟨pe,k,⟨B.phase,B.port,B.peer,B.block,B.wind,B.next,B.came,B.image,B.goal,B.last⟩,o,h1,h2,h3,h4,h5⟩
theorem Mid.cacheAs (m:Mid dg n t s bd) (c:List bD):Mid dg n t {s with cache:=c} bd:=⟨⟨m.hd.c,m.hd.rx,m.hd.draw,m.hd.xid,m.hd.lease,m.hd.addr,m.hd.mask,m.hd.router,m.hd.server,m.hd.source⟩,m.tx,m.now,m.t1,m.t2,m.untl,m.cls,m.live,m.le⟩
theorem JI {E:List (List UInt8)} (m:Mid dg n t s bd) (e:EOk im r s h sl E) (ts:1≤s.tsends) (hsh:sha im=dg) (H:HR im n h) (hno:h.now=(t:Int)) (hl:im.length=3000) (hr:r≤6) (hrn:r*n≤bd) (ha:a≤4) (hak:ak≤a) (hsl:sl+2≤3*t) (ht:t≤10000):
 ∃d,kS n a t (F+5) E ⟨s,h,bd,ak,sl⟩=some d∧((d.s.phase=3∧d.bound≤t)∨In4 im dg n a t d):=by
 have hbd:bd≤100000:=by have:=m.le;omega
 have two:∀(F:Nat) (s:St) (i:Nat) (du:Int),Mid dg n t s bd→i<65536→s.cache=[ntK du 0]→Tr im r 1 s h→1≤s.tsends→s.tsends≤sl%3+1→∃d,kS n a t (F+3) [tF i s.goal s.last] ⟨s,h,bd,ak,sl⟩=some d∧((d.s.phase=3∧d.bound≤t)∨In4 im dg n a t d):=by
  intro F s i du m hi hk T t1 t2
  obtain⟨d,e,q1,q2,q3,q4,q5,q6⟩:=LO (F:=F) (a:=a) (t:=t) (n:=n) (bd:=bd) (ak:=ak) m.hd hk m.tx hsh T H hl hr hi t1 t2 (by omega) (by omega) hbd
  refine⟨d,e,?_⟩
  rcases q6 with p3|⟨v,vx,v1,v2,T'⟩
  ·exact .inl ⟨p3,by have:=m.le;omega⟩
  ·refine .inr ⟨q4,q5.trans hno,?_,.inr ⟨du,v.cache.trans hk⟩,by omega,by omega,⟨r,hr,by rw[q1];exact hrn,T'⟩,v1,v2⟩
   rw[q1]
   exact m.mv v vx
 rcases e with⟨rfl,hc,T,t2⟩|⟨i,du,hi,rfl,hk,T,t2⟩|⟨i,du,aw,hi,rfl,hk,T,t2⟩
 ·exact⟨_,gE,.inr ⟨H,hno,m,hc,hak,by show sl≤_;omega,⟨r,hr,hrn,T⟩,ts,t2⟩⟩
 ·exact two (F+2) s i du m hi hk T ts t2
 ·have ea:=Ke (n:=n) (a:=a) (t:=t) (bd:=bd) (ak:=ak) (sl:=sl) m.hd m.tx hk Ii (T.calm hl) (by have:=m.hd.lease;omega) H (by omega) (by omega) hbd
  have e2:=two (F+1) {s with cache:=[ntK (wrap64 (s.now+60)) 0]} i _ (m.cacheAs _) hi rfl (T.cacheAs _) ts t2
  rw[eC ea,H8]
  exact e2
theorem EOk.hostD {E:List (List UInt8)} (e:EOk im r s h sl E):EOk im r s (hostD h) sl E:=by
 rcases e with⟨x,hc,T,t2⟩|⟨i,du,hi,x,hk,T,t2⟩|⟨i,du,aw,hi,x,hk,T,t2⟩
 ·exact .inl ⟨x,hc,T.hostD,t2⟩
 ·exact .inr (.inl ⟨i,du,hi,x,hk,T.hostD,t2⟩)
 ·exact .inr (.inr ⟨i,du,aw,hi,x,hk,T.hostD,t2⟩)
theorem EOk.grant {E:List (List UInt8)} {u:St} (e:EOk im r s h sl E) (g:Gr t n s u):EOk im r u h sl E:=by
 rcases e with⟨x,hc,T,t2⟩|⟨i,du,hi,x,hk,T,t2⟩|⟨i,du,aw,hi,x,hk,T,t2⟩
 ·exact .inl ⟨x,by rw[g.cache];exact hc,T.grant g,by rw[g.tsends];exact t2⟩
 ·exact .inr (.inl ⟨i,du,hi,by rw[g.goal,g.last];exact x,g.cache.trans hk,T.grant g,by rw[g.tsends];exact t2⟩)
 ·exact .inr (.inr ⟨i,du,aw,hi,x,by rw[g.goal,g.last];exact g.cache.trans hk,T.grant g,by rw[g.tsends];exact t2⟩)
theorem EOk.calm {E:List (List UInt8)} (e:EOk im r s h sl E) (hl:im.length=3000):((s.phase=1∨s.phase=2)∧1≤s.block∧s.next≤s.image.length+1)∧E.length≤1:=by
 rcases e with⟨rfl,hc,T,t2⟩|⟨i,du,hi,rfl,hk,T,t2⟩|⟨i,du,aw,hi,rfl,hk,T,t2⟩
 ·exact⟨T.calm hl,Nat.zero_le _⟩
 ·exact⟨T.calm hl,Nat.le_refl _⟩
 ·exact⟨T.calm hl,Nat.le_refl _⟩
theorem MF {E:List (List UInt8)} {da:Mac} {ti cl:Nat} (m:Mid dg n t s bd) (e:EOk im r s h sl E) (ts:1≤s.tsends) (hsh:sha im=dg) (H:HR im n h) (hno:h.now=(t:Int)) (hl:im.length=3000) (hr:r≤6) (hrn:r*n≤bd) (ha:a≤4) (hak:ak≤a) (hsl:sl+2≤3*t) (ht:t≤10000) (hn1:16≤n) (hn:n≤2015) (M:Msg s.xid cl 3 ld) (hi:i<65536)
 (hw:(s.lease=5∧t<bd+n/8*7∧ti=aF)∨(s.lease=6∧ti=4294967295)):
 ∃d,kS n a t (F+6) (dhF da i aS ti ld::E) ⟨s,h,bd,ak,sl⟩=some d∧((d.s.phase=3∧d.bound≤t)∨In4 im dg n a t d):=by
 have hle:=m.le
 have hti:ti=aF∨ti=4294967295:=hw.imp (·.2.2) (·.2)
 have hl5:s.lease=5∨s.lease=6:=hw.imp (·.1) (·.1)
 have hcls:=m.cls
 have hw1:decide (bd+n/8*7≤t)=decide (ti=4294967295):=by
  rcases hw with⟨_,x,rfl⟩|⟨x,rfl⟩
  ·rw[decide_eq_false (by omega),decide_eq_false (by decide)]
  ·rw[decide_eq_true (by omega),decide_eq_true rfl]
 obtain⟨hcm,hEl⟩:=e.calm hl
 obtain⟨s',bd',ak',ef,hc⟩:=LS (a:=a) (bd:=bd) (ak:=ak) (sl:=sl) (da:=da) m.hd hl5 m.tx m.now (by omega) hn hn1 hcm H M hi hti hw1 (by omega) (by omega) (by omega) (by omega) E (by omega)
 rw[eC ef]
 rcases hc with⟨rfl,rfl,rfl,hq⟩|⟨hd',g,rfl,rfl⟩
 ·exact JI m e.hostD ts hsh H.hostD hno hl hr hrn ha hq hsl ht
 ·refine JI ⟨hd',g.tx.trans m.tx,g.now.trans m.now,g.t1,g.t2,g.untl,.inl g.lease,by omega,Nat.le_refl _⟩ (e.hostD.grant g) (by rw[g.tsends];exact ts) hsh H.hostD hno hl hr (Nat.le_trans hrn hle) ha (Nat.zero_le _) hsl ht
theorem MJ {cl:Nat} {dw aw:Int} (m:Mid dg n t s bd) (T:Tr im r 0 s h) (t2:s.tsends≤sl%3) (hk:s.cache=[ntW dw aw (pkU i aS aF 68 67 ld)]) (ts:1≤s.tsends) (hsh:sha im=dg) (H:HR im n h) (hno:h.now=(t:Int)) (hl:im.length=3000) (hr:r≤6) (hrn:r*n≤bd) (ha:a≤4) (hak:ak≤a) (hsl:sl+2≤3*t) (ht:t≤10000) (hn1:16≤n) (hn:n≤2015) (M:Msg s.xid cl 3 ld) (hi:i<65536)
 (hw:s.lease=5∧t<bd+n/8*7):
 ∃d,kS n a t (F+7) [uA] ⟨s,h,bd,ak,sl⟩=some d∧((d.s.phase=3∧d.bound≤t)∨In4 im dg n a t d):=by
 have hle:=m.le
 have ea:=Ke (n:=n) (a:=a) (t:=t) (bd:=bd) (ak:=ak) (sl:=sl) m.hd m.tx hk Ii (T.calm hl) (by have:=m.hd.lease;omega) H (by omega) (by omega) (by omega)
 rw[eC ea,H8]
 exact MF (m.cacheAs _) (.inl ⟨rfl,.inr ⟨_,rfl⟩,T.cacheAs _,t2⟩) ts hsh H hno hl hr hrn ha hak hsl ht hn1 hn M hi (.inl ⟨hw.1,hw.2,rfl⟩)
end
end Go.Proofs.YtcbkaiakdhiloacGreatDoor
namespace Go.Proofs.YtcbkaiakdhiloacGreatDoor
open Go.RowKit Go.Proofs
structure Xf (s u:St):Prop where
 phase:u.phase=s.phase
 port:u.port=s.port
 peer:u.peer=s.peer
 block:u.block=s.block
 wind:u.wind=s.wind
 next:u.next=s.next
 came:u.came=s.came
 image:u.image=s.image
 goal:u.goal=s.goal
 last:u.last=s.last
theorem Xf.trans {a b c:St} (x:Xf a b) (y:Xf b c):Xf a c:=⟨y.phase.trans x.phase,y.port.trans x.port,y.peer.trans x.peer,y.block.trans x.block,y.wind.trans x.wind,y.next.trans x.next,y.came.trans x.came,y.image.trans x.image,y.goal.trans x.goal,y.last.trans x.last⟩
section
variable {im dg ld:List UInt8} {n r i a t F bd ak sl:Nat} {s u:St} {h:aK} {du:Int}
theorem Tr.pend (T:Tr im r 0 s h) (x:Xf s u) (ts:u.tsends=s.tsends+1) {t':Int} (hw:h.whn<t'):Tr im r 1 u {h with now:=t'}:=by
 rcases T with⟨A,p⟩|⟨pe,k,B,o,h1,h2,h3,h4,h5⟩
 ·exact .inl ⟨⟨x.phase.trans A.phase,x.port.trans A.port,x.next.trans A.next,x.came.trans A.came,x.block.trans A.block,x.image.trans A.image,x.goal.trans A.goal,x.last.trans A.last⟩,by show h.port+1≤_;omega⟩
 ·exact .inr ⟨pe,k,⟨x.phase.trans B.phase,x.port.trans B.port,x.peer.trans B.peer,x.block.trans B.block,x.wind.trans B.wind,x.next.trans B.next,x.came.trans B.came,x.image.trans B.image,x.goal.trans B.goal,x.last.trans B.last⟩,⟨o.image,o.next,o.port,o.block,o.window⟩,h1,h2,h3,h4,fun _ y=>by have:=y.2;dsimp only at this;omega⟩
theorem Tr.idle (T:Tr im r 0 s h) (x:Xf s u) (ts:u.tsends=s.tsends) {t':Int}:Tr im r 0 u {h with now:=t'}:=by
 rcases T with⟨A,p⟩|⟨pe,k,B,o,h1,h2,h3,h4,h5⟩
 ·exact .inl ⟨⟨x.phase.trans A.phase,x.port.trans A.port,x.next.trans A.next,x.came.trans A.came,x.block.trans A.block,x.image.trans A.image,x.goal.trans A.goal,x.last.trans A.last⟩,by show h.port+0≤_;omega⟩
 ·exact .inr ⟨pe,k,⟨x.phase.trans B.phase,x.port.trans B.port,x.peer.trans B.peer,x.block.trans B.block,x.wind.trans B.wind,x.next.trans B.next,x.came.trans B.came,x.image.trans B.image,x.goal.trans B.goal,x.last.trans B.last⟩,⟨o.image,o.next,o.port,o.block,o.window⟩,h1,h2,h3,h4,fun y=>absurd y Nat.zero_ne_one⟩
theorem IX (hk:s.cache=[]∨∃du,s.cache=[ntK du 0]):∃c',s.neighbours={s with cache:=c'}∧(c'=[]∨∃du,c'=[ntK du 0]):=by
 rcases hk with hk|⟨du,hk⟩
 ·unfold St.neighbours
  rw[hk]
  exact⟨[],rfl,.inl rfl⟩
 ·have ea:St.asksE s.now (ntK du 0)=false:=by unfold St.asksE ntK;simp
  unfold St.neighbours
  rw[hk]
  by_cases hd:s.now<du
  ·have ek:St.keepE s.now (ntK du 0)=some (ntK du 0):=by unfold St.keepE;rw[if_pos (show s.now<(ntK du 0).due from hd)]
   refine⟨[ntK du 0],?_,.inr ⟨du,rfl⟩⟩
   simp only[List.filter_cons,List.filter_nil,ea,List.filterMap_cons,List.filterMap_nil,ek]
   rfl
  ·have ek:St.keepE s.now (ntK du 0)=none:=by unfold St.keepE;rw[if_neg (show ¬s.now<(ntK du 0).due from hd)];rfl
   refine⟨[],?_,.inl rfl⟩
   simp only[List.filter_cons,List.filter_nil,ea,List.filterMap_cons,List.filterMap_nil,ek]
   rfl
structure Pre (dg:List UInt8) (n t:Nat) (s:St) (bd:Nat):Prop where
 hd:Hd dg s
 tx:s.tx=[]
 now:s.now=(t:Int)
 t1:s.t1=((bd+n/2:Nat):Int)
 t2:s.t2=((bd+n/8*7:Nat):Int)
 untl:s.untl=((bd+n:Nat):Int)
 cls:s.lease=4∨(s.lease=5∧bd+n/2≤t)∨(s.lease=6∧bd+n/8*7≤t)
 le:bd≤t
theorem Pre.leases_drop (p:Pre dg n t s bd) (hn:0<n) (h:bd+n≤t):s.leases=s.drop:=by
 have hc:=p.cls
 unfold St.leases
 rw[if_neg (by omega),if_neg (by omega),if_neg (by omega),if_neg (by rw[p.untl];omega),if_pos (by rw[p.untl,p.now];omega)]
theorem Pre.leases_c (p:Pre dg n t s bd) (hn:0<n) (h:t<bd+n):∃l x b,s.leases=(if b=true then({s with lease:=l,lagain:=x}:St).say 3 (l==5) []else {s with lease:=l})∧(b=true→(l=5∧t<bd+n/8*7)∨l=6)∧(l=4∨(l=5∧bd+n/2≤t)∨(l=6∧bd+n/8*7≤t)):=by
 have hc:=p.cls
 unfold St.leases
 rw[if_neg (by omega),if_neg (by omega),if_neg (by omega),if_neg (by rw[p.untl];omega),if_neg (by rw[p.untl,p.now];omega)]
 dsimp only
 obtain⟨l,hl⟩:∃l,(if s.t2≤s.now then 6 else if s.t1≤s.now∧s.lease=4 then 5 else s.lease)=l:=⟨_,rfl⟩
 rw[hl]
 have hl2:(l=4∨(l=5∧bd+n/2≤t)∨(l=6∧bd+n/8*7≤t))∧(l=5→t<bd+n/8*7):=by
  rw[p.t1,p.t2,p.now]at hl
  split at hl
  ·omega
  split at hl<;>omega
 by_cases hb:l≠4∧(l≠s.lease∨s.lagain≤s.now)
 ·rw[if_pos hb]
  exact⟨l,_,true,rfl,fun _=>(by omega),hl2.1⟩
 ·rw[if_neg hb]
  exact⟨l,0,false,rfl,fun x=>absurd x Bool.false_ne_true,hl2.1⟩
structure Lx (dg:List UInt8) (n t bd:Nat) (v y:St):Prop where
 xf:Xf v y
 ts:y.tsends=v.tsends
 mid:Mid dg n t {y with tx:=[]} bd
 out:(y.tx=[]∧y.cache=v.cache)∨
  (∃da i ti ld cl,y.tx=[dhF da i aS ti ld]∧y.cache=v.cache∧i<65536∧Msg y.xid cl 3 ld∧((y.lease=5∧t<bd+n/8*7∧ti=aF)∨(y.lease=6∧ti=4294967295)))∨
  (∃dw aw i ld cl,y.tx=[uA]∧v.cache=[]∧y.cache=[ntW dw aw (pkU i aS aF 68 67 ld)]∧i<65536∧Msg y.xid cl 3 ld∧y.lease=5∧t<bd+n/8*7)
theorem Pre.leases_x (p:Pre dg n t s bd) (hn:0<n) (h:t<bd+n) (hk:s.cache=[]∨∃du,s.cache=[ntK du 0]):∃y,s.leases=y∧Lx dg n t bd s y:=by
 obtain⟨l,x,b,e,hb,hl⟩:=p.leases_c hn h
 refine⟨_,e,?_⟩
 have hcls:∀y:St,y.lease=l→(y.lease=4∨(y.lease=5∧bd+n/2≤t)∨(y.lease=6∧bd+n/8*7≤t)):=fun y hy=>by rw[hy];exact hl
 have hl4:4≤l:=by omega
 cases b with
 |false=>
  rw[if_neg (by decide)]
  exact⟨⟨rfl,rfl,rfl,rfl,rfl,rfl,rfl,rfl,rfl,rfl⟩,rfl,⟨⟨p.hd.c,p.hd.rx,p.hd.draw,p.hd.xid,hl4,p.hd.addr,p.hd.mask,p.hd.router,p.hd.server,p.hd.source⟩,rfl,p.now,p.t1,p.t2,p.untl,hl,h,p.le⟩,.inl ⟨p.tx,rfl⟩⟩
 |true=>
  rw[if_pos rfl]
  obtain⟨z,hz⟩:∃z:St,z={s with lease:=l,lagain:=x}:=⟨_,rfl⟩
  have hzd:Hd dg z:=by subst hz;exact⟨p.hd.c,p.hd.rx,p.hd.draw,p.hd.xid,hl4,p.hd.addr,p.hd.mask,p.hd.router,p.hd.server,p.hd.source⟩
  have hcard:z.c.card=aL:=by rw[hzd.c];rfl
  have hroom:z.tx.length≠z.c.tx:=by rw[hzd.c,hz];show s.tx.length≠16;rw[p.tx];decide
  have M:=AK z 3 [] hcard hzd.xid (by rw[hzd.adr];decide) (by decide) (.inl rfl)
  have hid:z.id%65536<65536:=Nat.mod_lt _ (by decide)
  have mk:∀y:St,Xf z y→y.tsends=z.tsends→Hd dg y→y.now=z.now→y.t1=z.t1→y.t2=z.t2→y.untl=z.untl→y.lease=z.lease→
   ((y.tx=[]∧y.cache=s.cache)∨
  (∃da i ti ld cl,y.tx=[dhF da i aS ti ld]∧y.cache=s.cache∧i<65536∧Msg y.xid cl 3 ld∧((y.lease=5∧t<bd+n/8*7∧ti=aF)∨(y.lease=6∧ti=4294967295)))∨
  (∃dw aw i ld cl,y.tx=[uA]∧s.cache=[]∧y.cache=[ntW dw aw (pkU i aS aF 68 67 ld)]∧i<65536∧Msg y.xid cl 3 ld∧y.lease=5∧t<bd+n/8*7))→Lx dg n t bd s y:=by
   intro y a1 a2 a3 a4 a5 a6 a7 a8 a9
   subst hz
   exact⟨⟨a1.phase,a1.port,a1.peer,a1.block,a1.wind,a1.next,a1.came,a1.image,a1.goal,a1.last⟩,a2,⟨⟨a3.c,a3.rx,a3.draw,a3.xid,a3.lease,a3.addr,a3.mask,a3.router,a3.server,a3.source⟩,rfl,a4.trans p.now,a5.trans p.t1,a6.trans p.t2,a7.trans p.untl,hcls y a8,h,p.le⟩,a9⟩
  have hzl:z.lease=l:=by rw[hz]
  have hzc:z.cache=s.cache:=by rw[hz]
  have hzx:z.tx=[]:=by rw[hz];exact p.tx
  rw[←hz]
  rcases hb rfl with⟨h5,h52⟩|h6
  ·have ea:(l==5)=true:=by rw[h5];rfl
   unfold St.say
   rw[ea,if_pos rfl,hzd.server]
   rcases hk with hk|⟨du,hk⟩
   ·rw[AN (s:=z) hcard hzd.hop (hzc.trans hk) hroom hzd.addr,hzd.adr,hzx]
    exact mk _ ⟨rfl,rfl,rfl,rfl,rfl,rfl,rfl,rfl,rfl,rfl⟩ rfl ⟨hzd.c,hzd.rx,hzd.draw,hzd.xid,hzd.lease,hzd.addr,hzd.mask,hzd.router,hzd.server,hzd.source⟩ rfl rfl rfl rfl rfl (.inr (.inr ⟨_,_,_,_,_,rfl,hk,rfl,hid,M,hzl.trans h5,h52⟩))
   ·rw[yV (s:=z) hcard hzd.hop (hzc.trans hk) hroom,hzd.adr,hzx]
    exact mk _ ⟨rfl,rfl,rfl,rfl,rfl,rfl,rfl,rfl,rfl,rfl⟩ rfl ⟨hzd.c,hzd.rx,hzd.draw,hzd.xid,hzd.lease,hzd.addr,hzd.mask,hzd.router,hzd.server,hzd.source⟩ rfl rfl rfl rfl rfl (.inr (.inl ⟨_,_,_,_,_,rfl,hzc,hid,M,.inl ⟨hzl.trans h5,h52,rfl⟩⟩))
  ·have ea:(l==5)=false:=by rw[h6];rfl
   unfold St.say
   rw[ea,if_neg (by decide),iX (u:=z.took) hroom]
   have e2:(aT lE z.took.c.card 2048 (z.packet 4294967295 68 67 (z.msg 3 []))).1=dhF lE (z.id%65536) aS 4294967295 (z.msg 3 []):=by
    show(aT lE z.c.card 2048 (vC (z.id%65536) 64 17 z.address 4294967295 (jC 68 67 z.address 4294967295 (z.msg 3 [])).1).1).1=_
    rw[hcard,hzd.adr]
    rfl
   rw[e2]
   refine mk _ ⟨rfl,rfl,rfl,rfl,rfl,rfl,rfl,rfl,rfl,rfl⟩ rfl ⟨hzd.c,hzd.rx,hzd.draw,hzd.xid,hzd.lease,hzd.addr,hzd.mask,hzd.router,hzd.server,hzd.source⟩ rfl rfl rfl rfl rfl (.inr (.inl ⟨lE,z.id%65536,4294967295,z.msg 3 [],z.address,?_,hzc,hid,M,.inr ⟨hzl.trans h6,rfl⟩⟩))
   show z.tx++_=_
   rw[hzx]
   rfl
end
end Go.Proofs.YtcbkaiakdhiloacGreatDoor
namespace Go.Proofs.YtcbkaiakdhiloacGreatDoor
open Go.RowKit Go.Proofs
section
variable {im dg ld:List UInt8} {n r i a t F bd ak sl:Nat} {s u w y:St} {h:aK} {du:Int}
theorem Kg (m:Mid dg n t {w with tx:=[]} bd) (hp:w.port=1025) (hx:w.tx.length≤2) (hk:w.cache=[]∨(∃du,w.cache=[ntK du 0])∨(∃du ak p,w.cache=[ntW du ak p])):
 ∃z i,i<65536∧w.tell=z∧Xf w z∧z.tsends=w.tsends∧Mid dg n t {z with tx:=[]} bd∧z.xid=w.xid∧z.lease=w.lease∧
  ((∃du,w.cache=[ntK du 0]∧z.tx=w.tx++[tF i w.goal w.last]∧z.cache=w.cache)∨
   (w.cache=[]∧z.tx=w.tx++[uA]∧∃du ak,z.cache=[ntW du ak (pkU i aS aF 1025 w.goal w.last)])∨
   ((∃du ak p,w.cache=[ntW du ak p])∧z.tx=w.tx∧∃du ak,z.cache=[ntW du ak (pkU i aS aF 1025 w.goal w.last)])):=by
 have hd:Hd dg w:=⟨m.hd.c,m.hd.rx,m.hd.draw,m.hd.xid,m.hd.lease,m.hd.addr,m.hd.mask,m.hd.router,m.hd.server,m.hd.source⟩
 have hcard:w.c.card=aL:=by rw[hd.c];rfl
 have hroom:w.tx.length≠w.c.tx:=by rw[hd.c];show w.tx.length≠16;omega
 have hid:w.id%65536<65536:=Nat.mod_lt _ (by decide)
 have hm:∀z:St,Mv w z→Mid dg n t {z with tx:=[]} bd:=fun z v=>m.mv ⟨v.c,v.rx,v.now,v.draw,v.lease,v.xid,v.addr,v.mask,v.router,v.server,v.source,v.t1,v.t2,v.untl,v.cache⟩ rfl
 have hm2:∀(c:List bD) (z:St),Mv {w with cache:=c} z→Mid dg n t {z with tx:=[]} bd:=fun c z v=>(m.cacheAs c).mv ⟨v.c,v.rx,v.now,v.draw,v.lease,v.xid,v.addr,v.mask,v.router,v.server,v.source,v.t1,v.t2,v.untl,v.cache⟩ rfl
 unfold St.tell
 rw[hd.source,hp]
 rcases hk with hk|⟨du,hk⟩|⟨du,aw,p,hk⟩
 ·rw[AN (s:=w) hcard hd.hop hk hroom hd.addr,hd.adr]
  exact⟨_,w.id%65536,hid,rfl,⟨rfl,rfl,rfl,rfl,rfl,rfl,rfl,rfl,rfl,rfl⟩,rfl,hm2 _ _ ⟨rfl,rfl,rfl,rfl,rfl,rfl,rfl,rfl,rfl,rfl,rfl,rfl,rfl,rfl,rfl⟩,rfl,rfl,.inr (.inl ⟨hk,rfl,_,_,rfl⟩)⟩
 ·rw[yV (s:=w) hcard hd.hop hk hroom,hd.adr]
  exact⟨_,w.id%65536,hid,rfl,⟨rfl,rfl,rfl,rfl,rfl,rfl,rfl,rfl,rfl,rfl⟩,rfl,hm _ ⟨rfl,rfl,rfl,rfl,rfl,rfl,rfl,rfl,rfl,rfl,rfl,rfl,rfl,rfl,rfl⟩,rfl,rfl,.inl ⟨du,hk,rfl,rfl⟩⟩
 ·rw[F4 (s:=w) hcard hd.hop hk,hd.adr]
  exact⟨_,w.id%65536,hid,rfl,⟨rfl,rfl,rfl,rfl,rfl,rfl,rfl,rfl,rfl,rfl⟩,rfl,hm2 _ _ ⟨rfl,rfl,rfl,rfl,rfl,rfl,rfl,rfl,rfl,rfl,rfl,rfl,rfl,rfl,rfl⟩,rfl,rfl,.inr (.inr ⟨⟨du,aw,p,hk⟩,rfl,_,_,rfl⟩)⟩
theorem Je {v:St} (x:Lx dg n t bd v y) (hvk:v.cache=[]∨∃du,v.cache=[ntK du 0]) (hv:Xf s v) (hvt:v.tsends=s.tsends) (T:Tr im r 0 s h) (ts:1≤s.tsends) (t2:s.tsends≤sl%3) (hsh:sha im=dg) (H:HR im n h) (hno:h.now+1=(t:Int)) (hl:im.length=3000) (hr:r≤6) (hrn:r*n≤bd) (ha:a≤4) (hak:ak≤a) (hsl:sl+2≤3*t) (ht:t≤10000) (hn1:16≤n) (hn:n≤2015):
 y.again.tx.length≤16∧∃d,kS n a t (F+7) y.again.tx ⟨{y.again with tx:=[]},{h with now:=(t:Int)},bd,ak,sl⟩=some d∧((d.s.phase=3∧d.bound≤t)∨In4 im dg n a t d):=by
 have hw:=H.whn
 have H':HR im n {h with now:=(t:Int)}:=⟨H.image,H.lease,H.next,H.options,H.sent,H.window,by show h.whn≤(t:Int);omega⟩
 have hxf:=hv.trans x.xf
 have hts:y.tsends=s.tsends:=x.ts.trans hvt
 obtain⟨hph,_,_⟩:=T.calm hl
 have hbusy:y.busy=true:=by unfold St.busy;rw[hxf.phase];rcases hph with e|e<;>rw[e]<;>rfl
 have hport:y.port=1025:=by
  rw[hxf.port]
  rcases T with⟨A,_⟩|⟨_,_,B,_⟩
  ·exact A.port
  ·exact B.port
 by_cases hag:y.busy=false∨y.now<y.tagain
 ·have e:y.again=y:=by unfold St.again;rw[if_pos hag]
  rw[e]
  have T0:Tr im r 0 {y with tx:=[]} {h with now:=(t:Int)}:=T.idle (u:={y with tx:=[]}) ⟨hxf.phase,hxf.port,hxf.peer,hxf.block,hxf.wind,hxf.next,hxf.came,hxf.image,hxf.goal,hxf.last⟩ hts
  have t2':({y with tx:=[]}:St).tsends≤sl%3:=by show y.tsends≤_;omega
  have t1':1≤({y with tx:=[]}:St).tsends:=by show 1≤y.tsends;omega
  rcases x.out with⟨hx,hk⟩|⟨da,i,ti,ld,cl,hx,hk,hi,M,hw5⟩|⟨dw,aw,i,ld,cl,hx,hvk',hk,hi,M,h5,h6⟩
  ·rw[hx]
   refine⟨Nat.zero_le _,?_⟩
   exact JI (F:=F+2) x.mid (.inl ⟨rfl,by show y.cache=[]∨∃du,y.cache=_;rw[hk];exact hvk,T0,t2'⟩) t1' hsh H' rfl hl hr hrn ha hak hsl ht
  ·rw[hx]
   refine⟨Nat.le_of_ble_eq_true rfl,?_⟩
   exact MF (F:=F+1) x.mid (.inl ⟨rfl,by show y.cache=[]∨∃du,y.cache=_;rw[hk];exact hvk,T0,t2'⟩) t1' hsh H' rfl hl hr hrn ha hak hsl ht hn1 hn M hi hw5
  ·rw[hx]
   refine⟨Nat.le_of_ble_eq_true rfl,?_⟩
   exact MJ (F:=F) x.mid T0 t2' hk t1' hsh H' rfl hl hr hrn ha hak hsl ht hn1 hn M hi ⟨h5,h6⟩
 ·obtain⟨w,hwd⟩:∃w:St,w={y with tagain:=wrap64 (y.now+y.wait y.tsends),tsends:=y.tsends+1}:=⟨_,rfl⟩
  have e:y.again=w.tell:=by unfold St.again;rw[if_neg hag,if_neg (by omega),hwd]
  rw[e]
  have wt:w.tsends=s.tsends+1:=by rw[hwd];show y.tsends+1=_;omega
  have wx:Xf s w:=by subst hwd;exact⟨hxf.phase,hxf.port,hxf.peer,hxf.block,hxf.wind,hxf.next,hxf.came,hxf.image,hxf.goal,hxf.last⟩
  have wm:Mid dg n t {w with tx:=[]} bd:=by subst hwd;exact x.mid.mv ⟨rfl,rfl,rfl,rfl,rfl,rfl,rfl,rfl,rfl,rfl,rfl,rfl,rfl,rfl,rfl⟩ rfl
  have wo:w.tx=y.tx∧w.cache=y.cache∧w.xid=y.xid∧w.lease=y.lease∧w.port=y.port:=by subst hwd;exact⟨rfl,rfl,rfl,rfl,rfl⟩
  clear hwd
  obtain⟨w1,w2,w3,w4,w5⟩:=wo
  have hxo:=x.out
  have hle:w.tx.length≤2:=by
   rw[w1]
   rcases hxo with⟨hx,_⟩|⟨_,_,_,_,_,hx,_⟩|⟨_,_,_,_,_,hx,_⟩<;>rw[hx]<;>simp
  have hck:w.cache=[]∨(∃du,w.cache=[ntK du 0])∨(∃du ak p,w.cache=[ntW du ak p]):=by
   rw[w2]
   rcases hxo with⟨_,hk⟩|⟨_,_,_,_,_,_,hk,_⟩|⟨dw,aw,i,ld,cl,hx,hvk',hk,_⟩
   ·rw[hk];exact hvk.imp id .inl
   ·rw[hk];exact hvk.imp id .inl
   ·exact .inr (.inr ⟨_,_,_,hk⟩)
  obtain⟨z,i,hi,ez,zx,zt,zm,zi,zl,zo⟩:=Kg wm (w5.trans hport) hle hck
  rw[ez]
  refine⟨by rcases zo with⟨_,_,q,_⟩|⟨_,q,_⟩|⟨_,q,_⟩<;>rw[q]<;>first|(rw[List.length_append];show w.tx.length+1≤16;omega)|omega,?_⟩
  have T1:Tr im r 1 {z with tx:=[]} {h with now:=(t:Int)}:=T.pend (u:={z with tx:=[]}) (by have q:=wx.trans zx;exact⟨q.phase,q.port,q.peer,q.block,q.wind,q.next,q.came,q.image,q.goal,q.last⟩) (by show z.tsends=_;omega) (by omega)
  have t2':({z with tx:=[]}:St).tsends≤sl%3+1:=by show z.tsends≤_;omega
  have t1':1≤({z with tx:=[]}:St).tsends:=by show 1≤z.tsends;omega
  have hE:∃E,(z.tx=w.tx++E∧(w.cache=[]∨∃du,w.cache=[ntK du 0]))∧EOk im r {z with tx:=[]} {h with now:=(t:Int)} sl E∨((∃du ak p,w.cache=[ntW du ak p])∧z.tx=w.tx∧EOk im r {z with tx:=[]} {h with now:=(t:Int)} sl [uA]):=by
   rcases zo with⟨du,hk,hx,hk2⟩|⟨hk,hx,du,aw,hk2⟩|⟨hk,hx,du,aw,hk2⟩
   ·exact⟨_,.inl ⟨⟨hx,.inr ⟨du,hk⟩⟩,.inr (.inl ⟨i,du,hi,by rw[show({z with tx:=[]}:St).goal=w.goal from zx.goal,show({z with tx:=[]}:St).last=w.last from zx.last],hk2.trans hk,T1,t2'⟩)⟩⟩
   ·exact⟨_,.inl ⟨⟨hx,.inl hk⟩,.inr (.inr ⟨i,du,aw,hi,rfl,by show z.cache=_;rw[hk2,zx.goal,zx.last],T1,t2'⟩)⟩⟩
   ·exact⟨[],.inr ⟨hk,hx,.inr (.inr ⟨i,du,aw,hi,rfl,by show z.cache=_;rw[hk2,zx.goal,zx.last],T1,t2'⟩)⟩⟩
  obtain⟨E,⟨⟨hz,hk9⟩,hE⟩|⟨hk9,hz,hE⟩⟩:=hE
  ·rcases hxo with⟨hx,hk⟩|⟨da,j,ti,ld,cl,hx,hk,hj,M,hw5⟩|⟨dw,aw,j,ld,cl,hx,hvk',hk,hj,M,h5,h6⟩
   ·rw[hz,w1,hx,List.nil_append]
    exact JI (F:=F+2) zm hE t1' hsh H' rfl hl hr hrn ha hak hsl ht
   ·rw[hz,w1,hx]
    refine MF (F:=F+1) zm hE t1' hsh H' rfl hl hr hrn ha hak hsl ht hn1 hn (cl:=cl) ?_ hj ?_
    ·show Msg z.xid cl 3 ld
     rw[zi,w3];exact M
    ·show(z.lease=5∧_)∨(z.lease=6∧_)
     rw[zl,w4];exact hw5
   ·exfalso
    rw[w2,hk]at hk9
    rcases hk9 with q|⟨_,q⟩<;>cases q
  ·rcases hxo with⟨hx,hk⟩|⟨da,j,ti,ld,cl,hx,hk,hj,M,hw5⟩|⟨dw,aw,j,ld,cl,hx,hvk',hk,hj,M,h5,h6⟩
   ·exfalso
    obtain⟨_,_,_,hk9⟩:=hk9
    rw[w2,hk]at hk9
    rcases hvk with q|⟨_,q⟩<;>rw[q]at hk9<;>cases hk9
   ·exfalso
    obtain⟨_,_,_,hk9⟩:=hk9
    rw[w2,hk]at hk9
    rcases hvk with q|⟨_,q⟩<;>rw[q]at hk9<;>cases hk9
   ·rw[hz,w1,hx]
    exact JI (F:=F+2) zm hE t1' hsh H' rfl hl hr hrn ha hak hsl ht
end
end Go.Proofs.YtcbkaiakdhiloacGreatDoor
namespace Go.Proofs.YtcbkaiakdhiloacGreatDoor
open Go.RowKit Go.Proofs
structure In0 (im dg:List UInt8) (n a t:Nat) (d:RnD):Prop where
 hr:HR im n d.h
 now:d.h.now=(t:Int)
 c:d.s.c=If dg
 rx:d.s.rx=[]
 tx:d.s.tx=[]
 snow:d.s.now=(t:Int)
 phase:d.s.phase=0
 lease:d.s.lease=0
 cache:d.s.cache=[]
 asked:d.asked≤a
 slow:d.slow≤3*t
 bound:d.bound≤t
 reads:∃r,d.h.port≤3*r∧r*n≤t
structure In3 (im dg:List UInt8) (n a t:Nat) (d:RnD):Prop where
 hr:HR im n d.h
 now:d.h.now=(t:Int)
 c:d.s.c=If dg
 rx:d.s.rx=[]
 tx:d.s.tx=[]
 snow:d.s.now=(t:Int)
 phase:d.s.phase=0
 lease:d.s.lease=3
 cache:d.s.cache=[]
 asked:d.asked≤a
 slow:d.slow≤3*t
 bound:d.bound≤t
 bound1:t≤d.bound+1
 lag:d.s.lagain=((d.bound+2:Nat):Int)
 xid:d.s.xid<4294967296
 addr:d.s.addr=aS
 mask:d.s.mask=4294967040
 router:d.s.router=aF
 server:d.s.server=aF
 source:d.s.source=aF
 t1:d.s.t1=((d.bound+n/2:Nat):Int)
 t2:d.s.t2=((d.bound+n/8*7:Nat):Int)
 untl:d.s.untl=((d.bound+n:Nat):Int)
 reads:∃r,d.h.port≤3*r∧r*n≤d.bound
def Inv (im dg:List UInt8) (n a t:Nat) (d:RnD):Prop:=In0 im dg n a t d∨In3 im dg n a t d∨In4 im dg n a t d
theorem r6 {n r b:Nat} (h:r*n≤b) (hb:b≤3*n+59) (hn:16≤n):r≤6:=by
 by_cases h7:7≤r
 ·have:=Nat.mul_le_mul_right n h7
  omega
 ·omega
section
variable {im dg ld:List UInt8} {n r i a t F bd ak sl:Nat} {s u w y:St} {h:aK} {du:Int} {d:RnD}
theorem ET (e:s.now=(t:Int)) (ht:t≤10000):wrap64 (s.now+1)=((t+1:Nat):Int):=by
 rw[e];exact(IntWalk.wrap64_in _ ⟨by omega,by omega⟩).trans (by omega)
def Bi (im dg:List UInt8) (n a F t:Nat) (d:RnD):Prop:=
 (d.s.tick 1).tx.length≤16∧∃d',kS n a (t+1) (F+7) (d.s.tick 1).tx ⟨{d.s.tick 1 with tx:=[]},{d.h with now:=((t+1:Nat):Int)},d.bound,d.asked,d.slow⟩=some d'∧((d'.s.phase=3∧d'.bound≤t+1)∨Inv im dg n a (t+1) d')
theorem Me (I:In4 im dg n a t d) (hsh:sha im=dg) (hl:im.length=3000) (ha:a≤4) (ht:t+1≤3*n+59) (hn1:16≤n) (hn:n≤2015):Bi im dg n a F t d:=by
 obtain⟨r,hr,hrn,T⟩:=I.tr
 obtain⟨hph,_,_⟩:=T.calm hl
 obtain⟨s,h,bd,ak,sl⟩:=d
 obtain⟨i1,i2,m,i4,i5,i6,_,⟨i8,i9⟩⟩:=I
 dsimp only at*
 unfold Bi
 dsimp only
 have hnow:=ET m.now (by omega)
 obtain⟨u,hu⟩:∃u:St,u={s with now:=((t+1:Nat):Int),draw:=1}:=⟨_,rfl⟩
 have hov:u.over=false:=by rw[hu];unfold St.over;rcases hph with x|x<;>(show(s.phase==3||s.phase==4)=false;rw[x];rfl)
 have etk:s.tick 1=u.neighbours.leases.again:=by
  unfold St.tick
  rw[hnow]
  dsimp only
  rw[←hu,hov,if_neg (by decide)]
 rw[etk]
 have huc:u.cache=[]∨∃du,u.cache=[ntK du 0]:=by rw[hu];exact i4
 obtain⟨c',en,hc'⟩:=IX huc
 rw[en]
 have hud:Hd dg u:=by subst hu;exact⟨m.hd.c,m.hd.rx,rfl,m.hd.xid,m.hd.lease,m.hd.addr,m.hd.mask,m.hd.router,m.hd.server,m.hd.source⟩
 have P:Pre dg n (t+1) {u with cache:=c'} bd:=by
  subst hu
  exact⟨⟨hud.c,hud.rx,hud.draw,hud.xid,hud.lease,hud.addr,hud.mask,hud.router,hud.server,hud.source⟩,m.tx,rfl,m.t1,m.t2,m.untl,m.cls.imp id (Or.imp (fun x=>⟨x.1,by have:=x.2;omega⟩) fun x=>⟨x.1,by have:=x.2;omega⟩),by have:=m.le;omega⟩
 by_cases hlv:t+1<bd+n
 ·obtain⟨y,ey,x⟩:=P.leases_x (by omega) hlv hc'
  rw[ey]
  have hv:Xf s {u with cache:=c'}∧({u with cache:=c'}:St).tsends=s.tsends:=by subst hu;exact⟨⟨rfl,rfl,rfl,rfl,rfl,rfl,rfl,rfl,rfl,rfl⟩,rfl⟩
  obtain⟨q1,d',q2,q3⟩:=Je (F:=F) (a:=a) (ak:=ak) (sl:=sl) x hc' hv.1 hv.2 T i8 i9 hsh i1 (by omega) hl hr hrn ha i5 (by omega) (by omega) hn1 hn
  exact⟨q1,d',q2,q3.imp id fun q=> .inr (.inr q)⟩
 ·have hle:=m.le
  have hlv2:=m.live
  rw[P.leases_drop (by omega) (by omega)]
  have ea:({u with cache:=c'}:St).drop.again=({u with cache:=c'}:St).drop:=by unfold St.again;rw[if_pos (.inl rfl)]
  rw[ea]
  have hx:({u with cache:=c'}:St).drop.tx=[]:=by rw[hu];exact m.tx
  rw[hx]
  refine⟨Nat.zero_le _,_,gE,.inr (.inl ?_)⟩
  subst hu
  refine⟨⟨i1.image,i1.lease,i1.next,i1.options,i1.sent,i1.window,by have:=i1.whn;show h.whn≤((t+1:Nat):Int);omega⟩,rfl,m.hd.c,m.hd.rx,rfl,rfl,rfl,rfl,rfl,i5,by show sl≤_;omega,by show bd≤_;omega,r+1,?_,by rw[Nat.add_mul];omega⟩
  show h.port≤_
  rcases T with⟨A,p⟩|⟨pe,k,B,o,_,_,_,h4,_⟩
  ·omega
  ·rw[o.port];show pe≤_;omega
end
end Go.Proofs.YtcbkaiakdhiloacGreatDoor
namespace Go.Proofs.YtcbkaiakdhiloacGreatDoor
open Go.RowKit Go.Proofs
theorem HZ {s:St} (hk:s.cache=[]):s.neighbours=s:=by
 unfold St.neighbours
 rw[hk]
 show({s with cache:=[]}:St)=s
 rw[←hk]
section
variable {im dg ld:List UInt8} {n r i a t F bd ak sl:Nat} {s u w y:St} {h:aK} {du:Int} {d:RnD}
theorem HR.up (i1:HR im n h) (e:h.now=(t:Int)):HR im n {h with now:=((t+1:Nat):Int)}:=⟨i1.image,i1.lease,i1.next,i1.options,i1.sent,i1.window,by have:=i1.whn;show h.whn≤((t+1:Nat):Int);omega⟩
theorem Mq (I:In3 im dg n a t d) (hsh:sha im=dg) (hl:im.length=3000) (ha:a≤4) (ht:t+1≤3*n+59) (hn1:16≤n) (hn:n≤2015):Bi im dg n a F t d:=by
 obtain⟨s,h,bd,ak,sl⟩:=d
 obtain⟨i1,i2,ic,irx,itx,inow,iph,il,ica,i5,i6,ib,ib1,ilag,ix,iad,ima,iro,ise,iso,it1,it2,iun,r,hp,hrn⟩:=I
 dsimp only at*
 unfold Bi
 dsimp only
 have hnow:=ET inow (by omega)
 obtain⟨u,hu⟩:∃u:St,u={s with now:=((t+1:Nat):Int),draw:=1}:=⟨_,rfl⟩
 have hov:u.over=false:=by rw[hu];unfold St.over;show(s.phase==3||s.phase==4)=false;rw[iph];rfl
 have etk:s.tick 1=u.neighbours.leases.again:=by
  unfold St.tick
  rw[hnow]
  dsimp only
  rw[←hu,hov,if_neg (by decide)]
 have huc:u.cache=[]:=by rw[hu];exact ica
 rw[etk,HZ huc]
 have hul:u.lease=3:=by rw[hu];exact il
 have hug:u.lagain=((bd+2:Nat):Int):=by rw[hu];exact ilag
 have hun:u.now=((t+1:Nat):Int):=by rw[hu]
 have el:u.leases=if u.now<u.lagain then u else({u with lease:=4}:St).read:=by
  unfold St.leases
  rw[if_neg (by omega),if_neg (by omega),if_pos hul]
 rw[el]
 by_cases hb:t=bd
 ·rw[if_pos (by rw[hun,hug];omega)]
  have ea:u.again=u:=by unfold St.again;rw[if_pos (.inl (by rw[hu];unfold St.busy;show(s.phase==1||s.phase==2)=false;rw[iph];rfl))]
  rw[ea]
  have hx:u.tx=[]:=by rw[hu];exact itx
  rw[hx]
  refine⟨Nat.zero_le _,_,gE,.inr (.inr (.inl ?_))⟩
  subst hu
  exact⟨i1.up i2,rfl,ic,irx,rfl,rfl,iph,il,ica,i5,by show sl≤_;omega,by show bd≤_;omega,by show t+1≤bd+1;omega,ilag,ix,iad,ima,iro,ise,iso,it1,it2,iun,r,hp,hrn⟩
 ·rw[if_neg (by rw[hun,hug];omega)]
  obtain⟨w,hw⟩:∃w:St,w={u with lease:=4,phase:=1,port:=1025,peer:=0,block:=512,wind:=1,next:=1,came:=0,image:=[],last:=FK,goal:=69,tsends:=1,tagain:=((t+1+2:Nat):Int)}:=⟨_,rfl⟩
  have e2:∀x:Int,({s with now:=((t+1:Nat):Int),draw:=1,lease:=4,phase:=1,port:=1025,peer:=0,block:=512,wind:=1,next:=1,came:=0,image:=[]}:St).wait 0=2:=fun x=>rfl
  have er:({u with lease:=4}:St).read=w.tell:=by
   have hta:wrap64 (((t+1:Nat):Int)+2)=((t+1+2:Nat):Int):=(IntWalk.wrap64_in _ ⟨by omega,by omega⟩).trans (by omega)
   rw[hw,←hta,hu]
   unfold St.read St.waits
   show({s with now:=_,draw:=_,lease:=_,phase:=_,port:=_,peer:=_,block:=_,wind:=_,next:=_,came:=_,image:=_,last:=(bU ⟨1,0,s.c.name,[],[⟨St.bNm,dec s.c.block⟩,⟨St.wNm,dec s.c.window⟩,⟨St.tNm,[48]⟩]⟩).1,goal:=_,tsends:=_,tagain:=_}:St).tell=_
   rw[ic]
   rfl
  rw[er]
  have whd:Hd dg w:=by subst hw;subst hu;exact⟨ic,irx,rfl,ix,Nat.le_refl 4,iad,ima,iro,ise,iso⟩
  have wtx:w.tx=[]:=by rw[hw,hu];exact itx
  have et:w.tell={w with id:=w.id+1,cache:=[ntW (wrap64 (w.now+2)) 1 (pkU (w.id%65536) aS aF 1025 69 FK)],tx:=[uA]}:=by
   have q4:w.tell=w.udp aF 1025 69 FK:=by
    unfold St.tell
    rw[whd.source,show w.port=1025 by rw[hw],show w.goal=69 by rw[hw],show w.last=FK by rw[hw]]
   have q:=AN (s:=w) (dst:=aF) (fm:=1025) (port:=69) (ld:=FK) (by rw[whd.c];rfl) whd.hop (by rw[hw];exact huc) (by rw[wtx,whd.c];show 0≠16;decide) whd.addr
   rw[whd.adr,wtx]at q
   exact q4.trans q
  rw[et]
  obtain⟨z,hz⟩:∃z:St,z={w with id:=w.id+1,cache:=[ntW (wrap64 (w.now+2)) 1 (pkU (w.id%65536) aS aF 1025 69 FK)],tx:=[uA]}:=⟨_,rfl⟩
  rw[←hz]
  have ea:z.again=z:=by unfold St.again;rw[if_pos (.inr (by rw[hz,hw];show u.now<((t+1+2:Nat):Int);rw[hun];omega))]
  rw[ea]
  have hx:z.tx=[uA]:=by rw[hz]
  rw[hx]
  refine⟨Nat.le_of_ble_eq_true rfl,?_⟩
  have m:Mid dg n (t+1) {z with tx:=[]} bd:=by
   subst hz;subst hw;subst hu
   exact⟨⟨ic,irx,rfl,ix,Nat.le_refl 4,iad,ima,iro,ise,iso⟩,rfl,rfl,it1,it2,iun,.inl rfl,by omega,by omega⟩
  have e:EOk im r {z with tx:=[]} {h with now:=((t+1:Nat):Int)} sl [uA]:=by
   subst hz;subst hw;subst hu
   exact .inr (.inr ⟨_,_,_,Nat.mod_lt _ (by decide),rfl,rfl,.inl ⟨⟨rfl,rfl,rfl,rfl,rfl,rfl,rfl,rfl⟩,by show h.port+1≤3*r+1;omega⟩,by show 1≤sl%3+1;omega⟩)
  obtain⟨d',q2,q3⟩:=JI (F:=F+2) (a:=a) (ak:=ak) m e (by subst hz;subst hw;exact Nat.le_refl 1) hsh (i1.up i2) rfl hl (r6 hrn (by omega) hn1) hrn ha i5 (by omega) (by omega)
  exact⟨d',q2,q3.imp id fun q=> .inr (.inr q)⟩
end
end Go.Proofs.YtcbkaiakdhiloacGreatDoor
namespace Go.Proofs.YtcbkaiakdhiloacGreatDoor
open Go.RowKit Go.Proofs
def arpP:List UInt8:=(aT lE aL 2054 (gQ 1 aL 0 iS aS).1).1
theorem Eu:(iV arpP).1=0:=by kernel_rfl
theorem F2:qC arpP=true:=by kernel_rfl
theorem Hv:arpP.length≤1048576:=Nat.le_of_ble_eq_true (by kernel_rfl)
theorem CX (h:aK):h.answer arpP=(h,[],true):=by
 have hw:(gQ 1 aL 0 iS aS).1=aZ 1 aL 0 iS aS:=rfl
 have hwl:(aZ 1 aL 0 iS aS).length≤1500:=by simp[aZ,aB,dO]
 have he:(aT lE aL 2054 (aZ 1 aL 0 iS aS)).1=eP lE aL 2054 (aZ 1 aL 0 iS aS):=by unfold aT;rw[if_neg (by decide),if_neg (by omega)]
 have hr:aJ arpP=(⟨lE,aL,2054,iC (aZ 1 aL 0 iS aS)⟩,0):=by
  unfold arpP;rw[hw,he];exact fA _ _ _ _ (by decide) (by decide) hwl
 have hr2:bE (iC (aZ 1 aL 0 iS aS))=(⟨1,aL,0,iS,aS⟩,0):=gZ _ _ _ _ _ _ (.inl rfl) (by decide) (by decide)
 have hll:¬arpP.length<60:=by
  unfold arpP;rw[hw,he]
  unfold eP
  rw[List.length_append,List.length_replicate];omega
 unfold aK.answer
 rw[hr]
 dsimp only
 rw[if_neg (by rintro(h|h|h);exact h rfl;exact h rfl;exact hll h),if_pos rfl,hr2]
 dsimp only
 rw[if_neg (by rintro(h|h|h)<;>exact h rfl)]
 unfold aK.arp
 dsimp only
 rw[if_pos rfl]
 rfl
theorem Ai (t:Nat) (d:RnD) (out:List (List UInt8)) (a:List UInt8) (hrx:d.s.rx=[]) (hc:d.s.c.rx≠0) (hp:d.s.phase=0) (ha:a.length≤1048576) (hx:(d.s.frameP a).tx.length≤16) (hol:out.length≤1000000) (hl:d.s.lease=2) (hl3:(d.s.frameP a).lease=3):
 fE t [a] d out=some (⟨{d.s.frameP a with tx:=[]},d.h,t,0,d.slow⟩,out++(d.s.frameP a).tx):=by
 obtain⟨s,h,bd,ak,sl⟩:=d
 dsimp only at hrx hc hp hx hl hl3⊢
 have e1:(s.put a)=({s with rx:=[a]},true):=by
  unfold St.put
  rw[hrx,if_neg (by show ¬0=s.c.rx;omega)];rfl
 have e2:({s with rx:=[a]}:St).calm=true:=by
  unfold St.calm
  simp only[Bool.and_eq_true,Bool.or_eq_true,decide_eq_true_eq,List.all_cons,List.all_nil,Bool.and_true]
  exact⟨.inl ⟨by show s.phase≠1;omega,by show s.phase≠2;omega⟩,ha⟩
 have e4:({s with rx:=[]}:St)=s:=by rw[←hrx]
 have ho2:({s with rx:=[a]}:St).over=false:=by unfold St.over;show(s.phase==3||s.phase==4)=false;rw[hp];rfl
 have e3:lM 1 {s with rx:=[a]} 0=(s.frameP a,1):=by
  unfold lM
  dsimp only
  rw[ho2,if_neg (by decide),e4]
  rfl
 rw[fE]
 dsimp only
 rw[e1]
 dsimp only
 rw[if_pos e2,e3]
 dsimp only
 rw[if_pos ⟨hx,hol⟩,decide_eq_true (show s.lease=2∧(s.frameP a).lease=3 from⟨hl,hl3⟩),if_pos rfl,if_pos rfl]
 rfl
section
variable {im dg ld:List UInt8} {n r i a t F bd ak sl:Nat} {s u w y:St} {h:aK} {du:Int} {d:RnD}
theorem MS {kind:UInt8} {os:List bK} (hc:w.c=If dg) (hx:w.tx=[]) (hl:w.lease<4):w.say kind false os={w with id:=w.id+1,tx:=[dhF lE (w.id%65536) 0 4294967295 (w.msg kind os)]}:=by
 have had:w.address=0:=by unfold St.address;rw[if_neg (by omega)]
 unfold St.say
 rw[if_neg (by decide),iX (u:=w.took) (by show w.tx.length≠w.c.tx;rw[hx,hc];show 0≠16;decide)]
 have e2:(aT lE w.took.c.card 2048 (w.packet 4294967295 68 67 (w.msg kind os))).1=dhF lE (w.id%65536) 0 4294967295 (w.msg kind os):=by
  show(aT lE w.c.card 2048 (vC (w.id%65536) 64 17 w.address 4294967295 (jC 68 67 w.address 4294967295 (w.msg kind os)).1).1).1=_
  rw[hc,had]
  rfl
 rw[e2]
 show({w.took with tx:=w.tx++_}:St)=_
 rw[hx]
 rfl
theorem La {kind:UInt8} {cl:Nat} (hk:kind=1∨kind=3) (hl:s.lease<4) (H:HR im n h) (M:Msg s.xid cl kind ld) (hi:i<65536) (hak:ak≤4) (hsl:sl≤100000) (hbd:bd≤100000):
 iE n a t (dhF lE i 0 4294967295 ld) ⟨s,h,bd,ak,sl⟩ []=fE t [Ar ((h.id+1)%65536) s.xid aF (if kind=3 then 5 else 2) n] ⟨s,hostD h,bd,ak,sl⟩ []:=by
 obtain⟨os,er,eo⟩:=M.rd
 have e:=uC h lE i 0 4294967295 s.xid cl kind ld os hi (by decide) (by decide) M.len er eo hk
 have e0:Ar ((h.id+1)%65536) s.xid h.next (if kind=3 then 5 else 2) h.lease=Ar ((h.id+1)%65536) s.xid aF (if kind=3 then 5 else 2) n:=by rw[H.next,H.lease]
 rw[e0]at e
 change h.answer (dhF lE i 0 4294967295 ld)=(hostD h,_,_)at e
 have hfr:=jM (a:=a) (t:=t) (d:=⟨s,h,bd,ak,sl⟩) H (DZ (da:=lE) M hi (by decide) (by decide)) (EH M hi (by decide) (by decide)) hak hsl hbd e (Nat.le_refl 1) []
 rw[Cp M hi (by decide) (by decide),if_neg (by rintro⟨_,x⟩;exact x (by show s.address=0;unfold St.address;rw[if_neg (by omega)])),if_neg (by decide)]at hfr
 exact hfr
theorem MC (I:In0 im dg n a t d) (ht:t+1≤3*n+59) (ha:a≤4) (hn1:16≤n) (hn:n≤2015):Bi im dg n a F t d:=by
 obtain⟨s,h,bd,ak,sl⟩:=d
 obtain⟨i1,i2,ic,irx,itx,inow,iph,il,ica,i5,i6,ib,r,hp,hrn⟩:=I
 dsimp only at*
 unfold Bi
 dsimp only
 have hnow:=ET inow (by omega)
 obtain⟨u,hu⟩:∃u:St,u={s with now:=((t+1:Nat):Int),draw:=1}:=⟨_,rfl⟩
 have hov:u.over=false:=by rw[hu];unfold St.over;show(s.phase==3||s.phase==4)=false;rw[iph];rfl
 have etk:s.tick 1=u.neighbours.leases.again:=by
  unfold St.tick
  rw[hnow]
  dsimp only
  rw[←hu,hov,if_neg (by decide)]
 have huc:u.cache=[]:=by rw[hu];exact ica
 rw[etk,HZ huc]
 have hul:u.lease=0:=by rw[hu];exact il
 obtain⟨w,hw⟩:∃w:St,w={u with xid:=u.draw,lease:=1,lsends:=1,lagain:=wrap64 (u.now+({u with xid:=u.draw}:St).wait 0)}:=⟨_,rfl⟩
 have wc:w.c=If dg:=by rw[hw,hu];exact ic
 have wx:w.tx=[]:=by rw[hw,hu];exact itx
 have wl:w.lease=1:=by rw[hw]
 have wxi:w.xid=1:=by rw[hw,hu]
 have el:u.leases={w with id:=w.id+1,tx:=[dhF lE (w.id%65536) 0 4294967295 (w.msg 1 [])]}:=by
  have e1:u.leases=w.asks:=by
   unfold St.leases
   rw[if_pos hul,hw]
   rfl
  rw[e1]
  unfold St.asks
  rw[if_pos wl,MS wc wx (by omega)]
 rw[el]
 have wid:w.id%65536<65536:=Nat.mod_lt _ (by decide)
 have M1:=AK w 1 [] (by rw[wc];rfl) (by rw[wxi];decide) (by unfold St.address;rw[if_neg (by omega)];decide) (by decide) (.inl rfl)
 obtain⟨m1,hm1⟩:∃m,w.msg 1 []=m:=⟨_,rfl⟩
 rw[hm1]at M1⊢
 obtain⟨z,hz⟩:∃z:St,z={w with id:=w.id+1,tx:=[]}:=⟨_,rfl⟩
 have ea:({w with id:=w.id+1,tx:=[dhF lE (w.id%65536) 0 4294967295 m1]}:St).again={w with id:=w.id+1,tx:=[dhF lE (w.id%65536) 0 4294967295 m1]}:=by
  unfold St.again
  rw[if_pos (.inl (by rw[hw,hu];unfold St.busy;show(s.phase==1||s.phase==2)=false;rw[iph];rfl))]
 rw[ea]
 dsimp only
 rw[show({w with id:=w.id+1,tx:=[]}:St)=z from hz.symm]
 refine⟨Nat.le_of_ble_eq_true rfl,?_⟩
 have zc:z.c=If dg:=by rw[hz];exact wc
 have zl:z.lease=1:=by rw[hz];exact wl
 have zxi:z.xid=1:=by rw[hz];exact wxi
 have zrx:z.rx=[]:=by rw[hz,hw,hu];exact irx
 have zph:z.phase=0:=by rw[hz,hw,hu];exact iph
 have ztx:z.tx=[]:=by rw[hz]
 have znow:z.now=((t+1:Nat):Int):=by rw[hz,hw,hu]
 have zca:z.cache=[]:=by rw[hz,hw];exact huc
 have zdr:z.draw=1:=by rw[hz,hw,hu]
 clear hz hw ea el hu huc hul etk hov
 have H1:=i1.up i2
 have p1:=La (a:=a) (t:=t+1) (ak:=ak) (sl:=sl) (bd:=bd) (i:=w.id%65536) (kind:=1) (cl:=w.address) (ld:=m1) (.inl rfl) (by omega:z.lease<4) H1 (by rw[zxi,←wxi];exact M1) wid (by omega) (by omega) (by omega)
 have hp1:({h with now:=((t+1:Nat):Int)}:aK).port≤3*r:=hp
 have hn1':({h with now:=((t+1:Nat):Int)}:aK).now=((t+1:Nat):Int):=rfl
 generalize({h with now:=((t+1:Nat):Int)}:aK)=h1 at*
 rw[if_neg (by decide)]at p1
 have i1d:(h1.id+1)%65536<65536:=Nat.mod_lt _ (by decide)
 have crx:z.c.rx≠0:=by rw[zc];show 16≠0;decide
 have zov:z.over=false:=by unfold St.over;rw[zph];rfl
 obtain⟨w2,hw2⟩:∃w2:St,w2={z with addr:=aS,server:=aF,lease:=2,lsends:=1,lagain:=wrap64 (z.now+({z with addr:=aS,server:=aF}:St).wait 0)}:=⟨_,rfl⟩
 have eg1:z.frameP (Ar ((h1.id+1)%65536) z.xid aF 2 n)={w2 with id:=w2.id+1,tx:=[dhF lE (w2.id%65536) 0 4294967295 (w2.msg 3 w2.both)]}:=by
  rw[qE z _ _ _ _ _ (by rw[zc];rfl) i1d,mG (by rw[zc];rfl) (by rw[zxi];decide) (by decide),yZ zl]
  have e1:({z with addr:=aS,server:=aF}:St).goes 2=w2.asks:=by rw[hw2];rfl
  rw[e1]
  unfold St.asks
  rw[if_neg (by rw[hw2];show ¬(2:Nat)=1;decide),MS (by rw[hw2];exact zc) (by rw[hw2];exact ztx) (by rw[hw2];show(2:Nat)<4;decide)]
 have one:=jI (t+1) ⟨z,hostD h1,bd,ak,sl⟩ [] (Ar ((h1.id+1)%65536) z.xid aF 2 n) zrx crx zov (vT _ _ _ _ _ i1d) (fun x=>by dsimp only at x;omega) (by rw[eg1];exact Nat.le_of_ble_eq_true rfl) (Nat.zero_le _) (by show z.lease≠2;omega)
 rw[eg1]at one
 replace one:=p1.trans one
 obtain⟨m2,hm2⟩:∃m,w2.msg 3 w2.both=m:=⟨_,rfl⟩
 have M2:=AK w2 3 w2.both (by rw[hw2];show z.c.card=_;rw[zc];rfl) (by rw[hw2];show z.xid<_;rw[zxi];decide) (by rw[hw2];unfold St.address;rw[if_neg (by show ¬(4:Nat)≤2;decide)];decide) (by decide) (.inr rfl)
 rw[hm2]at one M2
 dsimp only at one
 rw[List.nil_append]at one
 obtain⟨z2,hz2⟩:∃z2:St,z2={w2 with id:=w2.id+1,tx:=[]}:=⟨_,rfl⟩
 rw[show({w2 with id:=w2.id+1,tx:=[]}:St)=z2 from hz2.symm]at one
 rw[eC one]
 have y1:z2.c=If dg∧z2.lease=2∧z2.xid=1∧z2.rx=[]∧z2.phase=0∧z2.tx=[]∧z2.now=((t+1:Nat):Int)∧z2.cache=[]∧z2.draw=1∧z2.addr=aS∧z2.server=aF:=by subst hz2;subst hw2;exact⟨zc,rfl,zxi,zrx,zph,rfl,znow,zca,zdr,rfl,rfl⟩
 have w2x:w2.xid=z2.xid:=by rw[hz2]
 have wid2:w2.id%65536<65536:=Nat.mod_lt _ (by decide)
 clear hz2 hm2 eg1 one p1
 obtain⟨yc,yl,yxi,yrx,yph,ytx,ynow,yca,ydr,yad,yse⟩:=y1
 have H2:=H1.hostD
 have hp2:(hostD h1).port≤3*r:=hp1
 have hn2:(hostD h1).now=((t+1:Nat):Int):=hn1'
 generalize hostD h1=h2 at*
 have p2:=La (a:=a) (t:=t+1) (ak:=ak) (sl:=sl) (bd:=bd) (s:=z2) (i:=w2.id%65536) (kind:=3) (cl:=w2.address) (ld:=m2) (.inr rfl) (by omega:z2.lease<4) H2 (by rw[←w2x];exact M2) wid2 (by omega) (by omega) (by omega)
 rw[if_pos rfl]at p2
 have i2d:(h2.id+1)%65536<65536:=Nat.mod_lt _ (by decide)
 have eg2:z2.frameP (Ar ((h2.id+1)%65536) z2.xid aF 5 n)={z2.grant aF n with lease:=3,lagain:=wrap64 (z2.now+2),tx:=[arpP]}:=by
  rw[qE z2 _ _ _ _ _ (by rw[yc];rfl) i2d,mG (by rw[yc];rfl) (by rw[yxi];decide) (by decide),uG (.inl yl) yad yse (by omega) (by omega) (by decide),if_pos yl]
  unfold St.ask St.arp
  refine(iX (u:={z2.grant aF n with lease:=3,lagain:=wrap64 (z2.now+2)}) (by show z2.tx.length≠z2.c.tx;rw[ytx,yc];show 0≠16;decide)).trans ?_
  show({z2.grant aF n with lease:=3,lagain:=wrap64 (z2.now+2),tx:=z2.tx++[(aT lE z2.c.card 2054 (gQ 1 z2.c.card 0 iS z2.addr).1).1]}:St)=_
  rw[ytx,yc,yad]
  rfl
 have two:=Ai (t+1) ⟨z2,hostD h2,bd,ak,sl⟩ [] (Ar ((h2.id+1)%65536) z2.xid aF 5 n) yrx (by show z2.c.rx≠0;rw[yc];show 16≠0;decide) yph (vT _ _ _ _ _ i2d) (by rw[eg2];exact Nat.le_of_ble_eq_true rfl) (Nat.zero_le _) yl (by rw[eg2])
 rw[eg2]at two
 replace two:=p2.trans two
 dsimp only at two
 rw[List.nil_append]at two
 obtain⟨z3,hz3⟩:∃z3:St,z3={z2.grant aF n with lease:=3,lagain:=wrap64 (z2.now+2),tx:=[]}:=⟨_,rfl⟩
 rw[show({z2.grant aF n with lease:=3,lagain:=wrap64 (z2.now+2),tx:=[]}:St)=z3 from hz3.symm]at two
 rw[eC two]
 have H3:=H2.hostD
 have hp3:(hostD h2).port≤3*r:=hp2
 have hn3:(hostD h2).now=((t+1:Nat):Int):=hn2
 generalize hostD h2=h3 at*
 have three:=jM (a:=a) (t:=t+1) (d:=⟨z3,h3,t+1,0,sl⟩) H3 Hv F2 (Nat.zero_le _) (by show sl≤_;omega) (by show t+1≤_;omega) (CX h3) (Nat.zero_le 1) []
 rw[Eu,if_neg (by rintro⟨x,_⟩;cases x),if_neg (by decide)]at three
 refine⟨_,(eC (three.trans rfl)).trans gE,.inr (.inr (.inl ?_))⟩
 have wr:∀k:Nat,k≤2015→wrap64 (z2.now+(k:Nat))=((t+1+k:Nat):Int):=fun k hk=>by rw[ynow];exact(IntWalk.wrap64_in _ ⟨by omega,by omega⟩).trans (by omega)
 subst hz3
 exact⟨H3,hn3,yc,yrx,rfl,ynow,yph,rfl,yca,Nat.zero_le _,by show sl≤_;omega,Nat.le_refl _,by show t+1≤t+1+1;omega,wr 2 (by omega),by show z2.xid<_;rw[yxi];decide,yad,rfl,rfl,rfl,rfl,wr _ (by omega),wr _ (by omega),wr _ (by omega),r,hp3,by show r*n≤t+1;omega⟩
end
end Go.Proofs.YtcbkaiakdhiloacGreatDoor
namespace Go.Proofs.YtcbkaiakdhiloacGreatDoor
open Go.RowKit Go.Proofs
section
variable {im dg:List UInt8} {n a t:Nat} {d:RnD}
theorem Inv.now (I:Inv im dg n a t d):d.s.now=(t:Int):=by
 rcases I with I|I|I
 ·exact I.snow
 ·exact I.snow
 ·exact I.mid.now
theorem Inv.bound (I:Inv im dg n a t d):d.bound≤t:=by
 rcases I with I|I|I
 ·exact I.bound
 ·exact I.bound
 ·exact I.mid.le
theorem Inv.goes (I:Inv im dg n a t d) (hl:im.length=3000):¬(d.s.phase=3∨d.s.phase=4)∧¬(4≤d.s.lease∧d.bound+n≤t):=by
 rcases I with I|I|I
 ·exact⟨by have:=I.phase;omega,by have:=I.lease;omega⟩
 ·exact⟨by have:=I.phase;omega,by have:=I.lease;omega⟩
 ·obtain⟨r,_,_,T⟩:=I.tr
  have:=(T.calm hl).1
  have:=I.mid.live
  exact⟨by omega,by omega⟩
theorem Inv.next (I:Inv im dg n a t d) (F:Nat) (hsh:sha im=dg) (hl:im.length=3000) (ha:a≤4) (ht:t+1≤3*n+59) (hn1:16≤n) (hn:n≤2015):Bi im dg n a F t d:=by
 rcases I with I|I|I
 ·exact MC I ht ha hn1 hn
 ·exact Mq I hsh hl ha ht hn1 hn
 ·exact Me I hsh hl ha ht hn1 hn
theorem HY (hsh:sha im=dg) (hl:im.length=3000) (ha:a≤4) (hn1:16≤n) (hn:n≤2015):∀(m t:Nat) (d:RnD),t+m≤3*n+59→Inv im dg n a t d→mE n a 7 m (t+1) d=true
 |0,_,_,_,_=>rfl
 |m+1,t,d,ht,I=>by
  obtain⟨h1,d',e,h2⟩:=I.next 0 hsh hl ha (by omega) hn1 hn
  unfold mE
  rw[if_pos ⟨by rw[I.now];omega,h1⟩]
  rw[show(0+7:Nat)=7 from rfl]at e
  rw[e]
  dsimp only
  rcases h2 with⟨h3,hb⟩|J
  ·rw[if_pos (by omega),if_pos (.inl h3),decide_eq_true h3]
   rfl
  ·obtain⟨g1,g2⟩:=J.goes hl
   have:=J.bound
   rw[if_pos (by omega),if_neg g1,if_neg g2]
   exact HY hsh hl ha hn1 hn m (t+1) d' (by omega) J
end
theorem Gg (im:List UInt8) (hl:im.length=3000) (n a:Nat) (hn1:16≤n) (hn:n≤2015) (ha:a≤4):∃k,mE n a k (3*n+59) 1 ⟨Ew im 600000 8 1,wV im n aF true,0,0,0⟩=true:=by
 refine⟨7,HY (dg:=sha im) rfl hl ha hn1 hn (3*n+59) 0 _ (by omega) (.inl ?_)⟩
 exact⟨⟨rfl,rfl,rfl,rfl,Nat.zero_le _,Nat.zero_le _,Int.le_refl _⟩,rfl,rfl,rfl,rfl,rfl,rfl,rfl,rfl,Nat.zero_le _,Nat.zero_le _,Nat.zero_le _,0,Nat.zero_le _,by rw[Nat.zero_mul];exact Nat.zero_le _⟩
end Go.Proofs.YtcbkaiakdhiloacGreatDoor
