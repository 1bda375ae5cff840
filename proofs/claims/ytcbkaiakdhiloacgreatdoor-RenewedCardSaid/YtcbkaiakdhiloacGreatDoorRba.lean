/- Parts of the walk; written by programs, merged. -/
import Derived.Test.YtcbkaiakdhiloacGreatDoorRaz
set_option linter.unusedSimpArgs false
set_option linter.unusedVariables false
set_option maxRecDepth 20000
set_option maxHeartbeats 8000000
namespace Go.Proofs.YtcbkaiakdhiloacGreatDoor
open Go.RowKit Go.Proofs
def frU (d src:Mac) (i:Nat) (ttl:UInt8) (fi ti fm tp:Nat) (ld:List UInt8):List UInt8:=(aT d src 2048 (vC i ttl 17 fi ti (jC fm tp fi ti ld).1).1).1
theorem FA (h:aK) (fm tp:Nat) (ld:List UInt8) (fi ti:Nat):h.wrap fm tp ld fi ti=({h with id:=(h.id+1)%65536},frU aL bG ((h.id+1)%65536) 9 fi ti fm tp ld):=rfl
section
variable {d src:Mac} {i:Nat} {ttl:UInt8} {fi ti fm tp:Nat} {ld:List UInt8}
theorem gB (hi:i<65536) (ht:ttl.toNat≠0) (hfi:fi<4294967296) (hti:ti<4294967296) (hfm:fm<65536) (htp:tp<65536) (hl:ld.length≤1472):
 ∃b u,aJ (frU d src i ttl fi ti fm tp ld)=(⟨d,src,2048,b⟩,0)∧aW b=(⟨i,ttl.toNat,17,fi,ti,u⟩,0)∧bA u fi ti=(⟨fm,tp,ld⟩,0)∧60≤(frU d src i ttl fi ti fm tp ld).length∧(frU d src i ttl fi ti fm tp ld).length≤1514:=by
 have e1:(jC fm tp fi ti ld).1=cG fm tp ld (gC fm tp fi ti ld):=by unfold jC;rw[if_neg (by omega)]
 have hul:(cG fm tp ld (gC fm tp fi ti ld)).length≤1480:=by rw[fZ];omega
 have hur:=pX fm tp fi ti ld [] hfm htp (by omega)
 rw[List.append_nil]at hur
 unfold frU
 rw[e1]
 generalize cG fm tp ld (gC fm tp fi ti ld)=u at*
 have e2:(vC i ttl 17 fi ti u).1=fG i ttl 17 fi ti u:=by unfold vC;rw[if_neg ht,if_neg (by omega)]
 have hpl:(fG i ttl 17 fi ti u).length≤1500:=by unfold fG;rw[List.length_append,eZ];omega
 rw[e2]
 have hir:=sY i ttl 17 fi ti u (List.replicate (60-(14+(fG i ttl 17 fi ti u).length)) 0) hi hfi hti ht hul
 generalize hp:fG i ttl 17 fi ti u=p at*
 have e3:(aT d src 2048 p).1=eP d src 2048 p:=by unfold aT;rw[if_neg (by decide),if_neg (by omega)]
 have hb:=lV d src 2048 p
 refine⟨iC p,u,?_,?_,hur,?_,?_⟩
 ·rw[e3,fA _ _ _ _ (by decide) (by decide) hpl]
 ·exact hir
 ·rw[e3];unfold eP;rw[List.length_append,List.length_replicate];omega
 ·rw[e3];unfold eP;rw[List.length_append,List.length_replicate,hb];omega
theorem pI (h:aK) (hi:i<65536) (ht:ttl.toNat≠0) (hfi:fi<4294967296) (hti:ti<4294967296) (hfm:fm<65536) (htp:tp<65536) (hl:ld.length≤1472):
 h.answer (frU d aL i ttl fi ti fm tp ld)=if tp=67 then h.dhcp ⟨fm,tp,ld⟩else if(aM ld).2≠0∨fi≠aS∨ti≠h.next then(h,[],false)else h.tftp ⟨fm,tp,ld⟩ (aM ld).1:=by
 obtain⟨b,u,e1,e2,e3,e4,e5⟩:=gB (d:=d) (src:=aL) hi ht hfi hti hfm htp hl
 unfold aK.answer
 rw[e1]
 dsimp only
 rw[if_neg (by rintro(h|h|h);exact h rfl;exact h rfl;omega),if_neg (by decide),e2]
 dsimp only
 rw[e3,if_neg (by rintro(h|h|h|h)<;>exact h rfl)]
theorem AI (hi:i<65536) (ht:ttl.toNat≠0) (hfi:fi<4294967296) (hti:ti<4294967296) (hfm:fm<65536) (htp:tp<65536) (hl:ld.length≤1472)
 (hb:0≤cH St.bNm (aM ld).1.fs∧cH St.bNm (aM ld).1.fs≤70000) (hw:0≤cH St.wNm (aM ld).1.fs∧cH St.wNm (aM ld).1.fs≤70000):qC (frU d src i ttl fi ti fm tp ld)=true:=by
 obtain⟨b,u,e1,e2,e3,_⟩:=gB (d:=d) (src:=src) hi ht hfi hti hfm htp hl
 unfold qC
 rw[e1]
 dsimp only
 rw[e2]
 dsimp only
 rw[e3]
 simp only[Bool.or_eq_true,Bool.and_eq_true,decide_eq_true_eq]
 exact .inr ⟨⟨⟨hb.1,hb.2⟩,hw.1⟩,hw.2⟩
theorem vO (s:St) (hd:d=s.c.card) (hi:i<65536) (ht:ttl.toNat≠0) (hfi:fi<4294967296) (hti:ti<4294967296) (hfm:fm<65536) (htp:tp<65536) (hl:ld.length≤1472):
 s.frameP (frU d src i ttl fi ti fm tp ld)=if tp=68 then s.leasedP ld else if s.busy=true∧s.address≠0∧ti=s.address∧fi=s.source∧tp=s.port then s.loadsP fm ld else s:=by
 obtain⟨b,u,e1,e2,e3,e4,e5⟩:=gB (d:=d) (src:=src) hi ht hfi hti hfm htp hl
 unfold St.frameP
 rw[e1]
 dsimp only
 rw[if_neg (by rintro(h|h);exact h rfl;exact h.1 hd),if_neg (by decide),if_pos rfl]
 unfold St.dgramP
 rw[e2]
 dsimp only
 rw[e3,if_neg (by rintro(h|h)<;>exact h rfl),if_neg (by simp)]
 rfl
end
end Go.Proofs.YtcbkaiakdhiloacGreatDoor
namespace Go.Proofs.YtcbkaiakdhiloacGreatDoor
open Go.RowKit Go.Proofs
def vJ (kd:UInt8) (ls:Nat):List bK:=[⟨53,[kd]⟩,⟨54,big 4 aF⟩,⟨51,big 4 ls⟩,⟨1,[255,255,255,0]⟩,⟨3,big 4 aF⟩]
def GX (xid nx:Nat) (kd:UInt8) (ls:Nat):List UInt8:=(fP true xid 0 aS nx (dO aL) (vJ kd ls)).1
theorem Jc (rp:Bool) (xid client yours next:Nat) (os:List bK) (h:∀o∈os,o.data.length≤255) (hl:os.length≤8) (hd:(os.flatMap fun o=>o.data).length≤100):(iB (eD rp xid client yours next (dO aL)) os).length≤400:=by
 have h1:∀os:List bK,(∀o∈os,o.data.length≤255)→(os.flatMap fun o=>kB o.code o.data).length=2*os.length+(os.flatMap fun o=>o.data).length:=by
  intro os
  induction os with
  |nil=>intro _;rfl
  |cons o r ih=>
   intro h
   rw[List.flatMap_cons,List.flatMap_cons,List.length_append,List.length_append,ih fun x hx=>h x (List.mem_cons_of_mem _ hx),fK _ _ (h o (List.mem_cons_self ..))]
   simp only[List.length_append,List.length_cons,List.length_nil];omega
 unfold iB
 rw[mZ,List.length_append,List.length_append,lS _ _ _ _ _ _ rfl,h1 os h]
 simp only[List.length_cons,List.length_nil];omega
theorem Iv (rp:Bool) (xid client yours next:Nat) (os:List bK) (h:∀o∈os,o.data.length≤255) (hl:os.length≤8) (hd:(os.flatMap fun o=>o.data).length≤100) (hb:os.any lW=false):(fP rp xid client yours next (dO aL) os).1=iB (eD rp xid client yours next (dO aL)) os:=by
 unfold fP
 rw[hb,if_neg (by decide),if_neg (by have:=Jc rp xid client yours next os h hl hd;omega)]
theorem GS (xid nx:Nat) (kd:UInt8) (ls:Nat) (hx:xid<4294967296) (hn:nx<4294967296):aQ (GX xid nx kd ls)=(⟨true,xid,0,aS,nx,aL,vJ kd ls⟩,0):=by
 unfold GX
 rw[Iv]
 ·refine jV _ _ _ _ _ _ _ hx (by decide) (by decide) hn ?_ ?_
  ·intro o ho
   simp only[vJ,List.mem_cons,List.not_mem_nil,or_false]at ho
   rcases ho with rfl|rfl|rfl|rfl|rfl<;>refine⟨?_,?_,?_⟩<;>(dsimp only;decide)
  ·simp[vJ]
 ·intro o ho
  simp only[vJ,List.mem_cons,List.not_mem_nil,or_false]at ho
  rcases ho with rfl|rfl|rfl|rfl|rfl<;>simp[aB]
 ·simp[vJ]
 ·simp[vJ,aB]
 ·rfl
theorem GY (s:St) (kind:UInt8) (os:List bK) (hc:s.c.card=aL) (hx:s.xid<4294967296) (ha:s.address<4294967296) (hk:kind≠4) (hos:os=[]∨os=s.both):
 aQ (s.msg kind os)=(⟨false,s.xid,s.address,0,0,aL,St.msgO kind os⟩,0)∧FT (St.msgO kind os) 53=[kind]:=by
 unfold St.msg
 rw[hc,Iv]
 ·refine⟨jV _ _ _ _ _ _ _ hx ha (by decide) (by decide) ?_ ?_,?_⟩
  ·intro o ho
   unfold St.msgO at ho
   rw[if_neg hk]at ho
   rcases hos with rfl|rfl
   ·simp at ho;rcases ho with rfl|rfl<;>refine⟨?_,?_,?_⟩<;>(dsimp only;decide)
   ·simp[St.both]at ho;rcases ho with rfl|rfl|rfl|rfl<;>refine⟨?_,?_,?_⟩<;>(dsimp only;decide)
  ·unfold St.msgO
   rw[if_neg hk]
   rcases hos with rfl|rfl
   ·simp
   ·simp[St.both]
  ·rcases hos with rfl|rfl<;>rfl
 ·intro o ho
  unfold St.msgO at ho
  rw[if_neg hk]at ho
  rcases hos with rfl|rfl
  ·simp at ho;rcases ho with rfl|rfl<;>simp
  ·simp[St.both]at ho;rcases ho with rfl|rfl|rfl|rfl<;>simp[aB]
 ·unfold St.msgO
  rw[if_neg hk]
  rcases hos with rfl|rfl<;>simp[St.both]
 ·unfold St.msgO
  rw[if_neg hk]
  rcases hos with rfl|rfl<;>simp[St.both,aB]
 ·unfold St.msgO
  rw[if_neg hk]
  rcases hos with rfl|rfl<;>rfl
def Ar (i:Nat) (xid nx:Nat) (kd:UInt8) (ls:Nat):List UInt8:=frU aL bG i 9 aF aS 67 68 (GX xid nx kd ls)
theorem uC (h:aK) (d:Mac) (i fi ti xid cl:Nat) (kind:UInt8) (ld:List UInt8) (os:List bK) (hi:i<65536) (hfi:fi<4294967296) (hti:ti<4294967296) (hl:ld.length≤1472) (hr:aQ ld=(⟨false,xid,cl,0,0,aL,os⟩,0)) (ho:FT os 53=[kind]) (hk:kind=1∨kind=3):
 h.answer (frU d aL i 64 fi ti 68 67 ld)=({h with id:=(h.id+1)%65536},[Ar ((h.id+1)%65536) xid h.next (if kind=3 then 5 else 2) h.lease],true):=by
 rw[pI h hi (by decide) hfi hti (by decide) (by decide) hl,if_pos rfl]
 unfold aK.dhcp
 dsimp only
 rw[hr]
 dsimp only
 rw[if_neg (by rintro(h|h|h);exact h rfl;cases h;exact h rfl),ho]
 have e:∀k:UInt8,(if [kind]=[3]then k else(2:UInt8))=if kind=3 then k else 2:=fun k=>by
  by_cases h3:kind=3
  ·subst h3;rfl
  ·rw[if_neg h3,if_neg (by intro h;exact h3 (List.cons.inj h).1)]
 rw[e,FA]
 have e2:(decide ([kind]=[1])||decide ((if kind=3 then(5:UInt8)else 2)=5))=true:=by rcases hk with rfl|rfl<;>rfl
 dsimp only
 rw[e2]
 unfold Ar GX vJ
 rfl
theorem qE (s:St) (i xid nx:Nat) (kd:UInt8) (ls:Nat) (hc:s.c.card=aL) (hi:i<65536):s.frameP (Ar i xid nx kd ls)=s.leasedP (GX xid nx kd ls):=by
 unfold Ar
 rw[vO s hc.symm hi (by decide) (by decide) (by decide) (by decide) (by decide) (by unfold GX;exact iW ..),if_pos rfl]
theorem vT (i xid nx:Nat) (kd:UInt8) (ls:Nat) (hi:i<65536):(Ar i xid nx kd ls).length≤1048576:=by
 obtain⟨_,_,_,_,_,_,h⟩:=gB (d:=aL) (src:=bG) (i:=i) (ttl:=9) (fi:=aF) (ti:=aS) (fm:=67) (tp:=68) (ld:=GX xid nx kd ls) hi (by decide) (by decide) (by decide) (by decide) (by decide) (by unfold GX;exact iW ..)
 exact Nat.le_trans h (by decide)
section
variable {s:St} {nx ls:Nat} {kd:UInt8}
theorem n54:St.number (vJ kd ls) 54=some aF:=by
 show(if(big 4 aF).length=4 then some (num (big 4 aF))else none)=_
 rw[if_pos (aB _ _),cA 4 _ (by decide)]
theorem n51 (h:ls<4294967296):St.number (vJ kd ls) 51=some ls:=by
 show(if(big 4 ls).length=4 then some (num (big 4 ls))else none)=_
 rw[if_pos (aB _ _),cA 4 _ (by omega)]
theorem n1:St.number (vJ kd ls) 1=some 4294967040:=rfl
theorem n3:St.routerOf (vJ kd ls)=some aF:=by
 show(if 4≤(big 4 aF).length then some (num ((big 4 aF).take 4))else none)=_
 rw[if_pos (by rw[aB];decide),List.take_of_length_le (by rw[aB];decide),cA 4 _ (by decide)]
theorem n58:St.number (vJ kd ls) 58=none:=rfl
theorem mG (hc:s.c.card=aL) (hx:s.xid<4294967296) (hn:nx<4294967296):s.leasedP (GX s.xid nx kd ls)=s.leased ⟨true,s.xid,0,aS,nx,aL,vJ kd ls⟩:=by
 unfold St.leasedP
 rw[GS _ _ _ _ hx hn]
 dsimp only
 rw[if_pos ⟨rfl,rfl,rfl,hc.symm⟩]
theorem yZ (hl:s.lease=1):s.leased ⟨true,s.xid,0,aS,nx,aL,vJ 2 ls⟩=({s with addr:=aS,server:=aF}:St).goes 2:=by
 unfold St.leased
 rw[show eF (vJ 2 ls) 53=some [2]from rfl,n54]
 dsimp only
 rw[if_pos rfl,if_pos ⟨hl,by decide⟩]
theorem D2 (u:St) (h:ls≠4294967295):u.times ⟨true,u.xid,0,aS,nx,aL,vJ 5 ls⟩ ls={u with t1:=wrap64 (u.now+(ls/2:Nat)),t2:=wrap64 (u.now+(ls/8*7:Nat)),untl:=wrap64 (u.now+ls)}:=by
 unfold St.times
 rw[if_neg h,n58]
def St.grant (s:St) (nx ls:Nat):St:={s with server:=aF,mask:=4294967040,router:=aF,source:=nx,t1:=wrap64 (s.now+(ls/2:Nat)),t2:=wrap64 (s.now+(ls/8*7:Nat)),untl:=wrap64 (s.now+ls)}
theorem uG (hl:s.lease=2∨s.lease=5∨s.lease=6) (ha:s.addr=aS) (hs:s.server=aF) (h0:0<ls) (h1:ls<4294967295) (hn:nx≠0):s.leased ⟨true,s.xid,0,aS,nx,aL,vJ 5 ls⟩=if s.lease=2 then {s.grant nx ls with lease:=3,lagain:=wrap64 (s.now+2)}.ask 0 s.addr else {s.grant nx ls with lease:=4}:=by
 unfold St.leased
 rw[show eF (vJ 5 ls) 53=some [5]from rfl,n54]
 dsimp only
 rw[if_neg (by decide),if_pos rfl,if_pos (.inl hs.symm)]
 unfold St.granted
 rw[n51 (by omega)]
 dsimp only
 rw[if_neg (by rintro(h|h|h);exact h hl;omega;exact h ha.symm),n1,n3,if_pos hn]
 dsimp only[Option.getD]
 have e:=D2 (nx:=nx) ({s with server:=aF,mask:=4294967040,router:=aF,source:=nx}:St) (by omega:ls≠4294967295)
 rw[show({s with server:=aF,mask:=4294967040,router:=aF,source:=nx}:St).xid=s.xid from rfl]at e
 rw[e]
 rfl
end
end Go.Proofs.YtcbkaiakdhiloacGreatDoor
namespace Go.Proofs.YtcbkaiakdhiloacGreatDoor
open Go.RowKit Go.Proofs
def sJ (n:Nat):List UInt8:=big 2 4++big 2 n
def I2 (n:Nat) (d:List UInt8):List UInt8:=big 2 3++big 2 n++d
theorem M8 (n:Nat):(bU ⟨4,n,[],[],[]⟩).1=sJ n:=by
 unfold bU Av sJ
 simp[aB]
theorem Nb (n:Nat) (d:List UInt8) (h:d.length≤1024):(bU ⟨3,n,[],d,[]⟩).1=I2 n d:=by
 unfold bU Av I2
 simp only[reduceIte,Nat.reduceEqDiff]
 rw[if_neg (by omega),if_neg (by simp[aB];omega)]
theorem LI (n:Nat) (h:n<65536):aM (sJ n)=(⟨4,n,[],[],[]⟩,0):=yO n h
theorem NJ (n:Nat) (d:List UInt8) (h:n<65536) (hd:d.length≤1024):aM (I2 n d)=(⟨3,n,[],d,[]⟩,0):=vX n d h hd
theorem nK (n:Nat):(sJ n).length=4:=by simp[sJ,aB]
theorem Cv (n:Nat) (d:List UInt8):(I2 n d).length=4+d.length:=by simp[I2,aB];omega
structure Way where
 nx:Nat
 pt:Nat
 pe:Nat
 bl:Nat
 wd:Nat
structure Way.Ok (y:Way):Prop where
 nx:y.nx<4294967296
 pt:y.pt<65536
 pt68:y.pt≠68
 pe:y.pe<65536
 pe67:y.pe≠67
 bl:1≤y.bl
 bl2:y.bl≤1024
 wd:1≤y.wd
 wd2:y.wd≤8
section
variable {c:JG} {y:Way} {k cm:Nat} {img:List UInt8} {s:St}
def Js (y:Way) (i n:Nat):List UInt8:=frU bG aL i 64 aS y.nx y.pt y.pe (sJ n)
def GG (y:Way) (i n:Nat) (d:List UInt8):List UInt8:=frU aL bG i 9 y.nx aS y.pe y.pt (I2 n d)
theorem Ju (hc:s.c.card=aL) (ha:s.address=aS) (hh:s.hop s.source=aF) (hn:∃e,oT s.cache aF=some e∧e.known=true∧e.card=bG) (hx:s.tx.length≠s.c.tx):
 s.tell={s with id:=s.id+1,tx:=s.tx++[frU bG aL (s.id%65536) 64 aS s.source s.port s.goal s.last]}:=by
 obtain⟨e,hf,hk,hca⟩:=hn
 unfold St.tell St.udp
 dsimp only
 rw[hh,hf]
 dsimp only
 rw[if_pos hk]
 unfold St.send St.packet
 rw[if_neg (show ¬s.took.tx.length=s.took.c.tx from hx),ha,hca]
 show({s.took with tx:=s.tx++[(aT bG s.c.card 2048 _).1]}:St)=_
 rw[hc]
 rfl
theorem KZ (u:St) (hc:u.c.card=aL) (ha:u.address=aS) (hh:u.hop u.source=aF) (hn:∃e,oT u.cache aF=some e∧e.known=true∧e.card=bG) (hx:u.tx.length≠u.c.tx) (hp:u.phase=2):
 u.got={u with last:=sJ ((u.next+65535)%65536),goal:=u.peer,tsends:=1,tagain:=wrap64 (u.now+u.wait 0),came:=0,id:=u.id+1,tx:=u.tx++[frU bG aL (u.id%65536) 64 aS u.source u.port u.peer (sJ ((u.next+65535)%65536))]}:=by
 have h:=Ju (s:={u.waits ⟨4,(u.next+65535)%65536,[],[],[]⟩with came:=0}) hc ha hh hn hx
 have e:u.got=({u.waits ⟨4,(u.next+65535)%65536,[],[],[]⟩with came:=0}:St).tell:=rfl
 rw[e,h]
 unfold St.waits
 rw[hp,if_neg (by decide),M8]
end
end Go.Proofs.YtcbkaiakdhiloacGreatDoor
namespace Go.Proofs.YtcbkaiakdhiloacGreatDoor
open Go.RowKit Go.Proofs
structure Ho (y:Way) (im:List UInt8) (h:aK):Prop where
 image:h.image=im
 next:h.next=y.nx
 port:h.port=y.pe
 block:h.block=y.bl
 window:h.window=y.wd
def iJ (y:Way) (im:List UInt8) (k:Nat):List UInt8:=sub im (k*y.bl) (min im.length ((k+1)*y.bl))
section
variable {y:Way} {im:List UInt8} {h:aK} {c:JG} {k cm:Nat} {img:List UInt8} {s:St}
theorem qF (y:Way) (im:List UInt8) (k:Nat):(iJ y im k).length=min im.length ((k+1)*y.bl)-k*y.bl:=by
 unfold iJ sub
 rw[List.length_drop,List.length_take];omega
theorem vP (y:Way) (im:List UInt8) (k:Nat):(iJ y im k).length≤y.bl:=by
 rw[qF,Nat.add_mul];omega
theorem Dg (hk:(k+1)*y.bl≤im.length):(iJ y im k).length=y.bl:=by
 rw[qF,Nat.add_mul];rw[Nat.add_mul]at hk;omega
theorem Et (y:Way) (im:List UInt8) (k:Nat):im.take (k*y.bl)++iJ y im k=im.take ((k+1)*y.bl):=by
 unfold iJ sub
 have h1:im.take (min im.length ((k+1)*y.bl))=im.take ((k+1)*y.bl):=by
  rcases Nat.le_total im.length ((k+1)*y.bl)with h|h
  ·rw[Nat.min_eq_left h,List.take_length,List.take_of_length_le h]
  ·rw[Nat.min_eq_right h]
 rw[h1]
 have h2:im.take (k*y.bl)=(im.take ((k+1)*y.bl)).take (k*y.bl):=by rw[List.take_take,Nat.min_eq_left (by rw[Nat.add_mul];omega)]
 rw[h2]
 exact List.take_append_drop _ _
def BlF (y:Way) (im:List UInt8) (k:Nat):List (List UInt8)→Prop
 |[]=>True
 |a::l=>(∃i,i<65536∧a=GG y i ((k+1)%65536) (iJ y im k))∧BlF y im (k+1) l
structure HSm (h h':aK):Prop where
 image:h'.image=h.image
 lease:h'.lease=h.lease
 next:h'.next=h.next
 options:h'.options=h.options
 port:h'.port=h.port
 block:h'.block=h.block
 window:h'.window=h.window
 sent:h'.sent=h.sent
 last:h'.last=h.last
 whn:h'.whn=h.whn
 now:h'.now=h.now
theorem HSm.refl (h:aK):HSm h h:=⟨rfl,rfl,rfl,rfl,rfl,rfl,rfl,rfl,rfl,rfl,rfl⟩
theorem HSm.ho {h':aK} (m:HSm h h') (o:Ho y im h):Ho y im h':=⟨m.image.trans o.image,m.next.trans o.next,m.port.trans o.port,m.block.trans o.block,m.window.trans o.window⟩
theorem rM (hy:y.Ok):∀(a b k:Nat) (h:aK) (out:List (List UInt8)),Ho y im h→(∀j,j<a→(k+j)*y.bl≤im.length)→(b=0∨im.length<(k+a)*y.bl)→
 ∃h' l,aK.blockN y.pt (a+b) k h out=(h',out++l)∧HSm h h'∧l.length=a∧BlF y im k l
 |0,b,k,h,out,o,_,hb=>by
  refine⟨h,[],?_,.refl h,rfl,trivial⟩
  rw[List.append_nil]
  cases b with
  |zero=>rfl
  |succ b=>
   rw[Nat.zero_add]
   unfold aK.blockN
   rw[if_neg (by rw[o.block,o.image];rcases hb with hb|hb;cases hb;rw[Nat.add_zero]at hb;omega)]
 |a+1,b,k,h,out,o,ha,hb=>by
  rw[show a+1+b=(a+b)+1 by omega]
  unfold aK.blockN
  have h0:=ha 0 (by omega)
  rw[if_pos (by rw[o.block,o.image];exact h0)]
  have hp:h.part k=iJ y im k:=by unfold aK.part iJ;rw[o.image,o.block]
  have hpl:(iJ y im k).length≤1024:=Nat.le_trans (vP y im k) hy.bl2
  have e1:h.wrap h.port y.pt (bU ⟨3,(k+1)%65536,[],h.part k,[]⟩).1 h.next aS=({h with id:=(h.id+1)%65536},GG y ((h.id+1)%65536) ((k+1)%65536) (iJ y im k)):=Prod.ext rfl (by
   show frU aL bG ((h.id+1)%65536) 9 h.next aS h.port y.pt (bU ⟨3,(k+1)%65536,[],h.part k,[]⟩).1=_
   rw[hp,Nb _ _ hpl,o.next,o.port]
   rfl)
  rw[e1]
  dsimp only
  obtain⟨h',l,e,m,hl,hB⟩:=rM hy a b (k+1) {h with id:=(h.id+1)%65536} (out++[GG y ((h.id+1)%65536) ((k+1)%65536) (iJ y im k)]) ⟨o.image,o.next,o.port,o.block,o.window⟩ (fun j hj=>by rw[show k+1+j=k+(j+1) by omega];exact ha (j+1) (by omega)) (by rw[show k+1+a=k+(a+1) by omega];exact hb)
  refine⟨h',_::l,e.trans (by rw[List.append_assoc];rfl),⟨m.image,m.lease,m.next,m.options,m.port,m.block,m.window,m.sent,m.last,m.whn,m.now⟩,by rw[List.length_cons,hl],⟨_,Nat.mod_lt _ (by decide),rfl⟩,hB⟩
theorem F8 {i n:Nat} {d:List UInt8} (hy:y.Ok) (hi:i<65536) (hd:d.length≤1024):(GG y i n d).length≤1048576:=by
 obtain⟨_,_,_,_,_,_,h⟩:=gB (d:=aL) (src:=bG) (i:=i) (ttl:=9) (fi:=y.nx) (ti:=aS) (fm:=y.pe) (tp:=y.pt) (ld:=I2 n d) hi (by decide) hy.nx (by decide) hy.pe hy.pt (by rw[Cv];omega)
 exact Nat.le_trans h (by decide)
end
end Go.Proofs.YtcbkaiakdhiloacGreatDoor
namespace Go.Proofs.YtcbkaiakdhiloacGreatDoor
open Go.RowKit Go.Proofs
theorem D1 (w bk s q:Nat) (hq:q≤w) (h1:(s+q)%65536=bk) (h2:∀j,j<q→(s+j)%65536≠bk):∀m,m≤w+1→w+1-m≤q→aK.gotN w bk m s=s+q
 |0,_,h=>by omega
 |m+1,hm,h=>by
  unfold aK.gotN
  by_cases e:w-m=q
  ·rw[e,if_pos h1]
  ·rw[if_neg (h2 _ (by omega))]
   exact D1 w bk s q hq h1 h2 m (by omega) (by omega)
structure Sy (k:Nat) (y:Way) (h:aK):Prop where
 le:h.sent≤k
 near:k≤h.sent+y.wd
 new:¬(h.last=((k%65536:Nat):Int)∧h.whn=h.now)
section
variable {y:Way} {im:List UInt8} {h:aK} {c:JG} {k cm:Nat} {img:List UInt8} {s:St}
theorem Cj {i n:Nat} (hy:y.Ok) (hi:i<65536) (hn:n<65536):qC (Js y i n)=true:=by
 unfold Js
 refine AI hi (by decide) (by decide) hy.nx hy.pt hy.pe (by rw[nK];decide) ?_ ?_<;>rw[LI _ hn]<;>exact⟨Int.le_refl 0,(by decide:(0:Int)≤70000)⟩
theorem Ho.hears (o:Ho y im h) (hy:y.Ok) (hs:Sy k y h) {i:Nat} (hi:i<65536) (a b:Nat) (hab:a+b=y.wd) (ha:∀j,j<a→(k+j)*y.bl≤im.length) (hb:b=0∨im.length<(k+a)*y.bl):
 ∃h' l,h.answer (Js y i (k%65536))=(h',l,true)∧Ho y im h'∧h'.sent=k∧h'.last=((k%65536:Nat):Int)∧h'.now=h.now∧l.length=a∧BlF y im k l:=by
 have hm:k%65536<65536:=Nat.mod_lt _ (by decide)
 have hw2:=hy.wd2
 unfold Js
 rw[pI h hi (by decide) (by decide) hy.nx hy.pt hy.pe (by rw[nK];decide),if_neg hy.pe67,LI _ hm,if_neg (by rintro(x|x|x);exact x rfl;exact x rfl;exact x o.next.symm)]
 unfold aK.tftp
 rw[if_neg (show ¬(4:Nat)=1 by decide),if_pos rfl]
 unfold aK.acked
 rw[if_neg (by rintro(x|x);exact x o.port.symm;exact hs.new x)]
 dsimp only
 obtain⟨q,hq⟩:∃q,k=h.sent+q:=⟨k-h.sent,by have:=hs.le;omega⟩
 have hqw:q≤y.wd:=by have:=hs.near;omega
 have hg:aK.gotN h.window (k%65536) (h.window+1) h.sent=k:=by
  rw[o.window]
  rw[D1 y.wd (k%65536) h.sent q hqw (by rw[hq]) (fun j hj=>by omega) (y.wd+1) (Nat.le_refl _) (by omega),hq]
 rw[hg]
 unfold aK.blocks
 dsimp only
 obtain⟨h',l,e,m,hl,hB⟩:=rM hy a b k {h with last:=((k%65536:Nat):Int),whn:=h.now,sent:=k} [] ⟨o.image,o.next,o.port,o.block,o.window⟩ ha hb
 rw[hab,←o.window]at e
 rw[e]
 exact⟨h',l,rfl,m.ho ⟨o.image,o.next,o.port,o.block,o.window⟩,m.sent,m.last,m.now,hl,hB⟩
end
end Go.Proofs.YtcbkaiakdhiloacGreatDoor
namespace Go.Proofs.YtcbkaiakdhiloacGreatDoor
open Go.RowKit Go.Proofs
def ntK (due:Int) (ak:Int):bD:=⟨aF,bG,true,due,ak,[]⟩
def ntW (due:Int) (ak:Int) (p:List UInt8):bD:=⟨aF,iS,false,due,ak,p⟩
def uA:List UInt8:=(aT lE aL 2054 (gQ 1 aL aS iS aF).1).1
def JH:List UInt8:=(aT aL bG 2054 (gQ 2 bG aF aL aS).1).1
def pkU (i fi ti fm tp:Nat) (ld:List UInt8):List UInt8:=(vC i 64 17 fi ti (jC fm tp fi ti ld).1).1
theorem H8 (i fi ti fm tp:Nat) (ld:List UInt8):(aT bG aL 2048 (pkU i fi ti fm tp ld)).1=frU bG aL i 64 fi ti fm tp ld:=rfl
theorem iX {u:St} {d:Mac} {k:Nat} {l:List UInt8} (hx:u.tx.length≠u.c.tx):u.send d k l={u with tx:=u.tx++[(aT d u.c.card k l).1]}:=by
 unfold St.send
 rw[if_neg hx]
section
variable {s:St} {dst fm port:Nat} {ld:List UInt8}
theorem yV {du ak:Int} (hc:s.c.card=aL) (hh:s.hop dst=aF) (hk:s.cache=[ntK du ak]) (hx:s.tx.length≠s.c.tx):
 s.udp dst fm port ld={s with id:=s.id+1,tx:=s.tx++[frU bG aL (s.id%65536) 64 s.address dst fm port ld]}:=by
 have hf:oT s.cache aF=some (ntK du ak):=by rw[hk];rfl
 unfold St.udp
 dsimp only
 rw[hh,hf]
 dsimp only
 rw[if_pos (show(ntK du ak).known=true from rfl)]
 refine(iX (u:=s.took) hx).trans ?_
 show({s.took with tx:=s.tx++[(aT bG s.c.card 2048 (s.packet dst fm port ld)).1]}:St)=_
 rw[hc]
 rfl
theorem AN (hc:s.c.card=aL) (hh:s.hop dst=aF) (hk:s.cache=[]) (hx:s.tx.length≠s.c.tx) (ha:s.addr=aS):
 s.udp dst fm port ld={s with id:=s.id+1,cache:=[ntW (wrap64 (s.now+2)) 1 (pkU (s.id%65536) s.address dst fm port ld)],tx:=s.tx++[uA]}:=by
 have hf:oT s.cache aF=none:=by rw[hk];rfl
 unfold St.udp
 dsimp only
 rw[hh,hf]
 dsimp only
 unfold St.ask St.arp
 refine(iX (u:={s.took with cache:=enter s.cache ⟨aF,iS,false,wrap64 (s.now+2),1,s.packet dst fm port ld⟩}) hx).trans ?_
 show({s with id:=s.id+1,cache:=enter s.cache ⟨aF,iS,false,wrap64 (s.now+2),1,s.packet dst fm port ld⟩,tx:=s.tx++[(aT lE s.c.card 2054 (gQ 1 s.c.card s.addr iS aF).1).1]}:St)=_
 rw[hc,ha,hk]
 rfl
theorem F4 {du ak:Int} {p:List UInt8} (hc:s.c.card=aL) (hh:s.hop dst=aF) (hk:s.cache=[ntW du ak p]):
 s.udp dst fm port ld={s with id:=s.id+1,cache:=[ntW du ak (pkU (s.id%65536) s.address dst fm port ld)]}:=by
 have hf:oT s.cache aF=some (ntW du ak p):=by rw[hk];rfl
 unfold St.udp
 dsimp only
 rw[hh,hf]
 dsimp only
 rw[if_neg (show ¬(ntW du ak p).known=true from Bool.false_ne_true)]
 show({s with id:=s.id+1,cache:=bY s.cache aF fun e=>{e with waits:=s.packet dst fm port ld}}:St)=_
 rw[hk]
 rfl
theorem Fz {du ak:Int} {p:List UInt8} (hc:s.c.card=aL) (hl:s.lease≠3) (ha:s.address=aS) (hk:s.cache=[ntW du ak p]) (hp:p≠[]) (hx:s.tx.length≠s.c.tx):
 s.frameP JH={s with cache:=[ntK (wrap64 (s.now+60)) 0],tx:=s.tx++[(aT bG aL 2048 p).1]}:=by
 have hw:(gQ 2 bG aF aL aS).1=aZ 2 bG aF aL aS:=rfl
 have hwl:(aZ 2 bG aF aL aS).length≤1500:=by simp[aZ,aB,dO]
 have he:(aT aL bG 2054 (aZ 2 bG aF aL aS)).1=eP aL bG 2054 (aZ 2 bG aF aL aS):=by unfold aT;rw[if_neg (by decide),if_neg (by omega)]
 have hr:aJ JH=(⟨aL,bG,2054,iC (aZ 2 bG aF aL aS)⟩,0):=by
  unfold JH;rw[hw,he];exact fA _ _ _ _ (by decide) (by decide) hwl
 have hr2:bE (iC (aZ 2 bG aF aL aS))=(⟨2,bG,aF,aL,aS⟩,0):=gZ _ _ _ _ _ _ (.inr rfl) (by decide) (by decide)
 unfold St.frameP
 rw[hr]
 dsimp only
 rw[if_neg (by rintro(h|h);exact h rfl;exact h.1 hc.symm),if_pos rfl]
 unfold St.arpP
 rw[hr2]
 dsimp only
 rw[if_pos rfl]
 unfold St.arped
 rw[if_neg (fun h=>hl h.1)]
 have hq:s.asked ⟨2,bG,aF,aL,aS⟩=false:=by
  unfold St.asked
  simp
 dsimp only
 rw[hq,if_neg (by decide),ha,if_pos ⟨by decide,by decide⟩]
 have hf:oT s.cache aF=some (ntW du ak p):=by rw[hk];rfl
 unfold St.learn
 dsimp only
 rw[hf]
 dsimp only
 rw[if_neg (show ¬(ntW du ak p).waits=[]from hp)]
 refine(iX (u:={s with cache:=bY s.cache aF fun _=>ntK (wrap64 (s.now+60)) 0}) hx).trans ?_
 show({s with cache:=bY s.cache aF fun _=>ntK (wrap64 (s.now+60)) 0,tx:=s.tx++[(aT bG s.c.card 2048 p).1]}:St)=_
 rw[hk,hc]
 rfl
end
theorem D9 (h:aK):h.answer uA=(h,[JH],true):=by
 have hw:(gQ 1 aL aS iS aF).1=aZ 1 aL aS iS aF:=rfl
 have hwl:(aZ 1 aL aS iS aF).length≤1500:=by simp[aZ,aB,dO]
 have he:(aT lE aL 2054 (aZ 1 aL aS iS aF)).1=eP lE aL 2054 (aZ 1 aL aS iS aF):=by unfold aT;rw[if_neg (by decide),if_neg (by omega)]
 have hr:aJ uA=(⟨lE,aL,2054,iC (aZ 1 aL aS iS aF)⟩,0):=by
  unfold uA;rw[hw,he];exact fA _ _ _ _ (by decide) (by decide) hwl
 have hr2:bE (iC (aZ 1 aL aS iS aF))=(⟨1,aL,aS,iS,aF⟩,0):=gZ _ _ _ _ _ _ (.inl rfl) (by decide) (by decide)
 have hll:¬uA.length<60:=by
  unfold uA;rw[hw,he]
  unfold eP
  rw[List.length_append,List.length_replicate];omega
 unfold aK.answer
 rw[hr]
 dsimp only
 rw[if_neg (by rintro(h|h|h);exact h rfl;exact h rfl;exact hll h),if_pos rfl,hr2]
 dsimp only
 rw[if_neg (by rintro(h|h|h)<;>exact h rfl)]
 unfold aK.arp
 dsimp only
 rw[if_neg (by decide)]
 rfl
end Go.Proofs.YtcbkaiakdhiloacGreatDoor
namespace Go.Proofs.YtcbkaiakdhiloacGreatDoor
open Go.RowKit Go.Proofs
def nmR:List UInt8:=[107,101,114,110,101,108]
def If (dg:List UInt8):JG:=⟨aL,nmR,600000,dg,8,1,16,16⟩
def oW (pe:Nat):Way:=⟨aF,1025,pe,8,1⟩
def fsR:List eH:=[⟨St.bNm,dec 8⟩,⟨St.wNm,dec 1⟩,⟨St.tNm,[48]⟩]
def fsO:List eH:=[⟨St.tNm,dec 3000⟩,⟨St.bNm,dec 8⟩,⟨St.wNm,dec 1⟩]
def FK:List UInt8:=(bU ⟨1,0,nmR,[],fsR⟩).1
def GB:List UInt8:=(bU ⟨6,0,[],[],fsO⟩).1
theorem Fh:aM FK=(⟨1,0,nmR,[],fsR⟩,0):=by kernel_rfl
theorem G5:aM GB=(⟨6,0,[],[],fsO⟩,0):=by kernel_rfl
theorem J7:cH St.bNm fsR=8:=by kernel_rfl
theorem K9:cH St.wNm fsR=1:=by kernel_rfl
theorem pO:FK.length≤1472:=Nat.le_of_ble_eq_true (by kernel_rfl)
theorem xK:GB.length≤1472:=Nat.le_of_ble_eq_true (by kernel_rfl)
theorem vE {pe:Nat} (h1:pe<65536) (h2:pe≠67):(oW pe).Ok:=⟨by show aF<_;decide,by show 1025<_;decide,by show 1025≠_;decide,h1,h2,by show 1≤8;decide,by show 8≤1024;decide,by show 1≤1;decide,by show 1≤8;decide⟩
structure TrA (s:St):Prop where
 phase:s.phase=1
 port:s.port=1025
 next:s.next=1
 came:s.came=0
 block:s.block=512
 image:s.image=[]
 goal:s.goal=69
 last:s.last=FK
structure Hd (dg:List UInt8) (s:St):Prop where
 c:s.c=If dg
 rx:s.rx=[]
 draw:s.draw=1
 xid:s.xid<4294967296
 lease:4≤s.lease
 addr:s.addr=aS
 mask:s.mask=4294967040
 router:s.router=aF
 server:s.server=aF
 source:s.source=aF
theorem Hd.hop {dg:List UInt8} {s:St} (h:Hd dg s):s.hop aF=aF:=by
 unfold St.hop
 rw[h.router,h.mask,h.addr,if_neg (by decide)]
theorem Hd.adr {dg:List UInt8} {s:St} (h:Hd dg s):s.address=aS:=by unfold St.address;rw[if_pos h.lease,h.addr]
def tF (i goal:Nat) (last:List UInt8):List UInt8:=frU bG aL i 64 aS aF 1025 goal last
theorem jI (t:Nat) (d:RnD) (out:List (List UInt8)) (a:List UInt8) (hrx:d.s.rx=[]) (hc:d.s.c.rx≠0) (ho:d.s.over=false) (ha:a.length≤1048576) (hcm:(d.s.phase=1∨d.s.phase=2)→1≤d.s.block∧d.s.next≤d.s.image.length+1) (hx:(d.s.frameP a).tx.length≤16) (hol:out.length≤1000000) (hl:d.s.lease≠2):
 fE t [a] d out=some (⟨{d.s.frameP a with tx:=[]},d.h,d.bound,d.asked,d.slow⟩,out++(d.s.frameP a).tx):=by
 obtain⟨s,h,bd,ak,sl⟩:=d
 dsimp only at hrx hc ho hcm hx hl⊢
 have e1:(s.put a)=({s with rx:=[a]},true):=by
  unfold St.put
  rw[hrx,if_neg (by show ¬0=s.c.rx;omega)];rfl
 have e2:({s with rx:=[a]}:St).calm=true:=by
  unfold St.calm
  simp only[Bool.and_eq_true,Bool.or_eq_true,decide_eq_true_eq,List.all_cons,List.all_nil,Bool.and_true]
  refine⟨?_,ha⟩
  by_cases hp:s.phase=1∨s.phase=2
  ·exact .inr (hcm hp)
  ·exact .inl (by omega)
 have e4:({s with rx:=[]}:St)=s:=by rw[←hrx]
 have e3:lM 1 {s with rx:=[a]} 0=(s.frameP a,1):=by
  have ho2:({s with rx:=[a]}:St).over=false:=ho
  unfold lM
  dsimp only
  rw[ho2,if_neg (by decide),e4]
  rfl
 rw[fE]
 dsimp only
 rw[e1]
 dsimp only
 rw[if_pos e2,e3]
 dsimp only
 rw[if_pos ⟨hx,hol⟩,decide_eq_false (fun h=>hl h.1),if_neg (by decide),if_neg (by decide)]
 rfl
theorem Bq {i goal:Nat} {last:List UInt8} (hi:i<65536) (hg:goal<65536) (hg67:goal≠67) (hl:last.length≤1472):iV (tF i goal last)=(2,aF):=by
 obtain⟨b,u,e1,e2,e3,_⟩:=gB (d:=bG) (src:=aL) (i:=i) (ttl:=64) (fi:=aS) (ti:=aF) (fm:=1025) (tp:=goal) (ld:=last) hi (by decide) (by decide) (by decide) (by decide) hg hl
 unfold iV tF
 rw[e1]
 dsimp only
 rw[e2]
 dsimp only
 rw[e3]
 dsimp only
 rw[if_pos ⟨rfl,rfl⟩,if_neg hg67]
theorem DR {i goal:Nat} {last:List UInt8} (hi:i<65536) (hg:goal<65536) (hl:last.length≤1472):(tF i goal last).length≤1048576:=by
 obtain⟨_,_,_,_,_,_,h⟩:=gB (d:=bG) (src:=aL) (i:=i) (ttl:=64) (fi:=aS) (ti:=aF) (fm:=1025) (tp:=goal) (ld:=last) hi (by decide) (by decide) (by decide) (by decide) hg hl
 exact Nat.le_trans h (by decide)
end Go.Proofs.YtcbkaiakdhiloacGreatDoor
namespace Go.Proofs.YtcbkaiakdhiloacGreatDoor
open Go.RowKit Go.Proofs
structure HR (im:List UInt8) (n:Nat) (h:aK):Prop where
 image:h.image=im
 lease:h.lease=n
 next:h.next=aF
 options:h.options=true
 sent:h.sent≤400
 window:h.window≤1
 whn:h.whn≤h.now
structure TrB (im:List UInt8) (pe k:Nat) (s:St):Prop where
 phase:s.phase=2
 port:s.port=1025
 peer:s.peer=pe
 block:s.block=8
 wind:s.wind=1
 next:s.next=k+1
 came:s.came=0
 image:s.image=im.take (k*8)
 goal:s.goal=pe
 last:s.last=sJ (k%65536)
def Tr (im:List UInt8) (r q:Nat) (s:St) (h:aK):Prop:=
 (TrA s∧h.port+q≤3*r+s.tsends)∨
 (∃pe k,TrB im pe k s∧Ho (oW pe) im h∧h.sent≤k∧k≤h.sent+1∧k≤375∧pe≤3*r+3∧(q=1→¬(h.last=((k%65536:Nat):Int)∧h.whn=h.now)))
def oF (i pe:Nat):List UInt8:=frU aL bG i 9 aF aS pe 1025 GB
def Kd (h:aK):aK:={h with port:=(h.port+1)%65536,sent:=0,last:= -1,block:=8,window:=1,id:=(h.id+1)%65536}
section
variable {im dg:List UInt8} {n r i:Nat} {s:St} {h:aK}
theorem Kl (H:HR im n h) (hl:im.length=3000) (hi:i<65536):h.answer (tF i 69 FK)=(Kd h,[oF ((h.id+1)%65536) ((h.port+1)%65536)],true):=by
 obtain⟨im',ls,nx,op,po,bk,wi,se,la,wh,no,id⟩:=h
 obtain⟨e1,e2,e3,e4,_,_,_⟩:=H
 dsimp only at e1 e2 e3 e4
 subst e1 e2 e3 e4
 unfold tF
 rw[pI _ hi (by decide) (by decide) (by decide) (by decide) (by decide) pO,if_neg (by decide),Fh,if_neg (by rintro(x|x|x)<;>exact x rfl)]
 unfold aK.tftp
 dsimp only
 rw[if_pos rfl]
 unfold aK.ask
 dsimp only
 rw[J7,K9,if_neg (by rintro(x|x|x|x);exact x rfl;exact x rfl;cases x;cases x),if_neg (by decide),hl,FA]
 rfl
theorem HSm.trans {a b c:aK} (x:HSm a b) (y:HSm b c):HSm a c:=⟨y.image.trans x.image,y.lease.trans x.lease,y.next.trans x.next,y.options.trans x.options,y.port.trans x.port,y.block.trans x.block,y.window.trans x.window,y.sent.trans x.sent,y.last.trans x.last,y.whn.trans x.whn,y.now.trans x.now⟩
theorem qR (p:Nat):∀(m k:Nat) (h:aK) (out:List (List UInt8)),HSm h (aK.blockN p m k h out).1
 |0,_,h,_=> .refl h
 |m+1,k,h,out=>by
  unfold aK.blockN
  split
  ·exact HSm.trans (b:={h with id:=(h.id+1)%65536}) ⟨rfl,rfl,rfl,rfl,rfl,rfl,rfl,rfl,rfl,rfl,rfl⟩ (qR p m (k+1) _ _)
  ·exact .refl h
theorem BJ {y:Way} {m:Nat} (hy:y.Ok) (hi:i<65536) (hm:m<65536) (hn:h.next=y.nx) {h':aK} {q:List (List UInt8)×Bool} (e:h.answer (Js y i m)=(h',q)):h'.lease=h.lease∧h'.options=h.options∧(h'.whn=h.whn∨h'.whn=h.now):=by
 unfold Js at e
 rw[pI h hi (by decide) (by decide) hy.nx hy.pt hy.pe (by rw[nK];decide),if_neg hy.pe67,LI _ hm,if_neg (by rintro(x|x|x);exact x rfl;exact x rfl;exact x hn.symm)]at e
 unfold aK.tftp at e
 rw[if_neg (show ¬(4:Nat)=1 by decide),if_pos rfl]at e
 unfold aK.acked at e
 split at e
 ·cases e;exact⟨rfl,rfl,.inl rfl⟩
 ·unfold aK.blocks at e
  dsimp only at e
  have s:=qR y.pt h.window (aK.gotN h.window m (h.window+1) h.sent) {h with last:=(m:Int),whn:=h.now,sent:=aK.gotN h.window m (h.window+1) h.sent} []
  have e1:=congrArg Prod.fst e
  dsimp only at e1
  subst e1
  exact⟨s.lease,s.options,.inr s.whn⟩
theorem jM {n a t:Nat} {d:RnD} {f:List UInt8} {h':aK} {l:List (List UInt8)} (H:HR im n d.h) (hf:f.length≤1048576) (hn:qC f=true) (ha:d.asked≤4) (hs:d.slow≤100000) (hb:d.bound≤100000) (he:d.h.answer f=(h',l,true)) (hll:l.length≤1) (out:List (List UInt8)):
 iE n a t f d out=if(iV f).1=1∧d.s.address≠0 then
  if decide (d.bound+n/8*7≤t)≠decide ((iV f).2=4294967295)∨t<d.bound+n/2 then none
  else if d.asked+1≤a then some (⟨d.s,h',d.bound,d.asked+1,d.slow⟩,out)
  else fE t l ⟨d.s,h',t,0,d.slow⟩ out
  else if(iV f).1=2 then
   if(d.slow+1)%3≠0 then some (⟨d.s,h',d.bound,d.asked,d.slow+1⟩,out)
   else fE t l ⟨d.s,h',d.bound,d.asked,d.slow+1⟩ out
  else fE t l ⟨d.s,h',d.bound,d.asked,d.slow⟩ out:=by
 have h1:=H.sent
 have h2:=H.window
 unfold iE
 rw[if_pos ⟨hf,by omega,hn,by omega,by omega,by omega⟩]
 dsimp only
 rw[he]
 dsimp only
 rw[if_pos ⟨rfl,by omega⟩]
theorem Ip {pe m:Nat}:tF i pe (sJ m)=Js (oW pe) i m:=rfl
theorem Tr.heard (T:Tr im r 1 s h) (H:HR im n h) (hl:im.length=3000) (hr:r≤6) (hi:i<65536) (ht:s.tsends≤3):
 ∃h' a,h.answer (tF i s.goal s.last)=(h',[a],true)∧HR im n h'∧h'.now=h.now∧Tr im r 0 s h'∧iV (tF i s.goal s.last)=(2,aF)∧(tF i s.goal s.last).length≤1048576∧qC (tF i s.goal s.last)=true∧
  ((∃j,j<65536∧a=oF j h'.port∧TrA s∧h'.port≤3*r+3∧h'.sent=0∧h'.last= -1∧h'.block=8∧h'.window=1)∨
   (∃pe k j,j<65536∧TrB im pe k s∧Ho (oW pe) im h'∧h'.sent=k∧k≤375∧pe≤3*r+3∧h'.last=((k%65536:Nat):Int)∧a=GG (oW pe) j ((k+1)%65536) (iJ (oW pe) im k))):=by
 rcases T with⟨A,hp⟩|⟨pe,k,B,o,h1,h2,h3,h4,h5⟩
 ·rw[A.goal,A.last]
  have e:=Kl H hl hi
  have hpm:(h.port+1)%65536=h.port+1:=Nat.mod_eq_of_lt (by omega)
  refine⟨_,_,e,⟨H.image,H.lease,H.next,H.options,Nat.zero_le _,Nat.le_refl _,H.whn⟩,rfl,.inl ⟨A,by show(h.port+1)%65536+0≤_;omega⟩,Bq hi (by decide) (by decide) pO,DR hi (by decide) pO,?_,.inl ⟨_,Nat.mod_lt _ (by decide),rfl,A,by show(h.port+1)%65536≤_;omega,rfl,rfl,rfl,rfl⟩⟩
  refine AI hi (by decide) (by decide) (by decide) (by decide) (by decide) pO ?_ ?_<;>rw[Fh]<;>dsimp only
  ·rw[J7];decide
  ·rw[K9];decide
 ·rw[B.goal,B.last]
  have hal:(sJ (k%65536)).length≤1472:=by rw[nK];decide
  have k1:=Bq hi (by omega:pe<65536) (by omega) hal
  have k2:=DR (goal:=pe) hi (by omega) hal
  rw[Ip]at k1 k2⊢
  have hy:(oW pe).Ok:=vE (by omega) (by omega)
  obtain⟨h',l,e,o',e1,e2,e3,hll,hB⟩:=o.hears hy ⟨h1,by show k≤h.sent+1;omega,h5 rfl⟩ hi 1 0 rfl (fun j hj=>by show(k+j)*8≤_;omega) (.inl rfl)
  obtain⟨a,rfl⟩:∃a,l=[a]:=by
   cases l with
   |nil=>cases hll
   |cons a q=>cases q with
    |nil=>exact⟨a,rfl⟩
    |cons=>simp at hll
  obtain⟨⟨j,hj,rfl⟩,_⟩:=hB
  refine⟨h',_,e,?_,e3,.inr ⟨pe,k,B,o',by omega,by omega,h3,h4,fun x=>absurd x Nat.zero_ne_one⟩,k1,k2,Cj hy hi (Nat.mod_lt _ (by decide)),.inr ⟨pe,k,j,hj,B,o',e1,h3,h4,e2,rfl⟩⟩
  obtain⟨r1,r2,r3⟩:=BJ hy hi (Nat.mod_lt _ (by decide)) H.next e
  exact⟨o'.image,r1.trans H.lease,o'.next,r2.trans H.options,by omega,by rw[o'.window];exact Nat.le_refl 1,by have:=H.whn;omega⟩
end
end Go.Proofs.YtcbkaiakdhiloacGreatDoor
namespace Go.Proofs.YtcbkaiakdhiloacGreatDoor
open Go.RowKit Go.Proofs
structure Mv (s t:St):Prop where
 c:t.c=s.c
 rx:t.rx=s.rx
 now:t.now=s.now
 draw:t.draw=s.draw
 lease:t.lease=s.lease
 xid:t.xid=s.xid
 addr:t.addr=s.addr
 mask:t.mask=s.mask
 router:t.router=s.router
 server:t.server=s.server
 source:t.source=s.source
 t1:t.t1=s.t1
 t2:t.t2=s.t2
 untl:t.untl=s.untl
 cache:t.cache=s.cache
theorem Mv.hd {dg:List UInt8} {s t:St} (m:Mv s t) (h:Hd dg s):Hd dg t:=⟨m.c.trans h.c,m.rx.trans h.rx,m.draw.trans h.draw,by rw[m.xid];exact h.xid,by rw[m.lease];exact h.lease,m.addr.trans h.addr,m.mask.trans h.mask,m.router.trans h.router,m.server.trans h.server,m.source.trans h.source⟩
section
variable {im dg d:List UInt8} {n r j pe k:Nat} {s:St} {du:Int}
theorem Ff {u:St} (hd:Hd dg u) (hk:u.cache=[ntK du 0]) (hx:u.tx.length≠16) (hp:u.port=1025) (h2:u.phase=2):
 u.got={u with last:=sJ ((u.next+65535)%65536),goal:=u.peer,tsends:=1,tagain:=wrap64 (u.now+u.wait 0),came:=0,id:=u.id+1,tx:=u.tx++[tF (u.id%65536) u.peer (sJ ((u.next+65535)%65536))]}:=by
 have e:=KZ u (by rw[hd.c];rfl) hd.adr (by rw[hd.source];exact hd.hop) ⟨ntK du 0,by rw[hk];rfl,rfl,rfl⟩ (by rw[hd.c];exact hx) h2
 have e2:frU bG aL (u.id%65536) 64 aS u.source u.port u.peer (sJ ((u.next+65535)%65536))=tF (u.id%65536) u.peer (sJ ((u.next+65535)%65536)):=by rw[hd.source,hp];rfl
 rw[e2]at e
 exact e
theorem Iy:vW (dec 3000)=some 3000:=by kernel_rfl
theorem Nl:vW (dec 8)=some 8:=by kernel_rfl
theorem M7:vW (dec 1)=some 1:=by kernel_rfl
theorem MA (hd:Hd dg s) (A:TrA s) (hk:s.cache=[ntK du 0]) (hx:s.tx=[]) (hj:j<65536) (hp:pe<65536):
 ∃t,s.frameP (oF j pe)=t∧TrB im pe 0 t∧t.tx=[tF (s.id%65536) pe (sJ 0)]∧t.tsends=1∧Mv s t:=by
 refine⟨_,rfl,?_⟩
 unfold oF
 rw[vO s (by rw[hd.c];rfl) hj (by decide) (by decide) (by decide) hp (by decide) xK,if_neg (by decide),if_pos ⟨by unfold St.busy;rw[A.phase];rfl,by rw[hd.adr];decide,hd.adr.symm,hd.source.symm,A.port.symm⟩]
 unfold St.loadsP
 rw[G5,if_pos rfl]
 unfold St.loads
 dsimp only
 rw[if_neg (by intro x;rw[A.phase]at x;exact absurd x.1 (by decide)),if_neg (by decide),if_neg (by rw[A.phase];decide),if_neg (by decide),if_pos rfl]
 have e:St.agree pe fsO s=({s with block:=8,wind:=1,phase:=2,peer:=pe}:St).got:=by
  unfold fsO St.agree
  rw[Iy]
  dsimp only
  rw[if_neg (by rintro⟨x,_⟩;exact absurd x (by decide)),if_neg (by rintro⟨x,_⟩;exact absurd x (by decide)),if_pos rfl,if_pos (by rw[hd.c];show 3000≤600000;decide)]
  unfold St.agree
  rw[Nl]
  dsimp only
  rw[if_pos ⟨rfl,by decide,by rw[hd.c];show 8≤8;decide⟩]
  unfold St.agree
  rw[M7]
  dsimp only
  rw[if_neg (by rintro⟨x,_⟩;exact absurd x (by decide)),if_pos ⟨rfl,by decide,by rw[hd.c];show 1≤1;decide⟩]
  rfl
 rw[e]
 have g:=Ff (u:={s with block:=8,wind:=1,phase:=2,peer:=pe}) (du:=du) (dg:=dg) ⟨hd.c,hd.rx,hd.draw,hd.xid,hd.lease,hd.addr,hd.mask,hd.router,hd.server,hd.source⟩ hk (by show s.tx.length≠16;rw[hx];decide) A.port rfl
 rw[g]
 have e3:(s.next+65535)%65536=0:=by rw[A.next]
 dsimp only
 rw[e3,hx]
 exact⟨⟨rfl,A.port,rfl,rfl,rfl,A.next,rfl,by show s.image=_;rw[A.image,Nat.zero_mul];rfl,rfl,rfl⟩,rfl,rfl,⟨rfl,rfl,rfl,rfl,rfl,rfl,rfl,rfl,rfl,rfl,rfl,rfl,rfl,rfl,rfl⟩⟩
theorem HU (hd:Hd dg s) (B:TrB im pe k s) (hk:s.cache=[ntK du 0]) (hx:s.tx=[]) (hj:j<65536) (hp:pe<60) (hl:im.length=3000) (hk3:k≤375):
 s.frameP (GG (oW pe) j ((k+1)%65536) (iJ (oW pe) im k))=if k<375 then({s with image:=im.take ((k+1)*8),next:=k+2,came:=1}:St).got else if sha im=dg then {({s with image:=im,next:=k+2,came:=1}:St).got with phase:=3}else({s with image:=im,next:=k+2,came:=1}:St).got.fail:=by
 have hy:(oW pe).Ok:=vE (by omega) (by omega)
 have hdl:(iJ (oW pe) im k).length≤8:=vP (oW pe) im k
 have hm:(k+1)%65536<65536:=Nat.mod_lt _ (by decide)
 have ha:=Et (oW pe) im k
 rw[show(oW pe).bl=8 from rfl]at ha
 have hil:(im.take (k*8)).length=k*8:=by rw[List.length_take];omega
 have hdc:s.c=If dg:=hd.c
 unfold GG
 rw[vO s (by rw[hd.c];rfl) hj (by decide) hy.nx (by decide) hy.pe hy.pt (by rw[Cv];omega),if_neg hy.pt68,if_pos ⟨by unfold St.busy;rw[B.phase];rfl,by rw[hd.adr];decide,hd.adr.symm,hd.source.symm,B.port.symm⟩]
 unfold St.loadsP
 rw[NJ _ _ hm (by omega),if_pos rfl]
 unfold St.loads
 dsimp only
 rw[if_neg (by intro x;exact x.2 B.peer.symm),if_neg (show ¬(3:Nat)=5 by decide),if_pos B.phase,if_pos rfl]
 unfold St.data
 dsimp only
 have hcw:wrap64 (s.came+1)=1:=by rw[B.came];exact IntWalk.wrap64_in _ ⟨by decide,by decide⟩
 have hbk:=B.block
 have hnx:=B.next
 have hcap:s.c.cap=600000:=by rw[hd.c];rfl
 rw[if_neg (by omega),if_neg (by rw[hnx];exact fun x=>x rfl),if_neg (by rw[hcap,B.image,hil];omega)]
 have e1:({s with image:=s.image++iJ (oW pe) im k,next:=s.next+1,came:=wrap64 (s.came+1)}:St)={s with image:=im.take ((k+1)*8),next:=k+2,came:=1}:=by rw[hcw,B.image,ha,hnx]
 by_cases h:k<375
 ·rw[if_pos h,if_pos (by rw[hbk];exact Dg (y:=oW pe) (im:=im) (k:=k) (by show(k+1)*8≤_;omega)),if_pos (by show wrap64 (s.came+1)=(s.wind:Int);rw[hcw,B.wind];rfl),e1]
 ·obtain rfl:k=375:=by omega
  have hle:(iJ (oW pe) im 375).length=0:=by rw[qF,hl];show min 3000 ((375+1)*8)-375*8=0;omega
  have hdg:s.c.digest=dg:=by rw[hd.c];rfl
  have him:im.take ((375+1)*8)=im:=List.take_of_length_le (by omega)
  rw[him]at e1 ha
  rw[if_neg h,if_neg (by rw[hle,hbk];decide)]
  by_cases hs:sha im=dg
  ·rw[if_pos (by show sha (s.image++iJ (oW pe) im 375)=s.c.digest;rw[B.image,ha,hdg];exact hs),if_pos hs,e1]
  ·rw[if_neg (by show ¬sha (s.image++iJ (oW pe) im 375)=s.c.digest;rw[B.image,ha,hdg];exact hs),if_neg hs,e1]
theorem Lb (hd:Hd dg s) (B:TrB im pe k s) (hk:s.cache=[ntK du 0]) (hx:s.tx=[]) (hj:j<65536) (hp:pe<60) (hl:im.length=3000) (hk3:k<375):
 ∃t,s.frameP (GG (oW pe) j ((k+1)%65536) (iJ (oW pe) im k))=t∧TrB im pe (k+1) t∧t.tx=[tF (s.id%65536) pe (sJ ((k+1)%65536))]∧t.tsends=1∧Mv s t:=by
 refine⟨_,rfl,?_⟩
 have eg:=Ff (u:={s with image:=im.take ((k+1)*8),next:=k+2,came:=1}) (dg:=dg) (du:=du) ⟨hd.c,hd.rx,hd.draw,hd.xid,hd.lease,hd.addr,hd.mask,hd.router,hd.server,hd.source⟩ hk (by show s.tx.length≠16;rw[hx];decide) B.port B.phase
 rw[HU hd B hk hx hj hp hl (by omega),if_pos hk3,eg]
 dsimp only
 rw[show(k+2+65535)%65536=(k+1)%65536 by omega,hx]
 exact⟨⟨B.phase,B.port,B.peer,B.block,B.wind,rfl,rfl,rfl,B.peer,rfl⟩,by rw[B.peer];rfl,rfl,⟨rfl,rfl,rfl,rfl,rfl,rfl,rfl,rfl,rfl,rfl,rfl,rfl,rfl,rfl,rfl⟩⟩
theorem LL (hd:Hd dg s) (B:TrB im pe 375 s) (hk:s.cache=[ntK du 0]) (hx:s.tx=[]) (hj:j<65536) (hp:pe<60) (hl:im.length=3000) (hsh:sha im=dg):
 ∃t,s.frameP (GG (oW pe) j ((375+1)%65536) (iJ (oW pe) im 375))=t∧t.phase=3∧t.tx=[tF (s.id%65536) pe (sJ ((375+1)%65536))]:=by
 refine⟨_,rfl,?_⟩
 have eg:=Ff (u:={s with image:=im,next:=375+2,came:=1}) (dg:=dg) (du:=du) ⟨hd.c,hd.rx,hd.draw,hd.xid,hd.lease,hd.addr,hd.mask,hd.router,hd.server,hd.source⟩ hk (by show s.tx.length≠16;rw[hx];decide) B.port B.phase
 rw[HU hd B hk hx hj hp hl (Nat.le_refl _),if_neg (Nat.lt_irrefl _),if_pos hsh,eg]
 dsimp only
 rw[hx]
 exact⟨rfl,by rw[B.peer];rfl⟩
end
end Go.Proofs.YtcbkaiakdhiloacGreatDoor
namespace Go.Proofs.YtcbkaiakdhiloacGreatDoor
open Go.RowKit Go.Proofs
theorem eC {n a t k:Nat} {f:List UInt8} {out out':List (List UInt8)} {d d':RnD} (e:iE n a t f d out=some (d',out')):kS n a t (k+1) (f::out) d=kS n a t k out' d':=by
 rw[kS,e]
theorem gE {n a t k:Nat} {d:RnD}:kS n a t (k+1) [] d=some d:=rfl
section
variable {im dg:List UInt8} {n r i a t F bd ak sl:Nat} {s:St} {h:aK} {du:Int}
theorem Ef (T:Tr im r 1 s h) (H:HR im n h) (hl:im.length=3000) (hr:r≤6) (hi:i<65536) (ht:s.tsends≤3) (hak:ak≤4) (hsl:sl≤100000) (hbd:bd≤100000) (h3:(sl+1)%3≠0) (out:List (List UInt8)):
 ∃h',iE n a t (tF i s.goal s.last) ⟨s,h,bd,ak,sl⟩ out=some (⟨s,h',bd,ak,sl+1⟩,out)∧HR im n h'∧h'.now=h.now∧Tr im r 0 s h':=by
 obtain⟨h',b,e,H',en,T',ek,el,eo,_⟩:=T.heard H hl hr hi ht
 refine⟨h',?_,H',en,T'⟩
 rw[jM (d:=⟨s,h,bd,ak,sl⟩) H el eo hak hsl hbd e (Nat.le_refl 1),ek,if_neg (by rintro⟨x,_⟩;cases x),if_pos rfl,if_pos h3]
def Nt (im:List UInt8) (n r:Nat) (s:St) (h:aK) (bd ak sl:Nat) (d:RnD):Prop:=
 d.bound=bd∧d.asked=ak∧d.slow≤sl+2∧HR im n d.h∧d.h.now=h.now∧(d.s.phase=3∨(Mv s d.s∧d.s.tx=[]∧1≤d.s.tsends∧d.s.tsends≤d.slow%3∧Tr im r 0 d.s d.h))
theorem Tr.calm {q:Nat} (T:Tr im r q s h) (hl:im.length=3000):(s.phase=1∨s.phase=2)∧1≤s.block∧s.next≤s.image.length+1:=by
 rcases T with⟨A,_⟩|⟨pe,k,B,_,_,_,h3,_⟩
 ·exact⟨.inl A.phase,by rw[A.block];decide,by rw[A.next,A.image];decide⟩
 ·exact⟨.inr B.phase,by rw[B.block];decide,by rw[B.next,B.image,List.length_take];omega⟩
theorem Kr {j pe:Nat} (hj:j<65536) (hp:pe<65536):(oF j pe).length≤1048576:=by
 obtain⟨_,_,_,_,_,_,h⟩:=gB (d:=aL) (src:=bG) (i:=j) (ttl:=9) (fi:=aF) (ti:=aS) (fm:=pe) (tp:=1025) (ld:=GB) hj (by decide) (by decide) (by decide) hp (by decide) xK
 exact Nat.le_trans h (by decide)
theorem LO (hd:Hd dg s) (hk:s.cache=[ntK du 0]) (hx:s.tx=[]) (hsh:sha im=dg) (T:Tr im r 1 s h) (H:HR im n h) (hl:im.length=3000) (hr:r≤6) (hi:i<65536) (ht1:1≤s.tsends) (ht:s.tsends≤sl%3+1) (hak:ak≤4) (hsl:sl+2≤100000) (hbd:bd≤100000):
 ∃d,kS n a t (F+3) [tF i s.goal s.last] ⟨s,h,bd,ak,sl⟩=some d∧Nt im n r s h bd ak sl d:=by
 have ht3:s.tsends≤3:=by omega
 by_cases h3:(sl+1)%3≠0
 ·obtain⟨h',e,H',en,T'⟩:=Ef (a:=a) (t:=t) T H hl hr hi ht3 hak (by omega) hbd h3 []
  exact⟨_,(eC e).trans gE,rfl,rfl,by show sl+1≤_;omega,H',en,.inr ⟨⟨rfl,rfl,rfl,rfl,rfl,rfl,rfl,rfl,rfl,rfl,rfl,rfl,rfl,rfl,rfl⟩,hx,ht1,by show s.tsends≤(sl+1)%3;omega,T'⟩⟩
 obtain⟨hp,hb,hnx⟩:=T.calm hl
 obtain⟨h',b,e,H',en,T',ek,el,eo,hans⟩:=T.heard H hl hr hi ht3
 have hfr:=jM (a:=a) (t:=t) (d:=⟨s,h,bd,ak,sl⟩) H el eo hak (by show sl≤_;omega) hbd e (Nat.le_refl 1) []
 rw[ek,if_neg (by rintro⟨x,_⟩;cases x),if_pos rfl,if_neg h3]at hfr
 dsimp only at hfr
 have hov:s.over=false:=by unfold St.over;rcases hp with x|x<;>rw[x]<;>rfl
 have hone:=fun(hb':b.length≤1048576) (hx':(s.frameP b).tx.length≤16)=>jI t ⟨s,h',bd,ak,sl+1⟩ [] b hd.rx (by show s.c.rx≠0;rw[hd.c];show 16≠0;decide) hov hb' (fun _=>⟨hb,hnx⟩) hx' (Nat.zero_le _) (by have:=hd.lease;show s.lease≠2;omega)
 have hmod:(sl+1)%3=0:=by omega
 have hid:s.id%65536<65536:=Nat.mod_lt _ (by decide)
 rcases hans with⟨j,hj,rfl,A,hpo,hs0,hla,hbk,hwi⟩|⟨pe,k,j,hj,B,o,hs0,hk3,hpe,hla,rfl⟩
 ·obtain⟨u,eu,B,hux,hu1,hm⟩:=MA (im:=im) (pe:=h'.port) hd A hk hx hj (by omega)
  rw[hone (Kr hj (by omega)) (by rw[eu,hux];exact Nat.le_of_ble_eq_true rfl),eu]at hfr
  dsimp only at hfr
  rw[hux,List.nil_append]at hfr
  rw[eC hfr]
  obtain⟨v,hv⟩:∃v:St,v={u with tx:=[]}:=⟨_,rfl⟩
  have T2:Tr im r 1 v h':=by
   subst hv
   exact .inr ⟨h'.port,0,⟨B.phase,B.port,B.peer,B.block,B.wind,B.next,B.came,B.image,B.goal,B.last⟩,⟨H'.image,H'.next,rfl,hbk,hwi⟩,by omega,Nat.zero_le _,by decide,hpo,fun _ x=>by rw[hla]at x;exact absurd x.1 (by decide)⟩
  have v1:v.tsends=1:=by rw[hv];exact hu1
  have v2:v.goal=h'.port:=by rw[hv];exact B.goal
  have v3:v.last=sJ 0:=by rw[hv];exact B.last
  have v4:Mv s v∧v.tx=[]:=by subst hv;exact⟨⟨hm.c,hm.rx,hm.now,hm.draw,hm.lease,hm.xid,hm.addr,hm.mask,hm.router,hm.server,hm.source,hm.t1,hm.t2,hm.untl,hm.cache⟩,rfl⟩
  rw[←hv]
  clear hv hfr hux
  obtain⟨h2,e2,H2,en2,T3⟩:=Ef (a:=a) (t:=t) (i:=s.id%65536) (ak:=ak) (bd:=bd) (sl:=sl+1) T2 H' hl hr hid (by omega) hak (by omega) hbd (by omega) []
  rw[v2,v3]at e2
  exact⟨_,(eC e2).trans gE,rfl,rfl,by show sl+2≤_;omega,H2,en2.trans en,.inr ⟨v4.1,v4.2,by show 1≤v.tsends;omega,by show v.tsends≤(sl+2)%3;omega,T3⟩⟩
 ·have hdl:=F8 (y:=oW pe) (n:=(k+1)%65536) (d:=iJ (oW pe) im k) (vE (by omega) (by omega)) hj (Nat.le_trans (vP _ _ _) (by show 8≤1024;decide))
  by_cases hk4:k<375
  ·obtain⟨u,eu,B,hux,hu1,hm⟩:=Lb hd B hk hx hj (by omega) hl hk4
   rw[hone hdl (by rw[eu,hux];exact Nat.le_of_ble_eq_true rfl),eu]at hfr
   dsimp only at hfr
   rw[hux,List.nil_append]at hfr
   rw[eC hfr]
   obtain⟨v,hv⟩:∃v:St,v={u with tx:=[]}:=⟨_,rfl⟩
   have T2:Tr im r 1 v h':=by
    subst hv
    exact .inr ⟨pe,k+1,⟨B.phase,B.port,B.peer,B.block,B.wind,B.next,B.came,B.image,B.goal,B.last⟩,o,by omega,by omega,by omega,hpe,fun _ x=>by rw[hla]at x;have:=x.1;omega⟩
   have v1:v.tsends=1:=by rw[hv];exact hu1
   have v2:v.goal=pe:=by rw[hv];exact B.goal
   have v3:v.last=sJ ((k+1)%65536):=by rw[hv];exact B.last
   have v4:Mv s v∧v.tx=[]:=by subst hv;exact⟨⟨hm.c,hm.rx,hm.now,hm.draw,hm.lease,hm.xid,hm.addr,hm.mask,hm.router,hm.server,hm.source,hm.t1,hm.t2,hm.untl,hm.cache⟩,rfl⟩
   rw[←hv]
   clear hv hfr hux
   obtain⟨h2,e2,H2,en2,T3⟩:=Ef (a:=a) (t:=t) (i:=s.id%65536) (ak:=ak) (bd:=bd) (sl:=sl+1) T2 H' hl hr hid (by omega) hak (by omega) hbd (by omega) []
   rw[v2,v3]at e2
   exact⟨_,(eC e2).trans gE,rfl,rfl,by show sl+2≤_;omega,H2,en2.trans en,.inr ⟨v4.1,v4.2,by show 1≤v.tsends;omega,by show v.tsends≤(sl+2)%3;omega,T3⟩⟩
  ·obtain rfl:k=375:=by omega
   obtain⟨u,eu,hu3,hux⟩:=LL hd B hk hx hj (by omega) hl hsh
   rw[hone hdl (by rw[eu,hux];exact Nat.le_of_ble_eq_true rfl),eu]at hfr
   dsimp only at hfr
   rw[hux,List.nil_append]at hfr
   rw[eC hfr]
   obtain⟨v,hv⟩:∃v:St,v={u with tx:=[]}:=⟨_,rfl⟩
   have v1:v.phase=3:=by rw[hv];exact hu3
   rw[←hv]
   clear hv hfr hux
   have hy:(oW pe).Ok:=vE (by omega) (by omega)
   obtain⟨h2,l2,e2,o2,f1,f2,f3,hll2,_⟩:=o.hears (k:=376) hy ⟨by omega,by show 376≤h'.sent+1;omega,fun x=>by rw[hla]at x;have:=x.1;omega⟩ hid 0 1 rfl (fun j hj=>absurd hj (Nat.not_lt_zero _)) (.inr (by show im.length<(376+0)*8;omega))
   obtain rfl:=List.eq_nil_of_length_eq_zero hll2
   obtain⟨r1,r2,r3⟩:=BJ hy hid (by decide) H'.next e2
   have hal:(sJ ((375+1)%65536)).length≤1472:=by rw[nK];decide
   have k1:=Bq hid (by omega:pe<65536) (by omega) hal
   have k2:=DR (goal:=pe) hid (by omega) hal
   have k3:=Cj (n:=(375+1)%65536) hy hid (by decide)
   rw[Ip]at k1 k2⊢
   have hf2:=jM (a:=a) (t:=t) (d:=⟨v,h',bd,ak,sl+1⟩) H' k2 k3 hak (by show sl+1≤_;omega) hbd e2 (Nat.zero_le 1) []
   rw[k1,if_neg (by rintro⟨x,_⟩;cases x),if_pos rfl,if_pos (by show(sl+1+1)%3≠0;omega)]at hf2
   exact⟨_,(eC hf2).trans gE,rfl,rfl,Nat.le_refl _,⟨o2.image,r1.trans H'.lease,o2.next,r2.trans H'.options,by show h2.sent≤_;omega,by show h2.window≤1;rw[o2.window];exact Nat.le_refl 1,by show h2.whn≤h2.now;have:=H'.whn;omega⟩,f3.trans en,.inl v1⟩
end
end Go.Proofs.YtcbkaiakdhiloacGreatDoor
