/- Parts of the walk; written by programs, merged. -/
import Derived.Test.YtcbkaiakdhiloacGreatDoorBXa
set_option linter.unusedSimpArgs false
set_option linter.unusedVariables false
set_option maxRecDepth 20000
set_option maxHeartbeats 8000000
namespace Go.Proofs.YtcbkaiakdhiloacGreatDoor
theorem gZ (op fi ti:Nat) (fm tm:Mac) (r:List UInt8) (ho:op=1∨op=2) (hfi:fi<4294967296) (hti:ti<4294967296):
 bE (aZ op fm fi tm ti++r)=(⟨op,fm,fi,tm,ti⟩,0):=by
 obtain⟨b0,b1,b2,b3,b4,b5⟩:=fm
 obtain⟨c0,c1,c2,c3,c4,c5⟩:=tm
 rw[CK (aZ op (b0,b1,b2,b3,b4,b5) fi (c0,c1,c2,c3,c4,c5) ti++r) [0,1,8,0,6,4] (big 2 op) (big 4 fi) (big 4 ti) r b0 b1 b2 b3 b4 b5 c0 c1 c2 c3 c4 c5
  rfl rfl (aB _ _) (aB _ _) (aB _ _),cA 2 _ (by omega),cA 4 _ (by omega),cA 4 _ (by omega),if_pos ⟨rfl,ho⟩]
theorem lV (tm fm:Mac) (ty:Nat) (ld:List UInt8):(kJ tm fm ty ld).length=14+ld.length:=by
 unfold kJ;simp[aB,dO];omega
def iC (ld:List UInt8):List UInt8:=ld++List.replicate (60-(14+ld.length)) 0
theorem fA (tm fm:Mac) (ty:Nat) (ld:List UInt8) (h1:1536≤ty) (h2:ty<65536) (hl:ld.length≤1500):
 aJ (eP tm fm ty ld)=(⟨tm,fm,ty,iC ld⟩,0):=by
 obtain⟨b0,b1,b2,b3,b4,b5⟩:=tm
 obtain⟨c0,c1,c2,c3,c4,c5⟩:=fm
 have hb:=lV (b0,b1,b2,b3,b4,b5) (c0,c1,c2,c3,c4,c5) ty ld
 unfold eP
 rw[hb]
 rw[Ag _ (big 2 ty) (iC ld) b0 b1 b2 b3 b4 b5 c0 c1 c2 c3 c4 c5 (by unfold kJ iC dO;simp[List.append_assoc]) (aB _ _),cA 2 _ (by omega),if_neg (by omega),if_neg (by unfold iC;simp;omega)]
theorem rK:∀(os:List bK) (c:UInt8) (d:List UInt8),(∀o∈os,o.code≠c)→fQ os c d=os++[⟨c,d⟩]
 |[],_,_,_=>rfl
 |o::r,c,d,h=>by
  unfold fQ
  rw[if_neg (h o (by simp)),rK r c d (fun x hx=>h x (by simp[hx]))];rfl
theorem nT:∀(os:List bK) (c:UInt8) (a d:List UInt8),(∀o∈os,o.code≠c)→fQ (os++[⟨c,a⟩]) c d=os++[⟨c,a++d⟩]
 |[],c,a,d,_=>by simp[fQ]
 |o::r,c,a,d,h=>by
  rw[List.cons_append]
  unfold fQ
  rw[if_neg (h o (by simp)),nT r c a d (fun x hx=>h x (by simp[hx]))];rfl
theorem gY (os:List bK) (c:UInt8) (d r:List UInt8) (k:UInt8) (h0:c≠0) (h1:c≠255) (hk:k.toNat=d.length):eG os (c::k::(d++r))=eG (fQ os c d) r:=by
 rw[xO os c k (d++r) h1 h0 (by simp[hk]),hk,List.take_left' rfl,List.drop_left' rfl]
theorem uE:∀(n:Nat) (os:List bK) (c:UInt8) (a d r:List UInt8),d.length≤n→c≠0→c≠255→(∀o∈os,o.code≠c)→
 eG (os++[⟨c,a⟩]) (kB c d++r)=eG (os++[⟨c,a++d⟩]) r
 |0,os,c,a,d,r,hn,h0,h1,h=>by
  have:d=[]:=List.eq_nil_of_length_eq_zero (by omega)
  subst this
  rw[fK c [] (by simp)]
  have e:=gY (os++[⟨c,a⟩]) c [] r 0 h0 h1 rfl
  rw[nT os c a [] h]at e
  exact e
 |n+1,os,c,a,d,r,hn,h0,h1,h=>by
  rcases Nat.lt_or_ge 255 d.length with hb|hb
  ·rw[nF c d hb]
   have e:=gY (os++[⟨c,a⟩]) c (d.take 255) (kB c (d.drop 255)++r) 255 h0 h1 (by rw[List.length_take];show 255=_;omega)
   rw[nT os c a _ h,uE n os c (a++d.take 255) (d.drop 255) r (by rw[List.length_drop];omega) h0 h1 h,List.append_assoc,List.take_append_drop]at e
   rw[←e]
   simp[List.append_assoc]
  ·rw[fK c d hb]
   have e:=gY (os++[⟨c,a⟩]) c d r (UInt8.ofNat d.length) h0 h1 (by rw[UInt8.toNat_ofNat'];omega)
   rw[nT os c a d h]at e
   rw[←e];simp
theorem Az (os:List bK) (c:UInt8) (d r:List UInt8) (h0:c≠0) (h1:c≠255) (h:∀o∈os,o.code≠c):
 eG os (kB c d++r)=eG (os++[⟨c,d⟩]) r:=by
 rcases Nat.lt_or_ge 255 d.length with hb|hb
 ·rw[nF c d hb]
  have e:=gY os c (d.take 255) (kB c (d.drop 255)++r) 255 h0 h1 (by rw[List.length_take];show 255=_;omega)
  rw[rK os c _ h,uE d.length os c (d.take 255) (d.drop 255) r (by rw[List.length_drop];omega) h0 h1 h,List.take_append_drop]at e
  rw[←e]
  simp[List.append_assoc]
 ·rw[fK c d hb]
  have e:=gY os c d r (UInt8.ofNat d.length) h0 h1 (by rw[UInt8.toNat_ofNat'];omega)
  rw[rK os c d h]at e
  rw[←e];simp
theorem Al:∀(os b4:List bK) (r:List UInt8),(∀o∈os,o.code≠0∧o.code≠255)→((b4++os).Pairwise fun x y=>x.code≠y.code)→
 eG b4 (os.flatMap (fun o=>kB o.code o.data)++255::r)=some (b4++os)
 |[],b4,r,_,_=>by simp[xJ]
 |o::os,b4,r,hc,hp=>by
  rw[List.flatMap_cons,List.append_assoc,Az b4 o.code o.data _ (hc o (by simp)).1 (hc o (by simp)).2 ?_]
  ·have:=Al os (b4++[o]) r (fun x hx=>hc x (by simp[hx])) (by simpa using hp)
   rw[this];simp
  ·intro x hx
   rw[List.pairwise_append]at hp
   exact hp.2.2 x hx o (by simp)
theorem vM {l a b c:List UInt8} {i j:Nat} (h:l=a++(b++c)) (ha:a.length=i) (hb:b.length=j-i) (hij:i≤j):sub l i j=b:=by
 subst h ha
 unfold sub
 rw[List.take_append,List.drop_append,List.take_of_length_le (by omega),List.drop_of_length_le (by omega),Nat.sub_self,List.drop_zero,←hb,List.nil_append,List.take_left' rfl]
theorem jV (rp:Bool) (xid client yours next:Nat) (mac:Mac) (os:List bK) (hx:xid<4294967296) (hc:client<4294967296) (hy:yours<4294967296) (hn:next<4294967296)
 (ho:∀o∈os,o.code≠0∧o.code≠255∧o.code≠52) (hp:os.Pairwise fun x y=>x.code≠y.code):
 aQ (iB (eD rp xid client yours next (dO mac)) os)=(⟨rp,xid,client,yours,next,mac,os⟩,0):=by
 obtain⟨m0,m1,m2,m3,m4,m5⟩:=mac
 have h52:∀os:List bK,(∀o∈os,o.code≠52)→eF os 52=none:=by
  intro os
  induction os with
  |nil=>intro _;rfl
  |cons o r ih=>intro h;unfold eF;rw[if_neg (h o (by simp)),ih (fun x hx=>h x (by simp[hx]))]
 obtain⟨f0,f1,hfl⟩:∃f0 f1,(if client=0 then([128,0]:List UInt8)else [0,0])=[f0,f1]:=by
  by_cases h:client=0
  ·exact⟨128,0,if_pos h⟩
  ·exact⟨0,0,if_neg h⟩
 have h4:∀n,∃a b c d,big 4 n=[a,b,c,d]:=fun n=>by
  have:=aB 4 n
  match h:big 4 n,this with
  |[a,b,c,d],_=>exact⟨a,b,c,d,rfl⟩
 obtain⟨x0,x1,x2,x3,ex⟩:=h4 xid
 obtain⟨c0,c1,c2,c3,ec⟩:=h4 client
 obtain⟨y0,y1,y2,y3,ey⟩:=h4 yours
 obtain⟨n0,n1,n2,n3,en⟩:=h4 next
 obtain⟨zz,hzz,hzl⟩:∃zz,zz=List.replicate 202 (0:UInt8)∧zz.length=202:=⟨_,rfl,List.length_replicate ..⟩
 obtain⟨fb,hfb⟩:∃fb,fb=os.flatMap (fun o:bK=>kB o.code o.data):=⟨_,rfl⟩
 have hh:eD rp xid client yours next (dO (m0,m1,m2,m3,m4,m5))=[if rp then(2:UInt8)else 1,1,6,0,x0,x1,x2,x3,0,0,f0,f1,c0,c1,c2,c3,y0,y1,y2,y3,n0,n1,n2,n3,0,0,0,0,m0,m1,m2,m3,m4,m5]++zz++[99,130,83,99]:=by
  unfold eD
  rw[hfl,ex,ec,ey,en,hzz,show big 4 0=[0,0,0,0] by decide]
  rfl
 obtain⟨z,hz⟩:∃z,iB (eD rp xid client yours next (dO (m0,m1,m2,m3,m4,m5))) os=[if rp then(2:UInt8)else 1,1,6,0,x0,x1,x2,x3,0,0,f0,f1,c0,c1,c2,c3,y0,y1,y2,y3,n0,n1,n2,n3,0,0,0,0,m0,m1,m2,m3,m4,m5]++(zz++([99,130,83,99]++(fb++255::z))):=by
  refine⟨List.replicate (300-(eD rp xid client yours next (dO (m0,m1,m2,m3,m4,m5))++fb++[255]).length) 0,?_⟩
  rw[show iB (eD rp xid client yours next (dO (m0,m1,m2,m3,m4,m5))) os=(eD rp xid client yours next (dO (m0,m1,m2,m3,m4,m5))++fb++[255])++List.replicate (300-(eD rp xid client yours next (dO (m0,m1,m2,m3,m4,m5))++fb++[255]).length) 0 by rw[hfb];rfl]
  generalize List.replicate (300-(eD rp xid client yours next (dO (m0,m1,m2,m3,m4,m5))++fb++[255]).length) (0:UInt8)=z
  rw[hh]
  simp only[List.append_assoc,List.cons_append,List.nil_append]
 clear hh hzz
 generalize iB (eD rp xid client yours next (dO (m0,m1,m2,m3,m4,m5))) os=l at*
 have hlen:240≤l.length:=by rw[hz];simp only[List.length_append,List.length_cons,List.length_nil,hzl];omega
 have s0:sub l 0 1=[if rp then 2 else 1]:=by rw[hz];rfl
 have s1:sub l 1 3=[1,6]:=by rw[hz];rfl
 have s4:sub l 4 8=big 4 xid:=by rw[hz,ex];rfl
 have s12:sub l 12 16=big 4 client:=by rw[hz,ec];rfl
 have s16:sub l 16 20=big 4 yours:=by rw[hz,ey];rfl
 have s20:sub l 20 24=big 4 next:=by rw[hz,en];rfl
 have s28:lF (l.drop 28)=(m0,m1,m2,m3,m4,m5):=by rw[hz];rfl
 have s236:sub l 236 240=[99,130,83,99]:=vM (a:=[if rp then(2:UInt8)else 1,1,6,0,x0,x1,x2,x3,0,0,f0,f1,c0,c1,c2,c3,y0,y1,y2,y3,n0,n1,n2,n3,0,0,0,0,m0,m1,m2,m3,m4,m5]++zz) (c:=fb++255::z) (by rw[hz];simp only[List.append_assoc]) (by simp only[List.length_append,List.length_cons,List.length_nil,hzl]) rfl (by omega)
 have s240:l.drop 240=fb++255::z:=by
  rw[show l=([if rp then(2:UInt8)else 1,1,6,0,x0,x1,x2,x3,0,0,f0,f1,c0,c1,c2,c3,y0,y1,y2,y3,n0,n1,n2,n3,0,0,0,0,m0,m1,m2,m3,m4,m5]++zz++[99,130,83,99])++(fb++255::z) by rw[hz];simp only[List.append_assoc]]
  exact List.drop_left' (by simp only[List.length_append,List.length_cons,List.length_nil,hzl])
 rw[hfb]at s240
 have ov:iI os (sub l 44 108) (sub l 108 236)=(os,0):=by unfold iI;rw[h52 os (fun o h=>(ho o h).2.2)]
 have ho2:=Al os [] z (fun o h=>⟨(ho o h).1,(ho o h).2.1⟩) hp
 unfold aQ
 rw[if_neg (by omega),if_neg (by rw[s0,s1,s236];cases rp<;>simp),s240,ho2]
 simp only[List.nil_append]
 rw[ov]
 simp only
 rw[s0,s4,s12,s16,s20,s28,cA 4 _ (by omega),cA 4 _ (by omega),cA 4 _ (by omega),cA 4 _ (by omega)]
 cases rp<;>rfl
theorem lineOf_text (a r:List UInt8) (h:(0:UInt8)∉a):eQ (a++0::r)=some (a,r):=by
 induction a with
 |nil=>rfl
 |cons c a ih=>
  rw[List.cons_append]
  unfold eQ
  rw[if_neg (by intro e;apply h;simp[e]),ih (by intro e;apply h;simp[e])]
  rfl
theorem word_no0 {l:List UInt8} (h:cP l=true):(0:UInt8)∉l:=by
 unfold cP at h
 simp only[Bool.and_eq_true,List.all_eq_true]at h
 intro hm
 exact absurd (h.1 0 hm) (by decide)
theorem fldRd_all:∀(fs b4:List eH),(∀j o,fs[j]? =some o→nM (b4++fs.take j) o=true)→jF b4 (Au fs)=some (b4++fs)
 |[],b4,_=>by simp[Au,Fp]
 |x::r,b4,h=>by
  have h0:=h 0 x rfl
  simp only[List.take_zero,List.append_nil]at h0
  unfold nM at h0
  simp only[Bool.and_eq_true]at h0
  obtain⟨⟨⟨w1,w2⟩,w3⟩,w4⟩:=h0
  have el:CP x.name=x.name:=(by simpa using w3:x.name=CP x.name).symm
  have hb:Au (x::r)=x.name++0::(x.value++0::Au r):=by unfold Au;rw[List.flatMap_cons];simp[List.append_assoc]
  rw[hb,GD b4 _ _ _ _ _ (lineOf_text x.name _ (word_no0 w1)) (lineOf_text x.value _ (word_no0 w2)) (by rw[w1,w2,el];simpa using w4),el]
  have:=fldRd_all r (b4++[x]) (fun j o hj=>by
   have:=h (j+1) o (by simpa using hj)
   rwa [List.take_succ_cons,List.append_cons]at this)
  rw[show(⟨x.name,x.value⟩:eH)=x from rfl,this];simp
theorem Cd (n:Nat) (r:List UInt8):sub (big 2 n++r) 0 2=big 2 n:=vM (a:=[]) rfl rfl (aB _ _) (by omega)
theorem vX (bk:Nat) (d:List UInt8) (hb:bk<65536) (hd:d.length≤1024):aM (big 2 3++big 2 bk++d)=(⟨3,bk,[],d,[]⟩,0):=by
 have hl:(big 2 3++big 2 bk++d).length=4+d.length:=by simp[aB];omega
 have e0:num (sub (big 2 3++big 2 bk++d) 0 2)=3:=by rw[List.append_assoc,Cd,cA 2 _ (by omega)]
 have e2:sub (big 2 3++big 2 bk++d) 2 4=big 2 bk:=vM (a:=big 2 3) (by rw[List.append_assoc]) rfl (aB _ _) (by omega)
 have e4:(big 2 3++big 2 bk++d).drop 4=d:=List.drop_left' (by simp[aB])
 unfold aM
 rw[if_neg (by omega),e0,if_neg (by omega),if_neg (by omega),if_pos rfl,if_neg (by omega),e4,if_neg (by omega),e2,cA 2 _ (by omega)]
theorem yO (bk:Nat) (hb:bk<65536):aM (big 2 4++big 2 bk)=(⟨4,bk,[],[],[]⟩,0):=by
 have hl:(big 2 4++big 2 bk).length=4:=by simp[aB]
 have e0:num (sub (big 2 4++big 2 bk) 0 2)=4:=by rw[Cd,cA 2 _ (by omega)]
 have e2:sub (big 2 4++big 2 bk) 2 4=big 2 bk:=vM (a:=big 2 4) (c:=[]) (by simp) rfl (aB _ _) (by omega)
 have e4:(big 2 4++big 2 bk).drop 4=[]:=List.drop_eq_nil_of_le (by omega)
 unfold aM
 rw[if_neg (by omega),e0,if_neg (by omega),if_neg (by omega),if_neg (by omega),if_pos rfl,if_neg (by omega),e4,if_neg (by simp),e2,cA 2 _ (by omega)]
theorem readTFTP_oack (fs:List eH) (h:DW fs fs.length):aM (big 2 6++Au fs)=(⟨6,0,[],[],fs⟩,0):=by
 have hl:(big 2 6++Au fs).length=2+(Au fs).length:=by simp[aB]
 have e0:num (sub (big 2 6++Au fs) 0 2)=6:=by rw[Cd,cA 2 _ (by omega)]
 have e2:(big 2 6++Au fs).drop 2=Au fs:=List.drop_left' (aB _ _)
 have ef:=fldRd_all fs [] (fun j o hj=>by
  have hjl:j<fs.length:=by
   rcases Nat.lt_or_ge j fs.length with h1|h1
   ·exact h1
   ·rw[List.getElem?_eq_none h1]at hj;cases hj
  simpa using h j o hjl hj)
 unfold aM
 rw[if_neg (by omega),e0,if_neg (by omega),if_pos rfl,e2,ef];rfl
theorem readTFTP_ask (tx:List UInt8) (fs:List eH) (ht:cP tx=true) (h:DW fs fs.length):aM (big 2 1++tx++[0,111,99,116,101,116,0]++Au fs)=(⟨1,0,tx,[],fs⟩,0):=by
 have hl:(big 2 1++tx++[0,111,99,116,101,116,0]++Au fs).length=9+tx.length+(Au fs).length:=by simp[aB];omega
 have e0:num (sub (big 2 1++tx++[0,111,99,116,101,116,0]++Au fs) 0 2)=1:=by rw[List.append_assoc,List.append_assoc,Cd,cA 2 _ (by omega)]
 have e2:(big 2 1++tx++[0,111,99,116,101,116,0]++Au fs).drop 2=tx++0::(CC++0::Au fs):=by rw[List.append_assoc,List.append_assoc,List.drop_left' (aB _ _)];rfl
 have ef:=fldRd_all fs [] (fun j o hj=>by
  have hjl:j<fs.length:=by
   rcases Nat.lt_or_ge j fs.length with h1|h1
   ·exact h1
   ·rw[List.getElem?_eq_none h1]at hj;cases hj
  simpa using h j o hjl hj)
 have eo:(0:UInt8)∉CC:=by decide
 unfold aM
 rw[if_neg (by omega),e0,if_pos rfl,e2,lineOf_text tx _ (word_no0 ht)]
 simp only
 rw[if_neg (by rw[ht];simp),lineOf_text CC _ eo]
 simp only
 rw[if_pos (by decide),ef];rfl
end Go.Proofs.YtcbkaiakdhiloacGreatDoor
namespace Go.Proofs.YtcbkaiakdhiloacGreatDoor
open Go.RowKit Go.Proofs
def frU (d src:Mac) (i:Nat) (ttl:UInt8) (fi ti fm tp:Nat) (ld:List UInt8):List UInt8:=(aT d src 2048 (vC i ttl 17 fi ti (jC fm tp fi ti ld).1).1).1
theorem FA (h:aK) (fm tp:Nat) (ld:List UInt8) (fi ti:Nat):h.wrap fm tp ld fi ti=({h with id:=(h.id+1)%65536},frU aL bG ((h.id+1)%65536) 9 fi ti fm tp ld):=rfl
section
variable {d src:Mac} {i:Nat} {ttl:UInt8} {fi ti fm tp:Nat} {ld:List UInt8}
theorem gB (hi:i<65536) (ht:ttl.toNat≠0) (hfi:fi<4294967296) (hti:ti<4294967296) (hfm:fm<65536) (htp:tp<65536) (hl:ld.length≤1472):
 ∃b u,aJ (frU d src i ttl fi ti fm tp ld)=(⟨d,src,2048,b⟩,0)∧aW b=(⟨i,ttl.toNat,17,fi,ti,u⟩,0)∧bA u fi ti=(⟨fm,tp,ld⟩,0)∧60≤(frU d src i ttl fi ti fm tp ld).length∧(frU d src i ttl fi ti fm tp ld).length≤1514:=by
 have e1:(jC fm tp fi ti ld).1=cG fm tp ld (gC fm tp fi ti ld):=by unfold jC;rw[if_neg (by omega)]
 have hul:(cG fm tp ld (gC fm tp fi ti ld)).length≤1480:=by rw[fZ];omega
 have hur:=pX fm tp fi ti ld [] hfm htp (by omega)
 rw[List.append_nil]at hur
 unfold frU
 rw[e1]
 generalize cG fm tp ld (gC fm tp fi ti ld)=u at*
 have e2:(vC i ttl 17 fi ti u).1=fG i ttl 17 fi ti u:=by unfold vC;rw[if_neg ht,if_neg (by omega)]
 have hpl:(fG i ttl 17 fi ti u).length≤1500:=by unfold fG;rw[List.length_append,eZ];omega
 rw[e2]
 have hir:=sY i ttl 17 fi ti u (List.replicate (60-(14+(fG i ttl 17 fi ti u).length)) 0) hi hfi hti ht hul
 generalize hp:fG i ttl 17 fi ti u=p at*
 have e3:(aT d src 2048 p).1=eP d src 2048 p:=by unfold aT;rw[if_neg (by decide),if_neg (by omega)]
 have hb:=lV d src 2048 p
 refine⟨iC p,u,?_,?_,hur,?_,?_⟩
 ·rw[e3,fA _ _ _ _ (by decide) (by decide) hpl]
 ·exact hir
 ·rw[e3];unfold eP;rw[List.length_append,List.length_replicate];omega
 ·rw[e3];unfold eP;rw[List.length_append,List.length_replicate,hb];omega
theorem pI (h:aK) (hi:i<65536) (ht:ttl.toNat≠0) (hfi:fi<4294967296) (hti:ti<4294967296) (hfm:fm<65536) (htp:tp<65536) (hl:ld.length≤1472):
 h.answer (frU d aL i ttl fi ti fm tp ld)=if tp=67 then h.dhcp ⟨fm,tp,ld⟩else if(aM ld).2≠0∨fi≠aS∨ti≠h.next then(h,[],false)else h.tftp ⟨fm,tp,ld⟩ (aM ld).1:=by
 obtain⟨b,u,e1,e2,e3,e4,e5⟩:=gB (d:=d) (src:=aL) hi ht hfi hti hfm htp hl
 unfold aK.answer
 rw[e1]
 dsimp only
 rw[if_neg (by rintro(h|h|h);exact h rfl;exact h rfl;omega),if_neg (by decide),e2]
 dsimp only
 rw[e3,if_neg (by rintro(h|h|h|h)<;>exact h rfl)]
theorem AI (hi:i<65536) (ht:ttl.toNat≠0) (hfi:fi<4294967296) (hti:ti<4294967296) (hfm:fm<65536) (htp:tp<65536) (hl:ld.length≤1472)
 (hb:0≤cH St.bNm (aM ld).1.fs∧cH St.bNm (aM ld).1.fs≤70000) (hw:0≤cH St.wNm (aM ld).1.fs∧cH St.wNm (aM ld).1.fs≤70000):qC (frU d src i ttl fi ti fm tp ld)=true:=by
 obtain⟨b,u,e1,e2,e3,_⟩:=gB (d:=d) (src:=src) hi ht hfi hti hfm htp hl
 unfold qC
 rw[e1]
 dsimp only
 rw[e2]
 dsimp only
 rw[e3]
 simp only[Bool.or_eq_true,Bool.and_eq_true,decide_eq_true_eq]
 exact .inr ⟨⟨⟨hb.1,hb.2⟩,hw.1⟩,hw.2⟩
theorem vO (s:St) (hd:d=s.c.card) (hi:i<65536) (ht:ttl.toNat≠0) (hfi:fi<4294967296) (hti:ti<4294967296) (hfm:fm<65536) (htp:tp<65536) (hl:ld.length≤1472):
 s.frameP (frU d src i ttl fi ti fm tp ld)=if tp=68 then s.leasedP ld else if s.busy=true∧s.address≠0∧ti=s.address∧fi=s.source∧tp=s.port then s.loadsP fm ld else s:=by
 obtain⟨b,u,e1,e2,e3,e4,e5⟩:=gB (d:=d) (src:=src) hi ht hfi hti hfm htp hl
 unfold St.frameP
 rw[e1]
 dsimp only
 rw[if_neg (by rintro(h|h);exact h rfl;exact h.1 hd),if_neg (by decide),if_pos rfl]
 unfold St.dgramP
 rw[e2]
 dsimp only
 rw[e3,if_neg (by rintro(h|h)<;>exact h rfl),if_neg (by simp)]
 rfl
end
end Go.Proofs.YtcbkaiakdhiloacGreatDoor
namespace Go.Proofs.YtcbkaiakdhiloacGreatDoor
open Go.RowKit Go.Proofs
def vJ (kd:UInt8) (ls:Nat):List bK:=[⟨53,[kd]⟩,⟨54,big 4 aF⟩,⟨51,big 4 ls⟩,⟨1,[255,255,255,0]⟩,⟨3,big 4 aF⟩]
def GX (xid nx:Nat) (kd:UInt8) (ls:Nat):List UInt8:=(fP true xid 0 aS nx (dO aL) (vJ kd ls)).1
theorem Jc (rp:Bool) (xid client yours next:Nat) (os:List bK) (h:∀o∈os,o.data.length≤255) (hl:os.length≤8) (hd:(os.flatMap fun o=>o.data).length≤100):(iB (eD rp xid client yours next (dO aL)) os).length≤400:=by
 have h1:∀os:List bK,(∀o∈os,o.data.length≤255)→(os.flatMap fun o=>kB o.code o.data).length=2*os.length+(os.flatMap fun o=>o.data).length:=by
  intro os
  induction os with
  |nil=>intro _;rfl
  |cons o r ih=>
   intro h
   rw[List.flatMap_cons,List.flatMap_cons,List.length_append,List.length_append,ih fun x hx=>h x (List.mem_cons_of_mem _ hx),fK _ _ (h o (List.mem_cons_self ..))]
   simp only[List.length_append,List.length_cons,List.length_nil];omega
 unfold iB
 rw[mZ,List.length_append,List.length_append,lS _ _ _ _ _ _ rfl,h1 os h]
 simp only[List.length_cons,List.length_nil];omega
theorem Iv (rp:Bool) (xid client yours next:Nat) (os:List bK) (h:∀o∈os,o.data.length≤255) (hl:os.length≤8) (hd:(os.flatMap fun o=>o.data).length≤100) (hb:os.any lW=false):(fP rp xid client yours next (dO aL) os).1=iB (eD rp xid client yours next (dO aL)) os:=by
 unfold fP
 rw[hb,if_neg (by decide),if_neg (by have:=Jc rp xid client yours next os h hl hd;omega)]
theorem GS (xid nx:Nat) (kd:UInt8) (ls:Nat) (hx:xid<4294967296) (hn:nx<4294967296):aQ (GX xid nx kd ls)=(⟨true,xid,0,aS,nx,aL,vJ kd ls⟩,0):=by
 unfold GX
 rw[Iv]
 ·refine jV _ _ _ _ _ _ _ hx (by decide) (by decide) hn ?_ ?_
  ·intro o ho
   simp only[vJ,List.mem_cons,List.not_mem_nil,or_false]at ho
   rcases ho with rfl|rfl|rfl|rfl|rfl<;>refine⟨?_,?_,?_⟩<;>(dsimp only;decide)
  ·simp[vJ]
 ·intro o ho
  simp only[vJ,List.mem_cons,List.not_mem_nil,or_false]at ho
  rcases ho with rfl|rfl|rfl|rfl|rfl<;>simp[aB]
 ·simp[vJ]
 ·simp[vJ,aB]
 ·rfl
theorem GY (s:St) (kind:UInt8) (os:List bK) (hc:s.c.card=aL) (hx:s.xid<4294967296) (ha:s.address<4294967296) (hk:kind≠4) (hos:os=[]∨os=s.both):
 aQ (s.msg kind os)=(⟨false,s.xid,s.address,0,0,aL,St.msgO kind os⟩,0)∧FT (St.msgO kind os) 53=[kind]:=by
 unfold St.msg
 rw[hc,Iv]
 ·refine⟨jV _ _ _ _ _ _ _ hx ha (by decide) (by decide) ?_ ?_,?_⟩
  ·intro o ho
   unfold St.msgO at ho
   rw[if_neg hk]at ho
   rcases hos with rfl|rfl
   ·simp at ho;rcases ho with rfl|rfl<;>refine⟨?_,?_,?_⟩<;>(dsimp only;decide)
   ·simp[St.both]at ho;rcases ho with rfl|rfl|rfl|rfl<;>refine⟨?_,?_,?_⟩<;>(dsimp only;decide)
  ·unfold St.msgO
   rw[if_neg hk]
   rcases hos with rfl|rfl
   ·simp
   ·simp[St.both]
  ·rcases hos with rfl|rfl<;>rfl
 ·intro o ho
  unfold St.msgO at ho
  rw[if_neg hk]at ho
  rcases hos with rfl|rfl
  ·simp at ho;rcases ho with rfl|rfl<;>simp
  ·simp[St.both]at ho;rcases ho with rfl|rfl|rfl|rfl<;>simp[aB]
 ·unfold St.msgO
  rw[if_neg hk]
  rcases hos with rfl|rfl<;>simp[St.both]
 ·unfold St.msgO
  rw[if_neg hk]
  rcases hos with rfl|rfl<;>simp[St.both,aB]
 ·unfold St.msgO
  rw[if_neg hk]
  rcases hos with rfl|rfl<;>rfl
def Ar (i:Nat) (xid nx:Nat) (kd:UInt8) (ls:Nat):List UInt8:=frU aL bG i 9 aF aS 67 68 (GX xid nx kd ls)
theorem uC (h:aK) (d:Mac) (i fi ti xid cl:Nat) (kind:UInt8) (ld:List UInt8) (os:List bK) (hi:i<65536) (hfi:fi<4294967296) (hti:ti<4294967296) (hl:ld.length≤1472) (hr:aQ ld=(⟨false,xid,cl,0,0,aL,os⟩,0)) (ho:FT os 53=[kind]) (hk:kind=1∨kind=3):
 h.answer (frU d aL i 64 fi ti 68 67 ld)=({h with id:=(h.id+1)%65536},[Ar ((h.id+1)%65536) xid h.next (if kind=3 then 5 else 2) h.lease],true):=by
 rw[pI h hi (by decide) hfi hti (by decide) (by decide) hl,if_pos rfl]
 unfold aK.dhcp
 dsimp only
 rw[hr]
 dsimp only
 rw[if_neg (by rintro(h|h|h);exact h rfl;cases h;exact h rfl),ho]
 have e:∀k:UInt8,(if [kind]=[3]then k else(2:UInt8))=if kind=3 then k else 2:=fun k=>by
  by_cases h3:kind=3
  ·subst h3;rfl
  ·rw[if_neg h3,if_neg (by intro h;exact h3 (List.cons.inj h).1)]
 rw[e,FA]
 have e2:(decide ([kind]=[1])||decide ((if kind=3 then(5:UInt8)else 2)=5))=true:=by rcases hk with rfl|rfl<;>rfl
 dsimp only
 rw[e2]
 unfold Ar GX vJ
 rfl
theorem qE (s:St) (i xid nx:Nat) (kd:UInt8) (ls:Nat) (hc:s.c.card=aL) (hi:i<65536):s.frameP (Ar i xid nx kd ls)=s.leasedP (GX xid nx kd ls):=by
 unfold Ar
 rw[vO s hc.symm hi (by decide) (by decide) (by decide) (by decide) (by decide) (by unfold GX;exact iW ..),if_pos rfl]
theorem vT (i xid nx:Nat) (kd:UInt8) (ls:Nat) (hi:i<65536):(Ar i xid nx kd ls).length≤1048576:=by
 obtain⟨_,_,_,_,_,_,h⟩:=gB (d:=aL) (src:=bG) (i:=i) (ttl:=9) (fi:=aF) (ti:=aS) (fm:=67) (tp:=68) (ld:=GX xid nx kd ls) hi (by decide) (by decide) (by decide) (by decide) (by decide) (by unfold GX;exact iW ..)
 exact Nat.le_trans h (by decide)
section
variable {s:St} {nx ls:Nat} {kd:UInt8}
theorem n54:St.number (vJ kd ls) 54=some aF:=by
 show(if(big 4 aF).length=4 then some (num (big 4 aF))else none)=_
 rw[if_pos (aB _ _),cA 4 _ (by decide)]
theorem n51 (h:ls<4294967296):St.number (vJ kd ls) 51=some ls:=by
 show(if(big 4 ls).length=4 then some (num (big 4 ls))else none)=_
 rw[if_pos (aB _ _),cA 4 _ (by omega)]
theorem n1:St.number (vJ kd ls) 1=some 4294967040:=rfl
theorem n3:St.routerOf (vJ kd ls)=some aF:=by
 show(if 4≤(big 4 aF).length then some (num ((big 4 aF).take 4))else none)=_
 rw[if_pos (by rw[aB];decide),List.take_of_length_le (by rw[aB];decide),cA 4 _ (by decide)]
theorem mG (hc:s.c.card=aL) (hx:s.xid<4294967296) (hn:nx<4294967296):s.leasedP (GX s.xid nx kd ls)=s.leased ⟨true,s.xid,0,aS,nx,aL,vJ kd ls⟩:=by
 unfold St.leasedP
 rw[GS _ _ _ _ hx hn]
 dsimp only
 rw[if_pos ⟨rfl,rfl,rfl,hc.symm⟩]
theorem yZ (hl:s.lease=1):s.leased ⟨true,s.xid,0,aS,nx,aL,vJ 2 ls⟩=({s with addr:=aS,server:=aF}:St).goes 2:=by
 unfold St.leased
 rw[show eF (vJ 2 ls) 53=some [2]from rfl,n54]
 dsimp only
 rw[if_pos rfl,if_pos ⟨hl,by decide⟩]
end
end Go.Proofs.YtcbkaiakdhiloacGreatDoor
namespace Go.Proofs.YtcbkaiakdhiloacGreatDoor
open Go.RowKit Go.Proofs
def sJ (n:Nat):List UInt8:=big 2 4++big 2 n
def I2 (n:Nat) (d:List UInt8):List UInt8:=big 2 3++big 2 n++d
theorem M8 (n:Nat):(bU ⟨4,n,[],[],[]⟩).1=sJ n:=by
 unfold bU Av sJ
 simp[aB]
theorem Nb (n:Nat) (d:List UInt8) (h:d.length≤1024):(bU ⟨3,n,[],d,[]⟩).1=I2 n d:=by
 unfold bU Av I2
 simp only[reduceIte,Nat.reduceEqDiff]
 rw[if_neg (by omega),if_neg (by simp[aB];omega)]
theorem LI (n:Nat) (h:n<65536):aM (sJ n)=(⟨4,n,[],[],[]⟩,0):=yO n h
theorem NJ (n:Nat) (d:List UInt8) (h:n<65536) (hd:d.length≤1024):aM (I2 n d)=(⟨3,n,[],d,[]⟩,0):=vX n d h hd
theorem nK (n:Nat):(sJ n).length=4:=by simp[sJ,aB]
theorem Cv (n:Nat) (d:List UInt8):(I2 n d).length=4+d.length:=by simp[I2,aB];omega
structure Way where
 nx:Nat
 pt:Nat
 pe:Nat
 bl:Nat
 wd:Nat
structure Way.Ok (y:Way):Prop where
 nx:y.nx<4294967296
 pt:y.pt<65536
 pt68:y.pt≠68
 pe:y.pe<65536
 pe67:y.pe≠67
 bl:1≤y.bl
 bl2:y.bl≤1024
 wd:1≤y.wd
 wd2:y.wd≤8
section
variable {c:JG} {y:Way} {k cm:Nat} {img:List UInt8} {s:St}
def Js (y:Way) (i n:Nat):List UInt8:=frU bG aL i 64 aS y.nx y.pt y.pe (sJ n)
def GG (y:Way) (i n:Nat) (d:List UInt8):List UInt8:=frU aL bG i 9 y.nx aS y.pe y.pt (I2 n d)
theorem Ju (hc:s.c.card=aL) (ha:s.address=aS) (hh:s.hop s.source=aF) (hn:∃e,oT s.cache aF=some e∧e.known=true∧e.card=bG) (hx:s.tx.length≠s.c.tx):
 s.tell={s with id:=s.id+1,tx:=s.tx++[frU bG aL (s.id%65536) 64 aS s.source s.port s.goal s.last]}:=by
 obtain⟨e,hf,hk,hca⟩:=hn
 unfold St.tell St.udp
 dsimp only
 rw[hh,hf]
 dsimp only
 rw[if_pos hk]
 unfold St.send St.packet
 rw[if_neg (show ¬s.took.tx.length=s.took.c.tx from hx),ha,hca]
 show({s.took with tx:=s.tx++[(aT bG s.c.card 2048 _).1]}:St)=_
 rw[hc]
 rfl
end
end Go.Proofs.YtcbkaiakdhiloacGreatDoor
namespace Go.Proofs.YtcbkaiakdhiloacGreatDoor
open Go.RowKit Go.Proofs
structure Ho (y:Way) (im:List UInt8) (h:aK):Prop where
 image:h.image=im
 next:h.next=y.nx
 port:h.port=y.pe
 block:h.block=y.bl
 window:h.window=y.wd
def iJ (y:Way) (im:List UInt8) (k:Nat):List UInt8:=sub im (k*y.bl) (min im.length ((k+1)*y.bl))
section
variable {y:Way} {im:List UInt8} {h:aK} {c:JG} {k cm:Nat} {img:List UInt8} {s:St}
theorem qF (y:Way) (im:List UInt8) (k:Nat):(iJ y im k).length=min im.length ((k+1)*y.bl)-k*y.bl:=by
 unfold iJ sub
 rw[List.length_drop,List.length_take];omega
theorem vP (y:Way) (im:List UInt8) (k:Nat):(iJ y im k).length≤y.bl:=by
 rw[qF,Nat.add_mul];omega
theorem Dg (hk:(k+1)*y.bl≤im.length):(iJ y im k).length=y.bl:=by
 rw[qF,Nat.add_mul];rw[Nat.add_mul]at hk;omega
theorem Et (y:Way) (im:List UInt8) (k:Nat):im.take (k*y.bl)++iJ y im k=im.take ((k+1)*y.bl):=by
 unfold iJ sub
 have h1:im.take (min im.length ((k+1)*y.bl))=im.take ((k+1)*y.bl):=by
  rcases Nat.le_total im.length ((k+1)*y.bl)with h|h
  ·rw[Nat.min_eq_left h,List.take_length,List.take_of_length_le h]
  ·rw[Nat.min_eq_right h]
 rw[h1]
 have h2:im.take (k*y.bl)=(im.take ((k+1)*y.bl)).take (k*y.bl):=by rw[List.take_take,Nat.min_eq_left (by rw[Nat.add_mul];omega)]
 rw[h2]
 exact List.take_append_drop _ _
def BlF (y:Way) (im:List UInt8) (k:Nat):List (List UInt8)→Prop
 |[]=>True
 |a::l=>(∃i,i<65536∧a=GG y i ((k+1)%65536) (iJ y im k))∧BlF y im (k+1) l
structure HSm (h h':aK):Prop where
 image:h'.image=h.image
 lease:h'.lease=h.lease
 next:h'.next=h.next
 options:h'.options=h.options
 port:h'.port=h.port
 block:h'.block=h.block
 window:h'.window=h.window
 sent:h'.sent=h.sent
 last:h'.last=h.last
 whn:h'.whn=h.whn
 now:h'.now=h.now
theorem HSm.refl (h:aK):HSm h h:=⟨rfl,rfl,rfl,rfl,rfl,rfl,rfl,rfl,rfl,rfl,rfl⟩
theorem HSm.ho {h':aK} (m:HSm h h') (o:Ho y im h):Ho y im h':=⟨m.image.trans o.image,m.next.trans o.next,m.port.trans o.port,m.block.trans o.block,m.window.trans o.window⟩
theorem rM (hy:y.Ok):∀(a b k:Nat) (h:aK) (out:List (List UInt8)),Ho y im h→(∀j,j<a→(k+j)*y.bl≤im.length)→(b=0∨im.length<(k+a)*y.bl)→
 ∃h' l,aK.blockN y.pt (a+b) k h out=(h',out++l)∧HSm h h'∧l.length=a∧BlF y im k l
 |0,b,k,h,out,o,_,hb=>by
  refine⟨h,[],?_,.refl h,rfl,trivial⟩
  rw[List.append_nil]
  cases b with
  |zero=>rfl
  |succ b=>
   rw[Nat.zero_add]
   unfold aK.blockN
   rw[if_neg (by rw[o.block,o.image];rcases hb with hb|hb;cases hb;rw[Nat.add_zero]at hb;omega)]
 |a+1,b,k,h,out,o,ha,hb=>by
  rw[show a+1+b=(a+b)+1 by omega]
  unfold aK.blockN
  have h0:=ha 0 (by omega)
  rw[if_pos (by rw[o.block,o.image];exact h0)]
  have hp:h.part k=iJ y im k:=by unfold aK.part iJ;rw[o.image,o.block]
  have hpl:(iJ y im k).length≤1024:=Nat.le_trans (vP y im k) hy.bl2
  have e1:h.wrap h.port y.pt (bU ⟨3,(k+1)%65536,[],h.part k,[]⟩).1 h.next aS=({h with id:=(h.id+1)%65536},GG y ((h.id+1)%65536) ((k+1)%65536) (iJ y im k)):=Prod.ext rfl (by
   show frU aL bG ((h.id+1)%65536) 9 h.next aS h.port y.pt (bU ⟨3,(k+1)%65536,[],h.part k,[]⟩).1=_
   rw[hp,Nb _ _ hpl,o.next,o.port]
   rfl)
  rw[e1]
  dsimp only
  obtain⟨h',l,e,m,hl,hB⟩:=rM hy a b (k+1) {h with id:=(h.id+1)%65536} (out++[GG y ((h.id+1)%65536) ((k+1)%65536) (iJ y im k)]) ⟨o.image,o.next,o.port,o.block,o.window⟩ (fun j hj=>by rw[show k+1+j=k+(j+1) by omega];exact ha (j+1) (by omega)) (by rw[show k+1+a=k+(a+1) by omega];exact hb)
  refine⟨h',_::l,e.trans (by rw[List.append_assoc];rfl),⟨m.image,m.lease,m.next,m.options,m.port,m.block,m.window,m.sent,m.last,m.whn,m.now⟩,by rw[List.length_cons,hl],⟨_,Nat.mod_lt _ (by decide),rfl⟩,hB⟩
theorem F8 {i n:Nat} {d:List UInt8} (hy:y.Ok) (hi:i<65536) (hd:d.length≤1024):(GG y i n d).length≤1048576:=by
 obtain⟨_,_,_,_,_,_,h⟩:=gB (d:=aL) (src:=bG) (i:=i) (ttl:=9) (fi:=y.nx) (ti:=aS) (fm:=y.pe) (tp:=y.pt) (ld:=I2 n d) hi (by decide) hy.nx (by decide) hy.pe hy.pt (by rw[Cv];omega)
 exact Nat.le_trans h (by decide)
end
end Go.Proofs.YtcbkaiakdhiloacGreatDoor
namespace Go.Proofs.YtcbkaiakdhiloacGreatDoor
open Go.RowKit Go.Proofs
theorem D1 (w bk s q:Nat) (hq:q≤w) (h1:(s+q)%65536=bk) (h2:∀j,j<q→(s+j)%65536≠bk):∀m,m≤w+1→w+1-m≤q→aK.gotN w bk m s=s+q
 |0,_,h=>by omega
 |m+1,hm,h=>by
  unfold aK.gotN
  by_cases e:w-m=q
  ·rw[e,if_pos h1]
  ·rw[if_neg (h2 _ (by omega))]
   exact D1 w bk s q hq h1 h2 m (by omega) (by omega)
section
variable {y:Way} {im:List UInt8} {h:aK} {c:JG} {k cm:Nat} {img:List UInt8} {s:St}
theorem Cj {i n:Nat} (hy:y.Ok) (hi:i<65536) (hn:n<65536):qC (Js y i n)=true:=by
 unfold Js
 refine AI hi (by decide) (by decide) hy.nx hy.pt hy.pe (by rw[nK];decide) ?_ ?_<;>rw[LI _ hn]<;>exact⟨Int.le_refl 0,(by decide:(0:Int)≤70000)⟩
theorem ackF_len {i n:Nat} (hy:y.Ok) (hi:i<65536):(Js y i n).length≤1048576:=by
 obtain⟨_,_,_,_,_,_,h⟩:=gB (d:=bG) (src:=aL) (i:=i) (ttl:=64) (fi:=aS) (ti:=y.nx) (fm:=y.pt) (tp:=y.pe) (ld:=sJ n) hi (by decide) (by decide) hy.nx hy.pt hy.pe (by rw[nK];decide)
 exact Nat.le_trans h (by decide)
theorem turns_nil {tw F:Nat} {s:St} {h:aK} {g:CQ} (hx:s.tx=[]):bTurns tw (F+1) s h g=some (s,h,g):=by
 unfold bTurns
 rw[hx]
 rfl
end
end Go.Proofs.YtcbkaiakdhiloacGreatDoor
namespace Go.Proofs.YtcbkaiakdhiloacGreatDoor
open Go.RowKit Go.Proofs
def ntK (due:Int) (ak:Int):bD:=⟨aF,bG,true,due,ak,[]⟩
def ntW (due:Int) (ak:Int) (p:List UInt8):bD:=⟨aF,iS,false,due,ak,p⟩
def uA:List UInt8:=(aT lE aL 2054 (gQ 1 aL aS iS aF).1).1
def JH:List UInt8:=(aT aL bG 2054 (gQ 2 bG aF aL aS).1).1
def pkU (i fi ti fm tp:Nat) (ld:List UInt8):List UInt8:=(vC i 64 17 fi ti (jC fm tp fi ti ld).1).1
theorem iX {u:St} {d:Mac} {k:Nat} {l:List UInt8} (hx:u.tx.length≠u.c.tx):u.send d k l={u with tx:=u.tx++[(aT d u.c.card k l).1]}:=by
 unfold St.send
 rw[if_neg hx]
section
variable {s:St} {dst fm port:Nat} {ld:List UInt8}
theorem yV {du ak:Int} (hc:s.c.card=aL) (hh:s.hop dst=aF) (hk:s.cache=[ntK du ak]) (hx:s.tx.length≠s.c.tx):
 s.udp dst fm port ld={s with id:=s.id+1,tx:=s.tx++[frU bG aL (s.id%65536) 64 s.address dst fm port ld]}:=by
 have hf:oT s.cache aF=some (ntK du ak):=by rw[hk];rfl
 unfold St.udp
 dsimp only
 rw[hh,hf]
 dsimp only
 rw[if_pos (show(ntK du ak).known=true from rfl)]
 refine(iX (u:=s.took) hx).trans ?_
 show({s.took with tx:=s.tx++[(aT bG s.c.card 2048 (s.packet dst fm port ld)).1]}:St)=_
 rw[hc]
 rfl
theorem AN (hc:s.c.card=aL) (hh:s.hop dst=aF) (hk:s.cache=[]) (hx:s.tx.length≠s.c.tx) (ha:s.addr=aS):
 s.udp dst fm port ld={s with id:=s.id+1,cache:=[ntW (wrap64 (s.now+2)) 1 (pkU (s.id%65536) s.address dst fm port ld)],tx:=s.tx++[uA]}:=by
 have hf:oT s.cache aF=none:=by rw[hk];rfl
 unfold St.udp
 dsimp only
 rw[hh,hf]
 dsimp only
 unfold St.ask St.arp
 refine(iX (u:={s.took with cache:=enter s.cache ⟨aF,iS,false,wrap64 (s.now+2),1,s.packet dst fm port ld⟩}) hx).trans ?_
 show({s with id:=s.id+1,cache:=enter s.cache ⟨aF,iS,false,wrap64 (s.now+2),1,s.packet dst fm port ld⟩,tx:=s.tx++[(aT lE s.c.card 2054 (gQ 1 s.c.card s.addr iS aF).1).1]}:St)=_
 rw[hc,ha,hk]
 rfl
theorem F4 {du ak:Int} {p:List UInt8} (hc:s.c.card=aL) (hh:s.hop dst=aF) (hk:s.cache=[ntW du ak p]):
 s.udp dst fm port ld={s with id:=s.id+1,cache:=[ntW du ak (pkU (s.id%65536) s.address dst fm port ld)]}:=by
 have hf:oT s.cache aF=some (ntW du ak p):=by rw[hk];rfl
 unfold St.udp
 dsimp only
 rw[hh,hf]
 dsimp only
 rw[if_neg (show ¬(ntW du ak p).known=true from Bool.false_ne_true)]
 show({s with id:=s.id+1,cache:=bY s.cache aF fun e=>{e with waits:=s.packet dst fm port ld}}:St)=_
 rw[hk]
 rfl
theorem Fz {du ak:Int} {p:List UInt8} (hc:s.c.card=aL) (hl:s.lease≠3) (ha:s.address=aS) (hk:s.cache=[ntW du ak p]) (hp:p≠[]) (hx:s.tx.length≠s.c.tx):
 s.frameP JH={s with cache:=[ntK (wrap64 (s.now+60)) 0],tx:=s.tx++[(aT bG aL 2048 p).1]}:=by
 have hw:(gQ 2 bG aF aL aS).1=aZ 2 bG aF aL aS:=rfl
 have hwl:(aZ 2 bG aF aL aS).length≤1500:=by simp[aZ,aB,dO]
 have he:(aT aL bG 2054 (aZ 2 bG aF aL aS)).1=eP aL bG 2054 (aZ 2 bG aF aL aS):=by unfold aT;rw[if_neg (by decide),if_neg (by omega)]
 have hr:aJ JH=(⟨aL,bG,2054,iC (aZ 2 bG aF aL aS)⟩,0):=by
  unfold JH;rw[hw,he];exact fA _ _ _ _ (by decide) (by decide) hwl
 have hr2:bE (iC (aZ 2 bG aF aL aS))=(⟨2,bG,aF,aL,aS⟩,0):=gZ _ _ _ _ _ _ (.inr rfl) (by decide) (by decide)
 unfold St.frameP
 rw[hr]
 dsimp only
 rw[if_neg (by rintro(h|h);exact h rfl;exact h.1 hc.symm),if_pos rfl]
 unfold St.arpP
 rw[hr2]
 dsimp only
 rw[if_pos rfl]
 unfold St.arped
 rw[if_neg (fun h=>hl h.1)]
 have hq:s.asked ⟨2,bG,aF,aL,aS⟩=false:=by
  unfold St.asked
  simp
 dsimp only
 rw[hq,if_neg (by decide),ha,if_pos ⟨by decide,by decide⟩]
 have hf:oT s.cache aF=some (ntW du ak p):=by rw[hk];rfl
 unfold St.learn
 dsimp only
 rw[hf]
 dsimp only
 rw[if_neg (show ¬(ntW du ak p).waits=[]from hp)]
 refine(iX (u:={s with cache:=bY s.cache aF fun _=>ntK (wrap64 (s.now+60)) 0}) hx).trans ?_
 show({s with cache:=bY s.cache aF fun _=>ntK (wrap64 (s.now+60)) 0,tx:=s.tx++[(aT bG s.c.card 2048 p).1]}:St)=_
 rw[hk,hc]
 rfl
end
theorem D9 (h:aK):h.answer uA=(h,[JH],true):=by
 have hw:(gQ 1 aL aS iS aF).1=aZ 1 aL aS iS aF:=rfl
 have hwl:(aZ 1 aL aS iS aF).length≤1500:=by simp[aZ,aB,dO]
 have he:(aT lE aL 2054 (aZ 1 aL aS iS aF)).1=eP lE aL 2054 (aZ 1 aL aS iS aF):=by unfold aT;rw[if_neg (by decide),if_neg (by omega)]
 have hr:aJ uA=(⟨lE,aL,2054,iC (aZ 1 aL aS iS aF)⟩,0):=by
  unfold uA;rw[hw,he];exact fA _ _ _ _ (by decide) (by decide) hwl
 have hr2:bE (iC (aZ 1 aL aS iS aF))=(⟨1,aL,aS,iS,aF⟩,0):=gZ _ _ _ _ _ _ (.inl rfl) (by decide) (by decide)
 have hll:¬uA.length<60:=by
  unfold uA;rw[hw,he]
  unfold eP
  rw[List.length_append,List.length_replicate];omega
 unfold aK.answer
 rw[hr]
 dsimp only
 rw[if_neg (by rintro(h|h|h);exact h rfl;exact h rfl;exact hll h),if_pos rfl,hr2]
 dsimp only
 rw[if_neg (by rintro(h|h|h)<;>exact h rfl)]
 unfold aK.arp
 dsimp only
 rw[if_neg (by decide)]
 rfl
end Go.Proofs.YtcbkaiakdhiloacGreatDoor
namespace Go.Proofs.YtcbkaiakdhiloacGreatDoor
open Go.RowKit Go.Proofs
structure Wa (g:CQ) (s:St):Prop where
 lease:g.was.lease=s.lease
 phase:g.was.phase=s.phase
 bytes:g.was.bytes=s.image.length
 cached:g.was.cached=s.cache.length
def CQ.el (g:CQ) (ls ph by' ca:Nat):Nat:=if g.was.lease=ls∧g.was.phase=ph∧g.was.bytes=by'∧g.was.cached=ca then g.lost else 0
def CQ.els (g:CQ) (s:St):Nat:=g.el s.lease s.phase s.image.length s.cache.length
theorem Wa.els {g:CQ} {s:St} (h:Wa g s):g.els s=g.lost:=if_pos ⟨h.lease,h.phase,h.bytes,h.cached⟩
theorem CQ.els_le (g:CQ) (s:St):g.els s≤g.lost:=by unfold CQ.els CQ.el;split<;>omega
theorem els_of {g:CQ} {s t:St} (a:t.lease=s.lease) (b:t.phase=s.phase) (c:t.image=s.image) (d:t.cache=s.cache):g.els t=g.els s:=by unfold CQ.els;rw[a,b,c,d]
theorem els_new {g:CQ} {s:St} (h:¬(g.was.lease=s.lease∧g.was.phase=s.phase∧g.was.bytes=s.image.length∧g.was.cached=s.cache.length)):g.els s=0:=if_neg h
theorem gone_el (g:CQ) (s:St) (hl:g.lost≤2):∃g' b,g.gone s=(g',b)∧g'.n=g.n+1∧g'.lost≤2∧Wa g' s∧g'.lost=g.els s+(if b=true then 1 else 0):=by
 have key:∃x:CQ,g.seen s.look=x∧x.n=g.n+1∧Wa x s∧x.lost=g.els s∧x.lost≤2:=by
  refine⟨_,rfl,?_⟩
  unfold CQ.seen
  by_cases h:g.news s.look=true
  ·rw[if_pos h]
   refine⟨rfl,⟨rfl,rfl,rfl,rfl⟩,?_,Nat.zero_le _⟩
   refine(els_new fun x=> ?_).symm
   unfold CQ.news at h
   simp only[Bool.or_eq_true,decide_eq_true_eq]at h
   rcases h with((h|h)|h)|h
   ·exact h x.1.symm
   ·exact h x.2.1.symm
   ·exact h x.2.2.1.symm
   ·exact h x.2.2.2.symm
  ·rw[if_neg h]
   unfold CQ.news at h
   simp only[Bool.or_eq_true,decide_eq_true_eq,not_or,Decidable.not_not]at h
   have w:Wa ⟨g.loss,g.n+1,g.lost,g.was⟩ s:=⟨h.1.1.1.symm,h.1.1.2.symm,h.1.2.symm,h.2.symm⟩
   exact⟨rfl,w,(Wa.els (g:=g) ⟨w.lease,w.phase,w.bytes,w.cached⟩).symm,hl⟩
 obtain⟨x,e,h1,h2,h3,h4⟩:=key
 unfold CQ.gone
 dsimp only
 rw[e]
 by_cases hh:x.hit=true
 ·rw[if_pos hh]
  have hlt:x.lost<2:=by
   unfold CQ.hit at hh
   simp only[Bool.and_eq_true,decide_eq_true_eq]at hh
   exact hh.2
  exact⟨_,_,rfl,h1,by show x.lost+1≤2;omega,⟨h2.lease,h2.phase,h2.bytes,h2.cached⟩,by show x.lost+1=_;rw[if_pos rfl];omega⟩
 ·rw[if_neg hh]
  exact⟨_,_,rfl,h1,h4,h2,by rw[if_neg (by decide)];omega⟩
def St.hear1 (s:St) (a:List UInt8):St:=if s.over then s else s.frameP a
def St.hear (s:St) (b:Bool) (a:List UInt8):St:=if b then({({s with rx:=[a]}:St).hear1 a with rx:=[]}:St).hear1 a else s.hear1 a
theorem hear1_rx {s:St} (a:List UInt8):(s.hear1 a).rx=s.rx:=by
 unfold St.hear1;split
 ·rfl
 ·exact wR _ _
theorem hear_rx {s:St} {b:Bool} (a:List UInt8) (h:s.rx=[]):(s.hear b a).rx=[]:=by
 unfold St.hear;split
 ·exact hear1_rx a
 ·rw[hear1_rx,h]
theorem rx_nil {s:St} (h:s.rx=[]):({s with rx:=[]}:St)=s:=by rw[←h]
def St.Cm (s:St):Prop:=(s.phase=1∨s.phase=2)→1≤s.block∧s.next≤s.image.length+1
theorem calm_bt {s:St} {r:List (List UInt8)} (h:s.Cm) (hr:∀a∈r,a.length≤1048576):({s with rx:=r}:St).calm=true:=by
 unfold St.calm
 simp only[Bool.and_eq_true,Bool.or_eq_true,decide_eq_true_eq,List.all_eq_true]
 refine⟨?_,fun a ha=>hr a ha⟩
 by_cases hp:s.phase=1∨s.phase=2
 ·exact .inr (h hp)
 ·exact .inl (by omega)
theorem poll_one (s:St) (a:List UInt8) (k:Nat) (h:s.rx=[]):lM 2 {s with rx:=[a]} k=(s.hear1 a,k+1):=by
 unfold lM
 dsimp only
 rw[rx_nil h]
 show lM 1 (if s.over=true then s else s.frameP a) (k+1)=_
 have e:(if s.over then s else s.frameP a)=s.hear1 a:=rfl
 rw[e]
 unfold lM
 rw[hear1_rx,h]
theorem poll_two (s:St) (a:List UInt8) (k:Nat):lM 2 {s with rx:=[a,a]} k=(({({s with rx:=[a]}:St).hear1 a with rx:=[]}:St).hear1 a,k+1+1):=by
 unfold lM
 dsimp only
 have e:(if({s with rx:=[a,a]}:St).over then({s with rx:=[a]}:St)else({s with rx:=[a]}:St).frameP a)=({s with rx:=[a]}:St).hear1 a:=rfl
 rw[e]
 obtain⟨t,ht⟩:∃t,({s with rx:=[a]}:St).hear1 a=t:=⟨_,rfl⟩
 have hr:t.rx=[a]:=by rw[←ht];exact hear1_rx a
 rw[ht]
 unfold lM
 rw[hr]
 rfl
theorem comes_cons (tw:Nat) (a:List UInt8) (l:List (List UInt8)) (s:St) (g:CQ) (hrx:s.rx=[]) (hc:s.c.rx=16) (ha:a.length≤1048576) (hcm:s.Cm) (hn:g.n<4611686018427387904) (hl:g.lost≤2) {g':CQ} {b:Bool} (e:g.gone s=(g',b)):
 bComes tw (a::l) s g=if b=true then bComes tw l s g' else bComes tw l (s.hear (decide (0<tw∧g'.n%tw=0)) a) g':=by
 have e1:s.put a=({s with rx:=[a]},true):=by
  unfold St.put
  rw[hrx,hc,if_neg (by decide)];rfl
 have e2:(({s with rx:=[a]}:St).put a).1={s with rx:=[a,a]}:=by
  unfold St.put
  rw[if_neg (by show ¬1=s.c.rx;omega)];rfl
 rw[bComes,if_pos ⟨hn,by omega⟩]
 dsimp only
 rw[e]
 dsimp only
 cases b
 ·rw[if_neg (show ¬false=true by decide),if_neg (show ¬false=true by decide),e1]
  dsimp only
  rw[if_pos rfl]
  by_cases h:0<tw∧g'.n%tw=0
  ·rw[if_pos h,e2,if_pos (calm_bt hcm (by intro x hx;simp at hx;rw[hx];exact ha)),poll_two,decide_eq_true h]
   dsimp only
   rw[if_neg (by omega)]
   rfl
  ·rw[if_neg h,if_pos (calm_bt hcm (by intro x hx;simp at hx;rw[hx];exact ha)),poll_one s a 0 hrx,decide_eq_false h]
   dsimp only
   rw[if_neg (by omega)]
   rfl
 ·rw[if_pos rfl,if_pos rfl]
end Go.Proofs.YtcbkaiakdhiloacGreatDoor
namespace Go.Proofs.YtcbkaiakdhiloacGreatDoor
open Go.RowKit Go.Proofs
def hFar:Nat:=3232235529
structure Cxqq (c:JG) (y:Way) (im:List UInt8):Prop where
 ok:y.Ok
 nx:y.nx=aF∨y.nx=hFar
 b8:8≤y.bl
 card:c.card=aL
 rx:c.rx=16
 tx:c.tx=16
 cap:im.length≤c.cap
 sha:sha im=c.digest
 len:im.length<4000
def nbK (y:Way) (im:List UInt8):Nat:=im.length/y.bl+1
section
variable {c:JG} {y:Way} {im:List UInt8} {k q i:Nat} {s t:St} {du:Int}
theorem nbK_lt (X:Cxqq c y im):k<nbK y im↔k*y.bl≤im.length:=by
 unfold nbK
 rw[Nat.lt_succ_iff]
 exact Nat.le_div_iff_mul_le (by have:=X.b8;omega)
theorem nbK_le (X:Cxqq c y im):nbK y im≤500:=by
 unfold nbK
 have h1:im.length/y.bl≤im.length/8:=Nat.div_le_div_left X.b8 (by decide)
 have:=X.len
 omega
structure Lqqq (c:JG) (y:Way) (im:List UInt8) (k:Nat) (s:St):Prop where
 c:s.c=c
 lease:s.lease=4
 addr:s.addr=aS
 mask:s.mask=4294967040
 router:s.router=aF
 src:s.source=y.nx
 untl:s.untl=0
 phase:s.phase=2
 port:s.port=y.pt
 peer:s.peer=y.pe
 block:s.block=y.bl
 wind:s.wind=y.wd
 next:s.next=k+1
 came:∃cm:Nat,s.came=(cm:Int)∧cm<y.wd
 image:s.image=im.take (k*y.bl)
 kn:k<nbK y im
theorem Lqqq.adr (h:Lqqq c y im k s):s.address=aS:=by unfold St.address;rw[if_pos (by rw[h.lease];decide),h.addr]
theorem hop_nx (h1:s.mask=4294967040) (h2:s.router=aF) (h3:s.addr=aS) {d:Nat} (h:d=aF∨d=hFar):s.hop d=aF:=by
 unfold St.hop
 rw[h1,h2,h3]
 rcases h with rfl|rfl<;>decide
theorem Lqqq.hop (h:Lqqq c y im k s) (X:Cxqq c y im):s.hop s.source=aF:=hop_nx h.mask h.router h.addr (by rw[h.src];exact X.nx)
theorem Lqqq.il (h:Lqqq c y im k s) (X:Cxqq c y im):s.image.length=k*y.bl:=by rw[h.image,List.length_take,Nat.min_eq_left ((nbK_lt X).1 h.kn)]
theorem Lqqq.cm (h:Lqqq c y im k s) (X:Cxqq c y im):s.Cm:=fun _=>⟨by rw[h.block];exact X.ok.bl,by rw[h.next,h.il X];have:=Nat.le_mul_of_pos_right k X.ok.bl;omega⟩
theorem Lqqq.ovr (h:Lqqq c y im k s):s.over=false:=by unfold St.over;rw[h.phase];rfl
theorem Lqqq.rxAs (h:Lqqq c y im k s) (r:List (List UInt8)):Lqqq c y im k {s with rx:=r}:=⟨h.c,h.lease,h.addr,h.mask,h.router,h.src,h.untl,h.phase,h.port,h.peer,h.block,h.wind,h.next,h.came,h.image,h.kn⟩
theorem Lqqq.txAs (h:Lqqq c y im k s) (r:List (List UInt8)):Lqqq c y im k {s with tx:=r}:=⟨h.c,h.lease,h.addr,h.mask,h.router,h.src,h.untl,h.phase,h.port,h.peer,h.block,h.wind,h.next,h.came,h.image,h.kn⟩
def ackS (y:Way) (k:Nat) (a b:List (List UInt8)):Prop:=b=a∨∃i,i<65536∧b=a++[Js y i (k%65536)]
structure Gtqq (c:JG) (y:Way) (im:List UInt8) (k:Nat) (s t:St):Prop where
 l:Lqqq c y im k t
 goal:t.goal=y.pe
 last:t.last=sJ (k%65536)
 cache:t.cache=s.cache
 now:t.now=s.now
 draw:t.draw=s.draw
 ts:t.tsends=1
 tg:t.tagain=wrap64 (s.now+s.wait 0)
 tx:ackS y k s.tx t.tx
 txl:t.tx.length≤16
theorem tell_any (hc:s.c.card=aL) (ha:s.address=aS) (hh:s.hop s.source=aF) (hk:s.cache=[ntK du 0]) (hx:s.tx.length≤16) (h16:s.c.tx=16):
 ∃t lo,s.tell={s with id:=s.id+1,lost:=lo,tx:=t}∧(t=s.tx∨t=s.tx++[frU bG aL (s.id%65536) 64 aS s.source s.port s.goal s.last])∧t.length≤16:=by
 by_cases hf:s.tx.length=s.c.tx
 ·have e:s.tell={s with id:=s.id+1,lost:=wrap64 (s.lost+1)}:=by
   have hfi:oT s.cache aF=some (ntK du 0):=by rw[hk];rfl
   unfold St.tell St.udp
   dsimp only
   rw[hh,hfi]
   dsimp only
   rw[if_pos (show(ntK du 0).known=true from rfl)]
   unfold St.send
   rw[if_pos (show s.took.tx.length=s.took.c.tx from hf)]
   rfl
  exact⟨s.tx,_,e,.inl rfl,hx⟩
 ·have e:=Ju hc ha hh ⟨ntK du 0,by rw[hk];rfl,rfl,rfl⟩ hf
  refine⟨_,s.lost,e,.inr rfl,?_⟩
  rw[List.length_append]
  show s.tx.length+1≤16
  omega
theorem got_any (h:Lqqq c y im k s) (X:Cxqq c y im) (hk:s.cache=[ntK du 0]) (hx:s.tx.length≤16) (z:Int):∃t,({s with came:=z}:St).got=t∧Gtqq c y im k s t:=by
 have eu:({({s with came:=z}:St).waits ⟨4,(s.next+65535)%65536,[],[],[]⟩with came:=0}:St)={s with last:=sJ (k%65536),goal:=y.pe,tsends:=1,tagain:=wrap64 (s.now+s.wait 0),came:=0}:=by
  unfold St.waits
  dsimp only
  rw[h.phase,if_neg (by decide),M8,h.next,h.peer,show(k+1+65535)%65536=k%65536 by omega]
  rfl
 have e:({s with came:=z}:St).got=({({s with came:=z}:St).waits ⟨4,(s.next+65535)%65536,[],[],[]⟩with came:=0}:St).tell:=rfl
 rw[e,eu]
 obtain⟨t,lo,e,ht,hl⟩:=tell_any (s:={s with last:=sJ (k%65536),goal:=y.pe,tsends:=1,tagain:=wrap64 (s.now+s.wait 0),came:=0}) (du:=du) (by show s.c.card=_;rw[h.c];exact X.card) h.adr (h.hop X) hk hx (by show s.c.tx=_;rw[h.c];exact X.tx)
 rw[e]
 refine⟨_,rfl,⟨h.c,h.lease,h.addr,h.mask,h.router,h.src,h.untl,h.phase,h.port,h.peer,h.block,h.wind,h.next,⟨0,rfl,X.ok.wd⟩,h.image,h.kn⟩,rfl,rfl,rfl,rfl,rfl,rfl,rfl,?_,hl⟩
 rcases ht with ht|ht
 ·exact .inl ht
 ·refine .inr ⟨s.id%65536,Nat.mod_lt _ (by decide),ht.trans ?_⟩
  show s.tx++[frU bG aL (s.id%65536) 64 aS s.source s.port y.pe (sJ (k%65536))]=_
  rw[h.src,h.port]
  rfl
theorem part_len (X:Cxqq c y im) (q:Nat):(iJ y im q).length≤1024:=Nat.le_trans (vP y im q) X.ok.bl2
theorem Lqqq.dat (h:Lqqq c y im k s) (X:Cxqq c y im) (hi:i<65536):s.frameP (GG y i ((q+1)%65536) (iJ y im q))=s.data ⟨3,(q+1)%65536,[],iJ y im q,[]⟩:=by
 have hdl:=part_len X q
 have hm:(q+1)%65536<65536:=Nat.mod_lt _ (by decide)
 unfold GG
 rw[vO s (by rw[h.c];exact X.card.symm) hi (by decide) X.ok.nx (by decide) X.ok.pe X.ok.pt (by rw[Cv];omega),if_neg X.ok.pt68,if_pos ⟨by unfold St.busy;rw[h.phase];rfl,by rw[h.adr];decide,h.adr.symm,h.src.symm,h.port.symm⟩]
 unfold St.loadsP
 rw[NJ _ _ hm hdl,if_pos rfl]
 unfold St.loads
 rw[if_neg (by intro x;exact x.2 h.peer.symm),if_neg (show ¬(3:Nat)=5 by decide),if_pos h.phase,if_pos rfl]
theorem Lqqq.old (h:Lqqq c y im k s) (X:Cxqq c y im) (hq:q<nbK y im) (hn:q≠k):s.data ⟨3,(q+1)%65536,[],iJ y im q,[]⟩=s.got:=by
 have h1:=vP y im q
 have h2:=h.kn
 have h3:=nbK_le X
 unfold St.data
 dsimp only
 rw[if_neg (by rw[h.block];omega),if_pos (by rw[h.next];omega)]
structure Dnqq (c:JG) (y:Way) (im:List UInt8) (k:Nat) (s t:St):Prop where
 kk:nbK y im=k
 c:t.c=c
 phase:t.phase=3
 image:t.image=im
 now:t.now=s.now
 draw:t.draw=s.draw
 tx:ackS y k s.tx t.tx
 txl:t.tx.length≤16
theorem came_up (h:Lqqq c y im k s) (X:Cxqq c y im):∃cm:Nat,wrap64 (s.came+1)=((cm+1:Nat):Int)∧cm<y.wd:=by
 obtain⟨cm,e,hl⟩:=h.came
 have:=X.ok.wd2
 exact⟨cm,by rw[e,IntWalk.wrap64_in _ ⟨by omega,by omega⟩];omega,hl⟩
theorem Lqqq.new (h:Lqqq c y im k s) (X:Cxqq c y im) (hk:s.cache=[ntK du 0]) (hx:s.tx.length≤16):
 ∃t,s.data ⟨3,(k+1)%65536,[],iJ y im k,[]⟩=t∧(k+1<nbK y im→Gtqq c y im (k+1) s t)∧(¬k+1<nbK y im→Dnqq c y im (k+1) s t):=by
 obtain⟨cm,hcw,hcm⟩:=came_up h X
 have hil:=h.il X
 have hka:=(nbK_lt X).1 h.kn
 have happ:=Et y im k
 have hle:=vP y im k
 have hal:(im.take (k*y.bl)).length+(iJ y im k).length≤im.length:=by rw[←List.length_append,happ,List.length_take];omega
 have hcap:=X.cap
 unfold St.data
 dsimp only
 rw[if_neg (by rw[h.block];omega),if_neg (by rw[h.next];exact fun x=>x rfl),if_neg (by rw[h.c,h.image];omega)]
 have e1:({s with image:=s.image++iJ y im k,next:=s.next+1,came:=wrap64 (s.came+1)}:St)={s with image:=im.take ((k+1)*y.bl),next:=k+1+1,came:=((cm+1:Nat):Int)}:=by rw[hcw,h.image,happ,h.next]
 refine⟨_,rfl,fun hf=> ?_,fun hf=> ?_⟩
 ·have hf':=(nbK_lt X).1 hf
  rw[if_pos (by rw[h.block];exact Dg hf')]
  by_cases hw:cm+1=y.wd
  ·rw[if_pos (by show wrap64 (s.came+1)=(s.wind:Int);rw[hcw,h.wind,hw]),e1]
   obtain⟨t,e,G⟩:=got_any (s:={s with image:=im.take ((k+1)*y.bl),next:=k+1+1}) (du:=du) (k:=k+1) ⟨h.c,h.lease,h.addr,h.mask,h.router,h.src,h.untl,h.phase,h.port,h.peer,h.block,h.wind,rfl,h.came,rfl,hf⟩ X hk hx ((cm+1:Nat):Int)
   rw[e]
   exact⟨G.l,G.goal,G.last,G.cache,G.now,G.draw,G.ts,G.tg,G.tx,G.txl⟩
  ·rw[if_neg (by show ¬wrap64 (s.came+1)=(s.wind:Int);rw[hcw,h.wind];omega),e1]
   unfold St.waits
   dsimp only
   rw[h.phase,if_neg (by decide),M8]
   exact⟨⟨h.c,h.lease,h.addr,h.mask,h.router,h.src,h.untl,rfl,h.port,h.peer,h.block,h.wind,rfl,⟨cm+1,rfl,by omega⟩,rfl,hf⟩,h.peer,rfl,rfl,rfl,rfl,rfl,rfl,.inl rfl,hx⟩
 ·have hf':im.length<(k+1)*y.bl:=Nat.lt_of_not_le fun x=>hf ((nbK_lt X).2 x)
  have hnb:nbK y im=k+1:=by have:=h.kn;omega
  have him:im.take ((k+1)*y.bl)=im:=List.take_of_length_le (Nat.le_of_lt hf')
  have hsl:(iJ y im k).length<y.bl:=by rw[qF,Nat.add_mul];rw[Nat.add_mul]at hf';omega
  rw[if_neg (by rw[h.block];omega),if_pos (by show sha (s.image++iJ y im k)=s.c.digest;rw[h.image,happ,him,h.c];exact X.sha),e1,him]
  have ew:(({s with image:=im,next:=k+1+1,came:=((cm+1:Nat):Int)}:St).waits ⟨4,(k+1+1+65535)%65536,[],[],[]⟩)={s with image:=im,next:=k+1+1,came:=((cm+1:Nat):Int),last:=sJ ((k+1)%65536),goal:=y.pe,tsends:=1,tagain:=wrap64 (s.now+s.wait 0)}:=by
   unfold St.waits
   dsimp only
   rw[h.phase,if_neg (by decide),M8,h.peer,show(k+1+1+65535)%65536=(k+1)%65536 by omega]
   rfl
  have e:({s with image:=im,next:=k+1+1,came:=((cm+1:Nat):Int)}:St).got=({({s with image:=im,next:=k+1+1,came:=((cm+1:Nat):Int)}:St).waits ⟨4,(k+1+1+65535)%65536,[],[],[]⟩with came:=0}:St).tell:=rfl
  rw[e,ew]
  dsimp only
  obtain⟨t,lo,e,ht,hl⟩:=tell_any (s:={s with image:=im,next:=k+1+1,came:=0,last:=sJ ((k+1)%65536),goal:=y.pe,tsends:=1,tagain:=wrap64 (s.now+s.wait 0)}) (du:=du) (by show s.c.card=_;rw[h.c];exact X.card) h.adr (h.hop X) hk hx (by show s.c.tx=_;rw[h.c];exact X.tx)
  rw[e]
  refine⟨hnb,h.c,rfl,rfl,rfl,rfl,?_,hl⟩
  rcases ht with ht|ht
  ·exact .inl ht
  ·refine .inr ⟨s.id%65536,Nat.mod_lt _ (by decide),ht.trans ?_⟩
   show s.tx++[frU bG aL (s.id%65536) 64 aS s.source s.port y.pe (sJ ((k+1)%65536))]=_
   rw[h.src,h.port]
   rfl
def Asc (y:Way):Nat→List (List UInt8)→Nat→Prop
 |lo,[],hi=>lo≤hi
 |lo,f::r,hi=>∃v i,i<65536∧lo≤v∧v≤hi∧f=Js y i (v%65536)∧Asc y v r hi
theorem Asc.le:∀{l:List (List UInt8)} {lo hi:Nat},Asc y lo l hi→lo≤hi
 |[],_,_,h=>h
 |_::_,_,_,⟨_,_,_,h1,h2,_⟩=>Nat.le_trans h1 h2
theorem Asc.up:∀{l:List (List UInt8)} {lo hi hi':Nat},Asc y lo l hi→hi≤hi'→Asc y lo l hi'
 |[],_,_,_,h,e=>Nat.le_trans h e
 |_::_,_,_,_,⟨v,i,h0,h1,h2,h3,h4⟩,e=>⟨v,i,h0,h1,Nat.le_trans h2 e,h3,h4.up e⟩
theorem Asc.snoc:∀{l:List (List UInt8)} {lo hi:Nat},Asc y lo l hi→i<65536→Asc y lo (l++[Js y i (hi%65536)]) hi
 |[],_,hi,h,e=>⟨hi,i,e,h,Nat.le_refl _,rfl,Nat.le_refl _⟩
 |_::_,_,_,⟨v,j,h0,h1,h2,h3,h4⟩,e=>⟨v,j,h0,h1,h2,h3,h4.snoc e⟩
theorem ackS.asc {a b:List (List UInt8)} {lo k':Nat} (h:ackS y k' a b) (ha:Asc y lo a k) (hk:k≤k'):Asc y lo b k':=by
 rcases h with rfl|⟨i,hi,rfl⟩
 ·exact ha.up hk
 ·exact(ha.up hk).snoc hi
def Mmqq (c:JG) (y:Way) (im:List UInt8) (du:Int) (k:Nat) (s:St):Prop:=(Lqqq c y im k s∧s.cache=[ntK du 0]∧s.goal=y.pe∧s.last=sJ (k%65536))∨(k=nbK y im∧s.c=c∧s.phase=3∧s.image=im)
theorem Mmqq.cc {du:Int} (h:Mmqq c y im du k s):s.c=c:=by
 rcases h with⟨h,_⟩|⟨_,h,_⟩
 ·exact h.c
 ·exact h
theorem Mmqq.cm (h:Mmqq c y im du k s) (X:Cxqq c y im):s.Cm:=by
 rcases h with⟨h,_⟩|⟨_,_,h,_⟩
 ·exact h.cm X
 ·intro x;omega
theorem Mmqq.le (h:Mmqq c y im du k s):k≤nbK y im:=by
 rcases h with⟨h,_⟩|⟨h,_⟩
 ·exact Nat.le_of_lt h.kn
 ·omega
theorem Mmqq.rxAs (h:Mmqq c y im du k s) (r:List (List UInt8)):Mmqq c y im du k {s with rx:=r}:=by
 rcases h with⟨h,e⟩|⟨h1,h2,h3,h4⟩
 ·exact .inl ⟨h.rxAs r,e⟩
 ·exact .inr ⟨h1,h2,h3,h4⟩
theorem Mmqq.txAs (h:Mmqq c y im du k s) (r:List (List UInt8)):Mmqq c y im du k {s with tx:=r}:=by
 rcases h with⟨h,e⟩|⟨h1,h2,h3,h4⟩
 ·exact .inl ⟨h.txAs r,e⟩
 ·exact .inr ⟨h1,h2,h3,h4⟩
theorem wait_bd (s:St) (n:Nat) (h0:0≤s.now) (h1:s.now≤1000000) (hn:n≤3):s.now+2*2^n-1≤wrap64 (s.now+s.wait n)∧wrap64 (s.now+s.wait n)≤s.now+2*2^n+1:=by
 have hd:s.draw%3<3:=Nat.mod_lt _ (by decide)
 have hp:2^n≤8:=Nat.pow_le_pow_right (by decide) hn
 have e:s.wait n=(2*(2^n:Nat):Int)+(s.draw%3:Nat)-1:=by unfold St.wait;omega
 rw[e]
 have e2:((2^n:Nat):Int)=(2:Int)^n:=by simp
 rw[←e2]
 generalize 2^n=z at*
 rw[IntWalk.wrap64_in _ ⟨by omega,by omega⟩]
 omega
structure Hr (c:JG) (y:Way) (im:List UInt8) (du:Int) (q k k':Nat) (s t:St):Prop where
 m:Mmqq c y im du k' t
 le:k≤k'
 up:k'≠k→k'=k+1∧q=k
 new:q=k→k<nbK y im→k'=k+1
 asc:∀lo,Asc y lo s.tx k→Asc y lo t.tx k'
 txl:t.tx.length≤16
 now:t.now=s.now
 draw:t.draw=s.draw
 ts:t.phase=3∨(t.tsends=1∧s.now+1≤t.tagain∧t.tagain≤s.now+3)
theorem Gtqq.hr {k':Nat} (g:Gtqq c y im k' s t) (hk:s.cache=[ntK du 0]) (h0:0≤s.now) (h1:s.now≤1000000) (hle:k≤k') (hup:k'≠k→k'=k+1∧q=k) (hnew:q=k→k<nbK y im→k'=k+1):Hr c y im du q k k' s t:=by
 have hw:=wait_bd s 0 h0 h1 (by decide)
 refine⟨.inl ⟨g.l,g.cache.trans hk,g.goal,g.last⟩,hle,hup,hnew,fun lo h=>g.tx.asc h hle,g.txl,g.now,g.draw,.inr ⟨g.ts,?_,?_⟩⟩<;>rw[g.tg]
 ·have:=hw.1;omega
 ·have:=hw.2;omega
theorem Mmqq.hear1 (h:Mmqq c y im du k s) (X:Cxqq c y im) (hx:s.tx.length≤16) (h0:0≤s.now) (h1:s.now≤1000000) (hi:i<65536) (hq:q<nbK y im):∃k',Hr c y im du q k k' s (s.hear1 (GG y i ((q+1)%65536) (iJ y im q))):=by
 rcases h with⟨h,hk,_⟩|⟨hn,hc,hp,him⟩
 ·have e:s.hear1 (GG y i ((q+1)%65536) (iJ y im q))=s.data ⟨3,(q+1)%65536,[],iJ y im q,[]⟩:=by
   unfold St.hear1
   rw[h.ovr,if_neg (by decide)]
   exact h.dat X hi
  rw[e]
  by_cases hqk:q=k
  ·subst hqk
   obtain⟨t,et,g1,g2⟩:=h.new X hk hx
   rw[et]
   by_cases hf:q+1<nbK y im
   ·exact⟨q+1,(g1 hf).hr hk h0 h1 (by omega) (fun _=>⟨rfl,rfl⟩) fun _ _=>rfl⟩
   ·have d:=g2 hf
    exact⟨q+1,.inr ⟨d.kk.symm,d.c,d.phase,d.image⟩,by omega,fun _=>⟨rfl,rfl⟩,fun _ _=>rfl,fun lo h=>d.tx.asc h (by omega),d.txl,d.now,d.draw,.inl d.phase⟩
  ·rw[h.old X hq hqk]
   obtain⟨t,et,g⟩:=got_any h X hk hx s.came
   have et':s.got=t:=et
   rw[et']
   exact⟨k,g.hr hk h0 h1 (Nat.le_refl _) (fun x=>absurd rfl x) fun x=>absurd x hqk⟩
 ·have e:s.hear1 (GG y i ((q+1)%65536) (iJ y im q))=s:=by
   unfold St.hear1
   rw[show s.over=true by unfold St.over;rw[hp];rfl,if_pos rfl]
  rw[e]
  exact⟨k,.inr ⟨hn,hc,hp,him⟩,Nat.le_refl _,fun x=>absurd rfl x,fun _ x=>by omega,fun _ h=>h,hx,rfl,rfl,.inl hp⟩
theorem Mmqq.hear (h:Mmqq c y im du k s) (X:Cxqq c y im) (hx:s.tx.length≤16) (h0:0≤s.now) (h1:s.now≤1000000) (hi:i<65536) (hq:q<nbK y im) (b:Bool):∃k',Hr c y im du q k k' s (s.hear b (GG y i ((q+1)%65536) (iJ y im q))):=by
 unfold St.hear
 cases b
 ·rw[if_neg (by decide)]
  exact h.hear1 X hx h0 h1 hi hq
 ·rw[if_pos rfl]
  obtain⟨k1,r1⟩:=(h.rxAs [GG y i ((q+1)%65536) (iJ y im q)]).hear1 X hx h0 h1 hi hq
  generalize({s with rx:=[GG y i ((q+1)%65536) (iJ y im q)]}:St).hear1 (GG y i ((q+1)%65536) (iJ y im q))=t1 at*
  have n1:t1.now=s.now:=r1.now
  obtain⟨k2,r2⟩:=(r1.m.rxAs []).hear1 X r1.txl (by show 0≤t1.now;omega) (by show t1.now≤_;omega) hi hq
  have n2:=r2.now
  generalize({t1 with rx:=[]}:St).hear1 (GG y i ((q+1)%65536) (iJ y im q))=t2 at*
  have n3:t2.now=s.now:=n2.trans n1
  have a1:=r1.le;have a2:=r2.le
  have b1:=r1.up;have b2:=r2.up
  have c1:=r1.new;have c2:=r2.new
  have l1:=r1.m.le
  have l2:=r2.m.le
  refine⟨k2,r2.m,by omega,fun x=> ?_,fun x y=> ?_,fun lo h=>r2.asc lo (r1.asc lo h),r2.txl,n3,r2.draw.trans r1.draw,?_⟩
  ·by_cases e1:k1=k
   ·subst e1
    exact b2 x
   ·obtain⟨e2,e3⟩:=b1 e1
    by_cases e4:k2=k1
    ·exact⟨by omega,e3⟩
    ·have:=(b2 e4).2;omega
  ·have e1:=c1 x y
   by_cases e4:k2=k1
   ·omega
   ·have:=(b2 e4).2;omega
  ·have:=r2.ts
   rw[show({t1 with rx:=[]}:St).now=s.now from n1]at this
   exact this
end
end Go.Proofs.YtcbkaiakdhiloacGreatDoor
