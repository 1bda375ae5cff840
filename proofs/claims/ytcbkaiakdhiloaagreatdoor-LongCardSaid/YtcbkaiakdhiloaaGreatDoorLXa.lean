/- Parts of the walk; written by programs, merged. -/
import Derived.Test.YtcbkaiakdhiloaaGreatDoorShelf
import Derived.Test.YtcbkaiakdhiloaaGreatDoorSaa
import Derived.Test.YtcbkaiakdhiloaaGreatDoorSab
import Derived.Test.YtcbkaiakdhiloaaGreatDoorSac
import Derived.Test.YtcbkaiakdhiloaaGreatDoorSad
import Derived.Test.YtcbkaiakdhiloaaGreatDoorSae
import Derived.Test.YtcbkaiakdhiloaaGreatDoorSaf
import Derived.Test.YtcbkaiakdhiloaaGreatDoorSag
import Derived.Test.YtcbkaiakdhiloaaGreatDoorSah
import Derived.Test.YtcbkaiakdhiloaaGreatDoorSai
import Derived.Test.YtcbkaiakdhiloaaGreatDoorSaj
import Derived.Test.YtcbkaiakdhiloaaGreatDoorSak
import Derived.Test.YtcbkaiakdhiloaaGreatDoorSal
import Derived.Test.YtcbkaiakdhiloaaGreatDoorSam
import Derived.Test.YtcbkaiakdhiloaaGreatDoorSan
import Derived.Test.YtcbkaiakdhiloaaGreatDoorSao
import Derived.Test.YtcbkaiakdhiloaaGreatDoorSap
import Derived.Test.YtcbkaiakdhiloaaGreatDoorSaq
import Derived.Test.YtcbkaiakdhiloaaGreatDoorSar
import Derived.Test.YtcbkaiakdhiloaaGreatDoorSas
import Derived.Test.YtcbkaiakdhiloaaGreatDoorSat
import Derived.Test.YtcbkaiakdhiloaaGreatDoorSau
import Derived.Test.YtcbkaiakdhiloaaGreatDoorSav
import Derived.Test.YtcbkaiakdhiloaaGreatDoorSaw
import Derived.Test.YtcbkaiakdhiloaaGreatDoorSax
import Derived.Test.YtcbkaiakdhiloaaGreatDoorSay
import Derived.Test.YtcbkaiakdhiloaaGreatDoorSaz
import Derived.Test.YtcbkaiakdhiloaaGreatDoorSba
import Derived.WalkKit
import Derived.WalkLawsBesides
import Derived.WalkSpells
import Derived.Deep.AppendLies
import Derived.Deep.DrawnRows
import Derived.Maps.AppendAt
import Derived.StillTailTactics
import Derived.Lib.Hide
import Derived.Lib.AppendStr
import Derived.Lib.Strings
import Derived.Laws.MakeOwn
import Derived.Laws.OwnMore
import Derived.Laws.BitsAllLaws
set_option linter.unusedSimpArgs false
set_option linter.unusedVariables false
set_option maxRecDepth 20000
set_option maxHeartbeats 8000000
namespace Go.Proofs.YtcbkaiakdhiloaaGreatDoor
open Go.RowKit Go.Proofs
section
variable {S T:Nat→Prop} {w w' w1 w2:World}
end
section
variable {S:Nat→Prop} {w w':World} {g:Nat} {t:TypeId} {cs:Array Value}
end
section
variable {S T:Nat→Prop} {w w':World} {size n:Nat} {A:Option Addr} {xs:List Value}
end
theorem run_make_bytes {P:Program} (t e:TypeId) (i:TypeInfo) (ht:P.underlying t=some (.slice e)) (hi:P.info? e=some i) (hz:i.zero=some (.int .u8 0)) (hs:i.size=1) (hb:i.bytes=1)
 (n:Nat) (hn:n≤1000000000) (w:World):
 (Instr.makeSlice t (.int .i64 (n:Int)) (.int .i64 (n:Int))).run P w= .ok (.slice (some ⟨w.heap.size,0,none⟩) n n) (w.alloc (.cells (List.replicate n (Value.int .u8 0)).toArray e)):=by
 have h:=run_make (P:=P) (w:=w) t e i _ ht hi hz .i64 .i64 (n:Int) (n:Int) (by omega) (by omega) (by rw[hb];omega) (by omega)
 rw[h,Int.toNat_natCast,hs,Nat.mul_one]
 congr 3
 apply Array.ext'
 rw[show(Value.int IntKind.u8 0).cells= #[Value.int IntKind.u8 0]from rfl,toList_madeCells_one]
end Go.Proofs.YtcbkaiakdhiloaaGreatDoor
namespace Go.Proofs.YtcbkaiakdhiloaaGreatDoor
theorem check_laid' (a b:List UInt8) (ha:a.length%2=0) (h:fB (a++[0,0]++b)=0):fB (a++big 2 65535++b)=0:=by
 have h0:lX false (a++[0,0]++b)=lX false a+lX false b:=by
  rw[mU _ _ (by simp;omega),mU _ _ ha];simp[lX]
 rw[B8,h0]at h
 rw[B8,mU _ _ (by simp[aG];omega),mU _ _ ha,En _ (by omega)]
 omega
end Go.Proofs.YtcbkaiakdhiloaaGreatDoor
namespace Go.Proofs.YtcbkaiakdhiloaaGreatDoor
open Go.RowKit Go.Proofs
attribute [local go_sem] aE aC aB
attribute [local simp] ibq ibn eqN ltN leN eqL ltL gtL leL geL
theorem u8info:(Tryz.prog.info? 5).map (fun i=>(i.zero,i.size,i.bytes))=some (some (.int .u8 0),1,1):=by kernel_rfl
theorem u8wrap_ex (x:Int):∃y:UInt8,IntKind.u8.wrap x=(y.toNat:Int):=by
 refine⟨UInt8.ofNat (x%256).toNat,?_⟩
 rw[IntKind.wrap_u8',UInt8.toNat_ofNat']
 omega
theorem u8set {w:World} {g k:Nat} {t:TypeId} {l:List UInt8} {x:Int} (h:Bk w g t ((u8s l).toArray.setIfInBounds k (.int .u8 (IntKind.u8.wrap x)))):∃y,Bk w g t (u8s (l.set k y)).toArray:=by
 obtain⟨y,hy⟩:=u8wrap_ex x
 refine⟨y,?_⟩
 rw[hy]at h
 have e:(u8s l).toArray.setIfInBounds k (.int .u8 (y.toNat:Int))=(u8s (l.set k y)).toArray:=by simp[u8s,List.map_set,u8v]
 rwa [e]at h
theorem keepBytesX (n:Nat) (sd:Int) (w:World) (hn:n≤1000000):
 Calls Tryz.prog 5 #[.int .i64 (n:Int),.int .i64 sd] w fun e w'=>∃l:List UInt8,e= .returned (.string (bs l))∧l.length=n∧Fr noB w w':=by
 obtain⟨inf,hi,hz,hs,hb⟩:=info_parts u8info
 have hmk:=run_make_bytes (P:=Tryz.prog) 63 5 inf Tryz.underlying63 hi hz hs hb n (by omega) w
 clear hi hz hs hb
 refine en Tryz.func5 Tryz.ntmps5 ?_
 refine W ?_
 refine sA ?_
 intro w1 hB f1
 obtain⟨g,hg⟩:∃g,w.heap.size=g:=⟨_,rfl⟩
 have e0:Array.replicate n (Value.int .u8 0)=(u8s (List.replicate n 0)).toArray:=by simp[u8s,u8v]
 rw[hg,e0]at hB
 rw[hg]
 have hgn:∀b,b<w.heap.size→b≠g:=fun b h e=>by omega
 clear hmk e0 hg
 refine W ?_
 refine cL (fun i=>n-i.1) (fun(i:Nat×List UInt8)=>[(1,.int .i64 sd),(5,.slice (some ⟨g,0,none⟩) n n),(10,.int .i64 (n:Int)),(11,.int .i64 (i.1:Int))])
  (fun i w'=>i.1≤n∧i.2.length=n∧Bk w' g 5 (u8s i.2).toArray∧Fr noB w w')
  (0,List.replicate n 0) (mt (p:=True) trivial).1 ⟨Nat.zero_le _,List.length_replicate,hB,f1⟩ ?_
 clear hB f1
 rintro⟨k,l⟩ u w2 ⟨hk,hl,hB,f⟩
 dsimp only at hk hl hB⊢
 by_cases hlt:k<n
 rotate_left
 ·have hcv:=kC (P:=Tryz.prog) w2 63 9 5 Tryz.underlying63 Tryz.underlying5 Tryz.underlying9 noB (some ⟨g,0,none⟩) n n l (SlR.of_bk (S:=noB) (n:=n) (size:=1) hB id (by simp[u8s,hl])) (.inr ⟨_,_,rfl⟩)
  clear hB
  refine W ?_
  exact⟨l,rfl,hl,f⟩
 ·have i1:IntKind.i64.wrap ((k:Int)+1)=((k+1:Nat):Int):=(IntWalk.i64_in _ (by omega)).trans (by omega)
  have hcell:∃z,w2.cell? ⟨g,k,none⟩=some z:=⟨_,by rw[hB.cell k];exact Array.getElem?_eq_getElem (by simp[u8s,hl];exact hlt)⟩
  obtain⟨z,hcell⟩:=hcell
  refine W ?_
  refine sK _ hB ?_
  intro w3 hB f3
  obtain⟨y,hB⟩:=u8set hB
  refine W ?_
  exact⟨(k+1,l.set k y),(mt (p:=True) trivial).1,⟨hlt,by dsimp only;rw[List.length_set];exact hl,hB,f.trans' f3 fun b hb e=>absurd e (hgn b hb)⟩,by dsimp only;omega⟩
end Go.Proofs.YtcbkaiakdhiloaaGreatDoor
namespace Go.Proofs.YtcbkaiakdhiloaaGreatDoor
open Go.RowKit Go.Proofs
theorem readUDP_of (l a1 a2 a3 a4 r:List UInt8) (fi ti:Nat) (e:l=(((a1++a2)++a3)++a4)++r) (l1:a1.length=2) (l2:a2.length=2) (l3:a3.length=2) (l4:a4.length=2):
 aX l fi ti=if num a3<8 then(G8,2)
 else if l.length<num a3 then(G8,1)
 else if num a4≠0∧fB (eW fi ti (num a3)++sub l 0 (num a3))≠0 then(G8,6)
 else(⟨num a1,num a2,r.take (num a3-8)⟩,0):=by
 have h8:¬l.length<8:=by rw[e];simp[l1,l2,l3,l4];omega
 match a1,l1 with
 |[x0,x1],_=>match a2,l2 with
  |[x2,x3],_=>match a3,l3 with
   |[x4,x5],_=>match a4,l4 with
    |[x6,x7],_=>
     unfold aX
     rw[if_neg h8]
     have d1:sub l 0 2=[x0,x1]:=by subst e;rfl
     have d2:sub l 2 4=[x2,x3]:=by subst e;rfl
     have d3:sub l 4 6=[x4,x5]:=by subst e;rfl
     have d4:sub l 6 8=[x6,x7]:=by subst e;rfl
     have d5:sub l 8 (num [x4,x5])=r.take (num [x4,x5]-8):=by
      have hd:l.drop 8=r:=by subst e;rfl
      rw[←hd,sub,List.drop_take]
     rw[d1,d2,d3,d4,d5]
end Go.Proofs.YtcbkaiakdhiloaaGreatDoor
namespace Go.Proofs.YtcbkaiakdhiloaaGreatDoor
theorem udp_zero (fm tp fi ti:Nat) (ld:List UInt8):fB (eW fi ti (8+ld.length)++fJ fm tp ld (nX fm tp fi ti ld))=0:=by
 have he:(eW fi ti (8+ld.length)++Kh fm tp (8+ld.length)).length%2=0:=by simp[eW,Kh,aG]
 have e:∀s,eW fi ti (8+ld.length)++fJ fm tp ld s=(eW fi ti (8+ld.length)++Kh fm tp (8+ld.length))++big 2 s++ld:=by
  intro s;unfold fJ;simp[List.append_assoc]
 rw[e]
 unfold nX
 split
 ·rename_i h
  exact check_laid' _ _ he (by unfold lE at h;exact h)
 ·unfold lE;exact Co _ _ he
theorem readUDP_written (fm tp fi ti:Nat) (ld r:List UInt8) (hfm:fm<65536) (htp:tp<65536) (hl:ld.length≤1480):
 aX (fJ fm tp ld (nX fm tp fi ti ld)++r) fi ti=(⟨fm,tp,ld⟩,0):=by
 have hsl:=EJ fm tp fi ti ld
 have hln:(fJ fm tp ld (nX fm tp fi ti ld)++r).length=8+ld.length+r.length:=by rw[List.length_append,rQ]
 rw[readUDP_of (fJ fm tp ld (nX fm tp fi ti ld)++r) (big 2 fm) (big 2 tp) (big 2 (8+ld.length)) (big 2 (nX fm tp fi ti ld)) (ld++r) fi ti
  (by unfold fJ Kh;simp[List.append_assoc]) (aG _ _) (aG _ _) (aG _ _) (aG _ _),hln,
  nO 2 _ (by omega),nO 2 _ (by omega),nO 2 _ (by omega),nO 2 _ (by omega),DX (rQ _ _ _ _),udp_zero]
 rw[if_neg (by omega),if_neg (by omega),if_neg (by simp),show 8+ld.length-8=ld.length by omega,List.take_left' rfl]
end Go.Proofs.YtcbkaiakdhiloaaGreatDoor
namespace Go.Proofs.YtcbkaiakdhiloaaGreatDoor
theorem sub_mid {l a b c:List UInt8} {i j:Nat} (h:l=a++(b++c)) (ha:a.length=i) (hb:b.length=j-i) (hij:i≤j):sub l i j=b:=by
 subst h ha
 unfold sub
 rw[List.take_append,List.drop_append,List.take_of_length_le (by omega),List.drop_of_length_le (by omega),Nat.sub_self,List.drop_zero,←hb,List.nil_append,List.take_left' rfl]
theorem sub_big2 (n:Nat) (r:List UInt8):sub (big 2 n++r) 0 2=big 2 n:=sub_mid (a:=[]) rfl rfl (aG _ _) (by omega)
theorem readTFTP_data (bk:Nat) (d:List UInt8) (hb:bk<65536) (hd:d.length≤1024):aT (big 2 3++big 2 bk++d)=(⟨3,bk,[],d,[]⟩,0):=by
 have hl:(big 2 3++big 2 bk++d).length=4+d.length:=by simp[aG];omega
 have e0:num (sub (big 2 3++big 2 bk++d) 0 2)=3:=by rw[List.append_assoc,sub_big2,nO 2 _ (by omega)]
 have e2:sub (big 2 3++big 2 bk++d) 2 4=big 2 bk:=sub_mid (a:=big 2 3) (by rw[List.append_assoc]) rfl (aG _ _) (by omega)
 have e4:(big 2 3++big 2 bk++d).drop 4=d:=List.drop_left' (by simp[aG])
 unfold aT
 rw[if_neg (by omega),e0,if_neg (by omega),if_neg (by omega),if_pos rfl,if_neg (by omega),e4,if_neg (by omega),e2,nO 2 _ (by omega)]
theorem readTFTP_ack (bk:Nat) (hb:bk<65536):aT (big 2 4++big 2 bk)=(⟨4,bk,[],[],[]⟩,0):=by
 have hl:(big 2 4++big 2 bk).length=4:=by simp[aG]
 have e0:num (sub (big 2 4++big 2 bk) 0 2)=4:=by rw[sub_big2,nO 2 _ (by omega)]
 have e2:sub (big 2 4++big 2 bk) 2 4=big 2 bk:=sub_mid (a:=big 2 4) (c:=[]) (by simp) rfl (aG _ _) (by omega)
 have e4:(big 2 4++big 2 bk).drop 4=[]:=List.drop_eq_nil_of_le (by omega)
 unfold aT
 rw[if_neg (by omega),e0,if_neg (by omega),if_neg (by omega),if_neg (by omega),if_pos rfl,if_neg (by omega),e4,if_neg (by simp),e2,nO 2 _ (by omega)]
end Go.Proofs.YtcbkaiakdhiloaaGreatDoor
namespace Go.Proofs.YtcbkaiakdhiloaaGreatDoor
open Go.RowKit Go.Proofs
def frU (d src:Mac) (i:Nat) (ttl:UInt8) (fi ti fm tp:Nat) (ld:List UInt8):List UInt8:=(bV d src 2048 (Br i ttl 17 fi ti (mE fm tp fi ti ld).1).1).1
section
variable {d src:Mac} {i:Nat} {ttl:UInt8} {fi ti fm tp:Nat} {ld:List UInt8}
theorem frU_read (hi:i<65536) (ht:ttl.toNat≠0) (hfi:fi<4294967296) (hti:ti<4294967296) (hfm:fm<65536) (htp:tp<65536) (hl:ld.length≤1472):
 ∃b u,aI (frU d src i ttl fi ti fm tp ld)=(⟨d,src,2048,b⟩,0)∧aO b=(⟨i,ttl.toNat,17,fi,ti,u⟩,0)∧aX u fi ti=(⟨fm,tp,ld⟩,0)∧60≤(frU d src i ttl fi ti fm tp ld).length∧(frU d src i ttl fi ti fm tp ld).length≤1514:=by
 have e1:(mE fm tp fi ti ld).1=fJ fm tp ld (nX fm tp fi ti ld):=by unfold mE;rw[if_neg (by omega)]
 have hul:(fJ fm tp ld (nX fm tp fi ti ld)).length≤1480:=by rw[rQ];omega
 have hur:=readUDP_written fm tp fi ti ld [] hfm htp (by omega)
 rw[List.append_nil]at hur
 unfold frU
 rw[e1]
 generalize fJ fm tp ld (nX fm tp fi ti ld)=u at*
 have e2:(Br i ttl 17 fi ti u).1=fK i ttl 17 fi ti u:=by unfold Br;rw[if_neg ht,if_neg (by omega)]
 have hpl:(fK i ttl 17 fi ti u).length≤1500:=by unfold fK;rw[List.length_append,gC];omega
 rw[e2]
 have hir:=rS i ttl 17 fi ti u (List.replicate (60-(14+(fK i ttl 17 fi ti u).length)) 0) hi hfi hti ht hul
 generalize hp:fK i ttl 17 fi ti u=p at*
 have e3:(bV d src 2048 p).1=kF d src 2048 p:=by unfold bV;rw[if_neg (by decide),if_neg (by omega)]
 have hb:=rU d src 2048 p
 refine⟨uQ p,u,?_,?_,hur,?_,?_⟩
 ·rw[e3,iE _ _ _ _ (by decide) (by decide) hpl]
 ·exact hir
 ·rw[e3];unfold kF;rw[List.length_append,List.length_replicate];omega
 ·rw[e3];unfold kF;rw[List.length_append,List.length_replicate,hb];omega
theorem answer_U (h:aN) (hi:i<65536) (ht:ttl.toNat≠0) (hfi:fi<4294967296) (hti:ti<4294967296) (hfm:fm<65536) (htp:tp<65536) (hl:ld.length≤1472):
 h.answer (frU d cH i ttl fi ti fm tp ld)=if tp=67 then h.dhcp ⟨fm,tp,ld⟩else if(aT ld).2≠0∨fi≠rW∨ti≠h.next then(h,[],false)else h.tftp ⟨fm,tp,ld⟩ (aT ld).1:=by
 obtain⟨b,u,e1,e2,e3,e4,e5⟩:=frU_read (d:=d) (src:=cH) hi ht hfi hti hfm htp hl
 unfold aN.answer
 rw[e1]
 dsimp only
 rw[if_neg (by rintro(h|h|h);exact h rfl;exact h rfl;omega),if_neg (by decide),e2]
 dsimp only
 rw[e3,if_neg (by rintro(h|h|h|h)<;>exact h rfl)]
theorem numOk_U (hi:i<65536) (ht:ttl.toNat≠0) (hfi:fi<4294967296) (hti:ti<4294967296) (hfm:fm<65536) (htp:tp<65536) (hl:ld.length≤1472)
 (hb:0≤eC St.bNm (aT ld).1.fs∧eC St.bNm (aT ld).1.fs≤70000) (hw:0≤eC St.wNm (aT ld).1.fs∧eC St.wNm (aT ld).1.fs≤70000):IT (frU d src i ttl fi ti fm tp ld)=true:=by
 obtain⟨b,u,e1,e2,e3,_⟩:=frU_read (d:=d) (src:=src) hi ht hfi hti hfm htp hl
 unfold IT
 rw[e1]
 dsimp only
 rw[e2]
 dsimp only
 rw[e3]
 simp only[Bool.or_eq_true,Bool.and_eq_true,decide_eq_true_eq]
 exact .inr ⟨⟨⟨hb.1,hb.2⟩,hw.1⟩,hw.2⟩
theorem frameP_U (s:St) (hd:d=s.c.card) (hi:i<65536) (ht:ttl.toNat≠0) (hfi:fi<4294967296) (hti:ti<4294967296) (hfm:fm<65536) (htp:tp<65536) (hl:ld.length≤1472):
 s.frameP (frU d src i ttl fi ti fm tp ld)=if tp=68 then s.leasedP ld else if s.busy=true∧s.address≠0∧ti=s.address∧fi=s.source∧tp=s.port then s.loadsP fm ld else s:=by
 obtain⟨b,u,e1,e2,e3,e4,e5⟩:=frU_read (d:=d) (src:=src) hi ht hfi hti hfm htp hl
 unfold St.frameP
 rw[e1]
 dsimp only
 rw[if_neg (by rintro(h|h);exact h rfl;exact h.1 hd),if_neg (by decide),if_pos rfl]
 unfold St.dgramP
 rw[e2]
 dsimp only
 rw[e3,if_neg (by rintro(h|h)<;>exact h rfl),if_neg (by simp)]
 rfl
end
end Go.Proofs.YtcbkaiakdhiloaaGreatDoor
namespace Go.Proofs.YtcbkaiakdhiloaaGreatDoor
open Go.RowKit Go.Proofs
def ackB (n:Nat):List UInt8:=big 2 4++big 2 n
def datB (n:Nat) (d:List UInt8):List UInt8:=big 2 3++big 2 n++d
theorem wrT4 (n:Nat):(cJ ⟨4,n,[],[],[]⟩).1=ackB n:=by
 unfold cJ Cb ackB
 simp[aG]
theorem wrT3 (n:Nat) (d:List UInt8) (h:d.length≤1024):(cJ ⟨3,n,[],d,[]⟩).1=datB n d:=by
 unfold cJ Cb datB
 simp only[reduceIte,Nat.reduceEqDiff]
 rw[if_neg (by omega),if_neg (by simp[aG];omega)]
theorem rdT4 (n:Nat) (h:n<65536):aT (ackB n)=(⟨4,n,[],[],[]⟩,0):=readTFTP_ack n h
theorem rdT3 (n:Nat) (d:List UInt8) (h:n<65536) (hd:d.length≤1024):aT (datB n d)=(⟨3,n,[],d,[]⟩,0):=readTFTP_data n d h hd
theorem ackB_len (n:Nat):(ackB n).length=4:=by simp[ackB,aG]
theorem datB_len (n:Nat) (d:List UInt8):(datB n d).length=4+d.length:=by simp[datB,aG];omega
structure Way where
 nx:Nat
 pt:Nat
 pe:Nat
 bl:Nat
 wd:Nat
structure Way.Ok (y:Way):Prop where
 nx:y.nx<4294967296
 pt:y.pt<65536
 pt68:y.pt≠68
 pe:y.pe<65536
 pe67:y.pe≠67
 bl:1≤y.bl
 bl2:y.bl≤1024
 wd:1≤y.wd
 wd2:y.wd≤8
structure Loqq (c:IZ) (y:Way) (k cm:Nat) (img:List UInt8) (s:St):Prop where
 c:s.c=c
 rx:s.rx=[]
 lease:4≤s.lease
 addr:s.addr=rW
 hop:s.hop s.source=iS
 src:s.source=y.nx
 phase:s.phase=2
 port:s.port=y.pt
 peer:s.peer=y.pe
 block:s.block=y.bl
 wind:s.wind=y.wd
 next:s.next=k+1
 came:s.came=(cm:Int)
 image:s.image=img
 near:∃e,rI s.cache iS=some e∧e.known=true∧e.card=DD
structure Sm (s t:St):Prop where
 now:t.now=s.now
 draw:t.draw=s.draw
section
variable {c:IZ} {y:Way} {k cm:Nat} {img:List UInt8} {s:St}
def ackF (y:Way) (i n:Nat):List UInt8:=frU DD cH i 64 rW y.nx y.pt y.pe (ackB n)
def datF (y:Way) (i n:Nat) (d:List UInt8):List UInt8:=frU cH DD i 9 y.nx rW y.pe y.pt (datB n d)
theorem Loqq.adr (h:Loqq c y k cm img s):s.address=rW:=by unfold St.address;rw[if_pos h.lease,h.addr]
theorem tell_to (hc:s.c.card=cH) (ha:s.address=rW) (hh:s.hop s.source=iS) (hn:∃e,rI s.cache iS=some e∧e.known=true∧e.card=DD) (hx:s.tx.length≠s.c.tx):
 s.tell={s with id:=s.id+1,tx:=s.tx++[frU DD cH (s.id%65536) 64 rW s.source s.port s.goal s.last]}:=by
 obtain⟨e,hf,hk,hca⟩:=hn
 unfold St.tell St.udp
 dsimp only
 rw[hh,hf]
 dsimp only
 rw[if_pos hk]
 unfold St.send St.packet
 rw[if_neg (show ¬s.took.tx.length=s.took.c.tx from hx),ha,hca]
 show({s.took with tx:=s.tx++[(bV DD s.c.card 2048 _).1]}:St)=_
 rw[hc]
 rfl
theorem got_to (u:St) (hc:u.c.card=cH) (ha:u.address=rW) (hh:u.hop u.source=iS) (hn:∃e,rI u.cache iS=some e∧e.known=true∧e.card=DD) (hx:u.tx.length≠u.c.tx) (hp:u.phase=2):
 u.got={u with last:=ackB ((u.next+65535)%65536),goal:=u.peer,tsends:=1,tagain:=wrap64 (u.now+u.wait 0),came:=0,id:=u.id+1,tx:=u.tx++[frU DD cH (u.id%65536) 64 rW u.source u.port u.peer (ackB ((u.next+65535)%65536))]}:=by
 have h:=tell_to (s:={u.waits ⟨4,(u.next+65535)%65536,[],[],[]⟩with came:=0}) hc ha hh hn hx
 have e:u.got=({u.waits ⟨4,(u.next+65535)%65536,[],[],[]⟩with came:=0}:St).tell:=rfl
 rw[e,h]
 unfold St.waits
 rw[hp,if_neg (by decide),wrT4]
theorem Loqq.more (h:Loqq c y k cm img s) (d:List UInt8) (hy:y.Ok) (hd:d.length=y.bl) (hcap:img.length+y.bl≤c.cap) (hw:cm+1<y.wd) (i:Nat) (hi:i<65536) (hcc:c.card=cH):
 ∃t,s.frameP (datF y i ((k+1)%65536) d)=t∧Loqq c y (k+1) (cm+1) (img++d) t∧t.tx=s.tx∧Sm s t∧t.id=s.id:=by
 have hdl:d.length≤1024:=by have:=hy.bl2;omega
 have hm:(k+1)%65536<65536:=Nat.mod_lt _ (by decide)
 refine⟨_,rfl,?_⟩
 unfold datF
 rw[frameP_U s (by rw[h.c];exact hcc.symm) hi (by decide) hy.nx (by decide) hy.pe hy.pt (by rw[datB_len];omega),if_neg hy.pt68,if_pos ⟨by unfold St.busy;rw[h.phase];rfl,by rw[h.adr];decide,h.adr.symm,h.src.symm,h.port.symm⟩]
 unfold St.loadsP
 rw[rdT3 _ d hm hdl,if_pos rfl]
 unfold St.loads
 rw[if_neg (by intro x;exact x.2 h.peer.symm),if_neg (show ¬(3:Nat)=5 by decide),if_pos h.phase,if_pos rfl]
 unfold St.data
 dsimp only
 rw[if_neg (by rw[h.block];omega),if_neg (by rw[h.next];exact fun x=>x rfl),if_neg (by rw[h.c,h.image];omega),if_pos (by rw[h.block];exact hd)]
 have hcw:wrap64 (s.came+1)=((cm+1:Nat):Int):=by rw[h.came,IntWalk.wrap64_in _ ⟨by omega,by have:=hy.wd2;omega⟩];omega
 rw[if_neg (by rw[hcw,h.wind];omega)]
 exact⟨⟨h.c,h.rx,h.lease,h.addr,h.hop,h.src,h.phase,h.port,h.peer,h.block,h.wind,by show s.next+1=_;rw[h.next],hcw,by show s.image++d=_;rw[h.image],h.near⟩,rfl,⟨rfl,rfl⟩,rfl⟩
theorem Loqq.full (h:Loqq c y k cm img s) (d:List UInt8) (hy:y.Ok) (hd:d.length=y.bl) (hcap:img.length+y.bl≤c.cap) (hw:cm+1=y.wd) (i:Nat) (hi:i<65536) (hcc:c.card=cH) (hx:s.tx.length≠c.tx):
 ∃t,s.frameP (datF y i ((k+1)%65536) d)=t∧Loqq c y (k+1) 0 (img++d) t∧t.tx=s.tx++[ackF y (s.id%65536) ((k+1)%65536)]∧Sm s t∧t.id=s.id+1:=by
 have hdl:d.length≤1024:=by have:=hy.bl2;omega
 have hm:(k+1)%65536<65536:=Nat.mod_lt _ (by decide)
 refine⟨_,rfl,?_⟩
 unfold datF
 rw[frameP_U s (by rw[h.c];exact hcc.symm) hi (by decide) hy.nx (by decide) hy.pe hy.pt (by rw[datB_len];omega),if_neg hy.pt68,if_pos ⟨by unfold St.busy;rw[h.phase];rfl,by rw[h.adr];decide,h.adr.symm,h.src.symm,h.port.symm⟩]
 unfold St.loadsP
 rw[rdT3 _ d hm hdl,if_pos rfl]
 unfold St.loads
 rw[if_neg (by intro x;exact x.2 h.peer.symm),if_neg (show ¬(3:Nat)=5 by decide),if_pos h.phase,if_pos rfl]
 unfold St.data
 dsimp only
 rw[if_neg (by rw[h.block];omega),if_neg (by rw[h.next];exact fun x=>x rfl),if_neg (by rw[h.c,h.image];omega),if_pos (by rw[h.block];exact hd)]
 have hcw:wrap64 (s.came+1)=((cm+1:Nat):Int):=by rw[h.came,IntWalk.wrap64_in _ ⟨by omega,by have:=hy.wd2;omega⟩];omega
 rw[if_pos (by rw[hcw,h.wind];omega)]
 rw[got_to {s with image:=s.image++d,next:=s.next+1,came:=wrap64 (s.came+1)} (by show s.c.card=_;rw[h.c];exact hcc) h.adr h.hop h.near (by show s.tx.length≠s.c.tx;rw[h.c];exact hx) h.phase]
 refine⟨⟨h.c,h.rx,h.lease,h.addr,h.hop,h.src,h.phase,h.port,h.peer,h.block,h.wind,by show s.next+1=_;rw[h.next],rfl,by show s.image++d=_;rw[h.image],h.near⟩,?_,⟨rfl,rfl⟩,rfl⟩
 show s.tx++[frU DD cH (s.id%65536) 64 rW s.source s.port s.peer (ackB ((s.next+1+65535)%65536))]=_
 rw[h.src,h.port,h.peer,h.next,show(k+1+1+65535)%65536=(k+1)%65536 by omega]
 rfl
theorem Loqq.last (h:Loqq c y k cm img s) (d:List UInt8) (hy:y.Ok) (hd:d.length<y.bl) (hcap:img.length+d.length≤c.cap) (i:Nat) (hi:i<65536) (hcc:c.card=cH) (hx:s.tx.length≠c.tx) (hs:sha (img++d)=c.digest):
 ∃t,s.frameP (datF y i ((k+1)%65536) d)=t∧t.phase=3∧t.image=img++d∧t.tx=s.tx++[ackF y (s.id%65536) ((k+1)%65536)]∧t.rx=[]∧t.c=c∧Sm s t:=by
 have hdl:d.length≤1024:=by have:=hy.bl2;omega
 have hm:(k+1)%65536<65536:=Nat.mod_lt _ (by decide)
 refine⟨_,rfl,?_⟩
 unfold datF
 rw[frameP_U s (by rw[h.c];exact hcc.symm) hi (by decide) hy.nx (by decide) hy.pe hy.pt (by rw[datB_len];omega),if_neg hy.pt68,if_pos ⟨by unfold St.busy;rw[h.phase];rfl,by rw[h.adr];decide,h.adr.symm,h.src.symm,h.port.symm⟩]
 unfold St.loadsP
 rw[rdT3 _ d hm hdl,if_pos rfl]
 unfold St.loads
 rw[if_neg (by intro x;exact x.2 h.peer.symm),if_neg (show ¬(3:Nat)=5 by decide),if_pos h.phase,if_pos rfl]
 unfold St.data
 dsimp only
 rw[if_neg (by rw[h.block];omega),if_neg (by rw[h.next];exact fun x=>x rfl),if_neg (by rw[h.c,h.image];omega),if_neg (by rw[h.block];omega),if_pos (by rw[h.image,h.c];exact hs)]
 rw[got_to {s with image:=s.image++d,next:=s.next+1,came:=wrap64 (s.came+1)} (by show s.c.card=_;rw[h.c];exact hcc) h.adr h.hop h.near (by show s.tx.length≠s.c.tx;rw[h.c];exact hx) h.phase]
 refine⟨rfl,by show s.image++d=_;rw[h.image],?_,h.rx,h.c,⟨rfl,rfl⟩⟩
 show s.tx++[frU DD cH (s.id%65536) 64 rW s.source s.port s.peer (ackB ((s.next+1+65535)%65536))]=_
 rw[h.src,h.port,h.peer,h.next,show(k+1+1+65535)%65536=(k+1)%65536 by omega]
 rfl
end
end Go.Proofs.YtcbkaiakdhiloaaGreatDoor
namespace Go.Proofs.YtcbkaiakdhiloaaGreatDoor
open Go.RowKit Go.Proofs
structure Ho (y:Way) (im:List UInt8) (h:aN):Prop where
 image:h.image=im
 next:h.next=y.nx
 port:h.port=y.pe
 block:h.block=y.bl
 window:h.window=y.wd
def partB (y:Way) (im:List UInt8) (k:Nat):List UInt8:=sub im (k*y.bl) (min im.length ((k+1)*y.bl))
section
variable {y:Way} {im:List UInt8} {h:aN} {c:IZ} {k cm:Nat} {img:List UInt8} {s:St}
theorem partB_len (y:Way) (im:List UInt8) (k:Nat):(partB y im k).length=min im.length ((k+1)*y.bl)-k*y.bl:=by
 unfold partB sub
 rw[List.length_drop,List.length_take];omega
theorem partB_le (y:Way) (im:List UInt8) (k:Nat):(partB y im k).length≤y.bl:=by
 rw[partB_len,Nat.add_mul];omega
theorem partB_full (hk:(k+1)*y.bl≤im.length):(partB y im k).length=y.bl:=by
 rw[partB_len,Nat.add_mul];rw[Nat.add_mul]at hk;omega
theorem partB_app (y:Way) (im:List UInt8) (k:Nat):im.take (k*y.bl)++partB y im k=im.take ((k+1)*y.bl):=by
 unfold partB sub
 have h1:im.take (min im.length ((k+1)*y.bl))=im.take ((k+1)*y.bl):=by
  rcases Nat.le_total im.length ((k+1)*y.bl)with h|h
  ·rw[Nat.min_eq_left h,List.take_length,List.take_of_length_le h]
  ·rw[Nat.min_eq_right h]
 rw[h1]
 have h2:im.take (k*y.bl)=(im.take ((k+1)*y.bl)).take (k*y.bl):=by rw[List.take_take,Nat.min_eq_left (by rw[Nat.add_mul];omega)]
 rw[h2]
 exact List.take_append_drop _ _
def BlF (y:Way) (im:List UInt8) (k:Nat):List (List UInt8)→Prop
 |[]=>True
 |a::l=>(∃i,i<65536∧a=datF y i ((k+1)%65536) (partB y im k))∧BlF y im (k+1) l
structure HSm (h h':aN):Prop where
 image:h'.image=h.image
 lease:h'.lease=h.lease
 next:h'.next=h.next
 options:h'.options=h.options
 port:h'.port=h.port
 block:h'.block=h.block
 window:h'.window=h.window
 sent:h'.sent=h.sent
 last:h'.last=h.last
 whn:h'.whn=h.whn
 now:h'.now=h.now
theorem HSm.refl (h:aN):HSm h h:=⟨rfl,rfl,rfl,rfl,rfl,rfl,rfl,rfl,rfl,rfl,rfl⟩
theorem HSm.ho {h':aN} (m:HSm h h') (o:Ho y im h):Ho y im h':=⟨m.image.trans o.image,m.next.trans o.next,m.port.trans o.port,m.block.trans o.block,m.window.trans o.window⟩
theorem blockN_spec (hy:y.Ok):∀(a b k:Nat) (h:aN) (out:List (List UInt8)),Ho y im h→(∀j,j<a→(k+j)*y.bl≤im.length)→(b=0∨im.length<(k+a)*y.bl)→
 ∃h' l,aN.blockN y.pt (a+b) k h out=(h',out++l)∧HSm h h'∧l.length=a∧BlF y im k l
 |0,b,k,h,out,o,_,hb=>by
  refine⟨h,[],?_,.refl h,rfl,trivial⟩
  rw[List.append_nil]
  cases b with
  |zero=>rfl
  |succ b=>
   rw[Nat.zero_add]
   unfold aN.blockN
   rw[if_neg (by rw[o.block,o.image];rcases hb with hb|hb;cases hb;rw[Nat.add_zero]at hb;omega)]
 |a+1,b,k,h,out,o,ha,hb=>by
  rw[show a+1+b=(a+b)+1 by omega]
  unfold aN.blockN
  have h0:=ha 0 (by omega)
  rw[if_pos (by rw[o.block,o.image];exact h0)]
  have hp:h.part k=partB y im k:=by unfold aN.part partB;rw[o.image,o.block]
  have hpl:(partB y im k).length≤1024:=Nat.le_trans (partB_le y im k) hy.bl2
  have e1:h.wrap h.port y.pt (cJ ⟨3,(k+1)%65536,[],h.part k,[]⟩).1 h.next rW=({h with id:=(h.id+1)%65536},datF y ((h.id+1)%65536) ((k+1)%65536) (partB y im k)):=Prod.ext rfl (by
   show frU cH DD ((h.id+1)%65536) 9 h.next rW h.port y.pt (cJ ⟨3,(k+1)%65536,[],h.part k,[]⟩).1=_
   rw[hp,wrT3 _ _ hpl,o.next,o.port]
   rfl)
  rw[e1]
  dsimp only
  obtain⟨h',l,e,m,hl,hB⟩:=blockN_spec hy a b (k+1) {h with id:=(h.id+1)%65536} (out++[datF y ((h.id+1)%65536) ((k+1)%65536) (partB y im k)]) ⟨o.image,o.next,o.port,o.block,o.window⟩ (fun j hj=>by rw[show k+1+j=k+(j+1) by omega];exact ha (j+1) (by omega)) (by rw[show k+1+a=k+(a+1) by omega];exact hb)
  refine⟨h',_::l,e.trans (by rw[List.append_assoc];rfl),⟨m.image,m.lease,m.next,m.options,m.port,m.block,m.window,m.sent,m.last,m.whn,m.now⟩,by rw[List.length_cons,hl],⟨_,Nat.mod_lt _ (by decide),rfl⟩,hB⟩
structure Calm (N:Nat) (g:cD):Prop where
 loss:g.loss=[]
 n:g.n≤N
 lost:g.lost=0
theorem Calm.gone {N:Nat} {g:cD} (h:Calm N g) (s:St):(g.gone s).2=false∧Calm (N+1) (g.gone s).1:=by
 unfold cD.gone
 dsimp only
 have e:(g.seen s.look).hit=false:=by
  unfold cD.hit
  have:(g.seen s.look).loss=[]:=by unfold cD.seen;split<;>exact h.loss
  rw[this];rfl
 rw[e,if_neg (by decide)]
 refine⟨rfl,?_⟩
 unfold cD.seen
 have:=h.n
 split
 ·exact⟨h.loss,by show g.n+1≤_;omega,rfl⟩
 ·exact⟨h.loss,by show g.n+1≤_;omega,h.lost⟩
theorem comes_one {N:Nat} {g:cD} (hg:Calm N g) (hN:N<4611686018427387904) (hrx:s.rx=[]) (hc:s.c.rx≠0) (ho:s.over=false) (a:List UInt8) (ha:a.length≤1048576) (hcm:(s.phase=1∨s.phase=2)→1≤s.block∧s.next≤s.image.length+1) (l:List (List UInt8)):
 tM 0 (a::l) s g=tM 0 l (s.frameP a) (g.gone s).1:=by
 have h1:=hg.gone s
 have e1:(s.put a)=({s with rx:=[a]},true):=by
  unfold St.put
  rw[hrx,if_neg (by show ¬0=s.c.rx;omega)];rfl
 have e2:({s with rx:=[a]}:St).calm=true:=by
  unfold St.calm
  simp only[Bool.and_eq_true,Bool.or_eq_true,decide_eq_true_eq,List.all_cons,List.all_nil,Bool.and_true]
  refine⟨?_,ha⟩
  by_cases hp:s.phase=1∨s.phase=2
  ·exact .inr (hcm hp)
  ·exact .inl (by omega)
 have e4:({s with rx:=[]}:St)=s:=by rw[←hrx]
 have e3:pU 2 {s with rx:=[a]} 0=(s.frameP a,1):=by
  have ho2:({s with rx:=[a]}:St).over=false:=ho
  unfold pU
  dsimp only
  rw[ho2,if_neg (by decide),e4]
  unfold pU
  rw[lT,hrx]
 rw[tM,if_pos ⟨Nat.lt_of_le_of_lt hg.n hN,by rw[hg.lost];decide⟩]
 dsimp only
 rw[h1.1,if_neg (by decide),e1]
 dsimp only
 rw[if_pos rfl]
 simp only[Nat.lt_irrefl,false_and,reduceIte]
 rw[if_pos e2,e3]
 dsimp only
 rw[if_neg (by decide)]
theorem Loqq.calm (h:Loqq c y k cm img s) (hy:y.Ok) (hk:k≤img.length):(s.phase=1∨s.phase=2)→1≤s.block∧s.next≤s.image.length+1:=fun _=>⟨by rw[h.block];exact hy.bl,by rw[h.next,h.image];omega⟩
theorem Loqq.ovr (h:Loqq c y k cm img s):s.over=false:=by unfold St.over;rw[h.phase];rfl
theorem datF_len {i n:Nat} {d:List UInt8} (hy:y.Ok) (hi:i<65536) (hd:d.length≤1024):(datF y i n d).length≤1048576:=by
 obtain⟨_,_,_,_,_,_,h⟩:=frU_read (d:=cH) (src:=DD) (i:=i) (ttl:=9) (fi:=y.nx) (ti:=rW) (fm:=y.pe) (tp:=y.pt) (ld:=datB n d) hi (by decide) hy.nx (by decide) hy.pe hy.pt (by rw[datB_len];omega)
 exact Nat.le_trans h (by decide)
theorem comes_full (hy:y.Ok) (hcc:c.card=cH) (hcap:im.length≤c.cap) (hrx:c.rx≠0) (htx:c.tx≠0) (m:Nat):∀(k cm N:Nat) (l:List (List UInt8)) (s:St) (g:cD),l.length=m→0<m→BlF y im k l→cm+m=y.wd→(k+m)*y.bl≤im.length→Loqq c y k cm (im.take (k*y.bl)) s→s.tx=[]→Calm N g→N+m<4611686018427387904→
 ∃s' g' i,tM 0 l s g=some (s',g')∧Loqq c y (k+m) 0 (im.take ((k+m)*y.bl)) s'∧s'.tx=[ackF y i ((k+m)%65536)]∧i<65536∧Calm (N+m) g'∧Sm s s':=by
 induction m with
 |zero=>intro _ _ _ _ _ _ _ h0;exact absurd h0 (Nat.lt_irrefl _)
 |succ m comes_full=>
  intro k cm N l s g hl _ hB hw hf h hx hg hN
  obtain⟨a,l,rfl⟩:∃a r,l=a::r:=by cases l with|nil=>cases hl|cons a r=>exact⟨a,r,rfl⟩
  obtain⟨⟨i,hi,rfl⟩,hB⟩:=hB
  have hk1:(k+1)*y.bl≤im.length:=Nat.le_trans (Nat.mul_le_mul_right _ (by omega)) hf
  have hkl:k≤(im.take (k*y.bl)).length:=by
   rw[List.length_take]
   have h1:=Nat.le_mul_of_pos_right k hy.bl
   have h2:k*y.bl≤(k+1)*y.bl:=Nat.mul_le_mul_right _ (by omega)
   omega
  have hp:=partB_full hk1
  have hcp:(im.take (k*y.bl)).length+y.bl≤c.cap:=by
   rw[List.length_take];rw[Nat.add_mul]at hk1;omega
  have e:=comes_one hg (by omega) h.rx (by rw[h.c];exact hrx) h.ovr (datF y i ((k+1)%65536) (partB y im k)) (datF_len hy hi (Nat.le_trans (partB_le y im k) hy.bl2)) (h.calm hy hkl) l
  rw[e]
  have hg1:=(hg.gone s).2
  by_cases hm:m=0
  ·subst hm
   obtain⟨t,et,hL,ht,hs,hid⟩:=h.full (partB y im k) hy hp hcp (by omega) i hi hcc (by rw[hx];exact fun x=>htx x.symm)
   rw[et]
   rw[partB_app]at hL
   obtain rfl:=List.eq_nil_of_length_eq_zero (show l.length=0 by simpa using hl)
   exact⟨t,_,s.id%65536,rfl,hL,by rw[ht,hx];rfl,Nat.mod_lt _ (by decide),hg1,hs⟩
  ·obtain⟨t,et,hL,ht,hs,_⟩:=h.more (partB y im k) hy hp hcp (by omega) i hi hcc
   rw[et]
   rw[partB_app]at hL
   obtain⟨s',g',i',e2,hL2,ht2,hi2,hg2,hs2⟩:=comes_full (k+1) (cm+1) (N+1) l t _ (by simpa using hl) (by omega) hB (by omega) (by rw[show k+1+m=k+(m+1) by omega];exact hf) hL (ht.trans hx) hg1 (by omega)
   rw[show k+1+m=k+(m+1) by omega]at hL2 ht2
   exact⟨s',g',i',e2,hL2,ht2,hi2,by rw[show N+(m+1)=N+1+m by omega];exact hg2,⟨hs2.now.trans hs.now,hs2.draw.trans hs.draw⟩⟩
theorem comes_last (hy:y.Ok) (hcc:c.card=cH) (hcap:im.length≤c.cap) (hrx:c.rx≠0) (htx:c.tx≠0) (hsh:sha im=c.digest) (m:Nat):∀(k cm N:Nat) (l:List (List UInt8)) (s:St) (g:cD),l.length=m+1→BlF y im k l→cm+m<y.wd→(k+m)*y.bl≤im.length→im.length<(k+m+1)*y.bl→Loqq c y k cm (im.take (k*y.bl)) s→s.tx=[]→Calm N g→N+m+1<4611686018427387904→
 ∃s' g' i,tM 0 l s g=some (s',g')∧s'.phase=3∧s'.image=im∧s'.tx=[ackF y i ((k+m+1)%65536)]∧i<65536∧Calm (N+m+1) g'∧s'.rx=[]∧s'.c=c:=by
 induction m with
 |zero=>
  intro k cm N l s g hl hB hw hf hlt h hx hg hN
  obtain⟨a,l,rfl⟩:∃a r,l=a::r:=by cases l with|nil=>cases hl|cons a r=>exact⟨a,r,rfl⟩
  obtain⟨⟨i,hi,rfl⟩,hB⟩:=hB
  rw[Nat.add_zero]at hf hlt
  have hkl:k≤(im.take (k*y.bl)).length:=by
   rw[List.length_take]
   have h1:=Nat.le_mul_of_pos_right k hy.bl
   omega
  have hp:(partB y im k).length<y.bl:=by rw[partB_len,Nat.add_mul];rw[Nat.add_mul]at hlt;omega
  have hpa:=partB_app y im k
  rw[List.take_of_length_le (Nat.le_of_lt hlt)]at hpa
  have hpl:(im.take (k*y.bl)).length+(partB y im k).length≤c.cap:=by rw[←List.length_append,hpa];exact hcap
  have e:=comes_one hg (by omega) h.rx (by rw[h.c];exact hrx) h.ovr (datF y i ((k+1)%65536) (partB y im k)) (datF_len hy hi (Nat.le_trans (partB_le y im k) hy.bl2)) (h.calm hy hkl) l
  rw[e]
  obtain⟨t,et,h3,hi3,ht,htr,htc,hs⟩:=h.last (partB y im k) hy hp hpl i hi hcc (by rw[hx];exact fun x=>htx x.symm) (by rw[hpa];exact hsh)
  rw[et]
  obtain rfl:=List.eq_nil_of_length_eq_zero (show l.length=0 by simpa using hl)
  exact⟨t,_,s.id%65536,rfl,h3,hi3.trans hpa,by rw[ht,hx];rfl,Nat.mod_lt _ (by decide),(hg.gone s).2,htr,htc⟩
 |succ m comes_last=>
  intro k cm N l s g hl hB hw hf hlt h hx hg hN
  obtain⟨a,l,rfl⟩:∃a r,l=a::r:=by cases l with|nil=>cases hl|cons a r=>exact⟨a,r,rfl⟩
  obtain⟨⟨i,hi,rfl⟩,hB⟩:=hB
  have hk1:(k+1)*y.bl≤im.length:=Nat.le_trans (Nat.mul_le_mul_right _ (by omega)) hf
  have hkl:k≤(im.take (k*y.bl)).length:=by
   rw[List.length_take]
   have h1:=Nat.le_mul_of_pos_right k hy.bl
   have h2:k*y.bl≤(k+1)*y.bl:=Nat.mul_le_mul_right _ (by omega)
   omega
  have hp:=partB_full hk1
  have hcp:(im.take (k*y.bl)).length+y.bl≤c.cap:=by
   rw[List.length_take];rw[Nat.add_mul]at hk1;omega
  have e:=comes_one hg (by omega) h.rx (by rw[h.c];exact hrx) h.ovr (datF y i ((k+1)%65536) (partB y im k)) (datF_len hy hi (Nat.le_trans (partB_le y im k) hy.bl2)) (h.calm hy hkl) l
  rw[e]
  have hg1:=(hg.gone s).2
  obtain⟨t,et,hL,ht,hs,_⟩:=h.more (partB y im k) hy hp hcp (by omega) i hi hcc
  rw[et]
  rw[partB_app]at hL
  obtain⟨s',g',i',e2,h3,hi3,ht2,hi2,hg2,hr2⟩:=comes_last (k+1) (cm+1) (N+1) l t _ (by simpa using hl) hB (by omega) (by rw[show k+1+m=k+(m+1) by omega];exact hf) (by rw[show k+1+m+1=k+(m+1)+1 by omega];exact hlt) hL (ht.trans hx) hg1 (by omega)
  exact⟨s',g',i',e2,h3,hi3,by rw[ht2,show k+1+m+1=k+(m+1)+1 by omega],hi2,by rw[show N+(m+1)+1=N+1+m+1 by omega];exact hg2,hr2⟩
end
end Go.Proofs.YtcbkaiakdhiloaaGreatDoor
namespace Go.Proofs.YtcbkaiakdhiloaaGreatDoor
open Go.RowKit Go.Proofs
theorem gotN_at (w bk s q:Nat) (hq:q≤w) (h1:(s+q)%65536=bk) (h2:∀j,j<q→(s+j)%65536≠bk):∀m,m≤w+1→w+1-m≤q→aN.gotN w bk m s=s+q
 |0,_,h=>by omega
 |m+1,hm,h=>by
  unfold aN.gotN
  by_cases e:w-m=q
  ·rw[e,if_pos h1]
  ·rw[if_neg (h2 _ (by omega))]
   exact gotN_at w bk s q hq h1 h2 m (by omega) (by omega)
structure Sy (k:Nat) (y:Way) (h:aN):Prop where
 le:h.sent≤k
 near:k≤h.sent+y.wd
 new:¬(h.last=((k%65536:Nat):Int)∧h.whn=h.now)
section
variable {y:Way} {im:List UInt8} {h:aN} {c:IZ} {k cm:Nat} {img:List UInt8} {s:St}
theorem ackF_num {i n:Nat} (hy:y.Ok) (hi:i<65536) (hn:n<65536):IT (ackF y i n)=true:=by
 unfold ackF
 refine numOk_U hi (by decide) (by decide) hy.nx hy.pt hy.pe (by rw[ackB_len];decide) ?_ ?_<;>rw[rdT4 _ hn]<;>exact⟨Int.le_refl 0,(by decide:(0:Int)≤70000)⟩
theorem ackF_len {i n:Nat} (hy:y.Ok) (hi:i<65536):(ackF y i n).length≤1048576:=by
 obtain⟨_,_,_,_,_,_,h⟩:=frU_read (d:=DD) (src:=cH) (i:=i) (ttl:=64) (fi:=rW) (ti:=y.nx) (fm:=y.pt) (tp:=y.pe) (ld:=ackB n) hi (by decide) (by decide) hy.nx hy.pt hy.pe (by rw[ackB_len];decide)
 exact Nat.le_trans h (by decide)
theorem Ho.hears (o:Ho y im h) (hy:y.Ok) (hs:Sy k y h) {i:Nat} (hi:i<65536) (a b:Nat) (hab:a+b=y.wd) (ha:∀j,j<a→(k+j)*y.bl≤im.length) (hb:b=0∨im.length<(k+a)*y.bl):
 ∃h' l,h.answer (ackF y i (k%65536))=(h',l,true)∧Ho y im h'∧h'.sent=k∧h'.last=((k%65536:Nat):Int)∧h'.now=h.now∧l.length=a∧BlF y im k l:=by
 have hm:k%65536<65536:=Nat.mod_lt _ (by decide)
 have hw2:=hy.wd2
 unfold ackF
 rw[answer_U h hi (by decide) (by decide) hy.nx hy.pt hy.pe (by rw[ackB_len];decide),if_neg hy.pe67,rdT4 _ hm,if_neg (by rintro(x|x|x);exact x rfl;exact x rfl;exact x o.next.symm)]
 unfold aN.tftp
 rw[if_neg (show ¬(4:Nat)=1 by decide),if_pos rfl]
 unfold aN.acked
 rw[if_neg (by rintro(x|x);exact x o.port.symm;exact hs.new x)]
 dsimp only
 obtain⟨q,hq⟩:∃q,k=h.sent+q:=⟨k-h.sent,by have:=hs.le;omega⟩
 have hqw:q≤y.wd:=by have:=hs.near;omega
 have hg:aN.gotN h.window (k%65536) (h.window+1) h.sent=k:=by
  rw[o.window]
  rw[gotN_at y.wd (k%65536) h.sent q hqw (by rw[hq]) (fun j hj=>by omega) (y.wd+1) (Nat.le_refl _) (by omega),hq]
 rw[hg]
 unfold aN.blocks
 dsimp only
 obtain⟨h',l,e,m,hl,hB⟩:=blockN_spec hy a b k {h with last:=((k%65536:Nat):Int),whn:=h.now,sent:=k} [] ⟨o.image,o.next,o.port,o.block,o.window⟩ ha hb
 rw[hab,←o.window]at e
 rw[e]
 exact⟨h',l,rfl,m.ho ⟨o.image,o.next,o.port,o.block,o.window⟩,m.sent,m.last,m.now,hl,hB⟩
theorem turn_one {N F:Nat} {g:cD} {i:Nat} (hy:y.Ok) (hi:i<65536) (hg:Calm N g) (hN:N<4611686018427387904) (hx:s.tx=[ackF y i (k%65536)]) (o:Ho y im h) (hsn:h.sent+y.wd≤2097152) {h':aN} {l:List (List UInt8)} (ha:h.answer (ackF y i (k%65536))=(h',l,true)) (hl:l.length≤1048576) {s':St} {g':cD}
 (hb:tM 0 l {s with tx:=[]} (g.gone {s with tx:=[]}).1=some (s',g')):oB 0 (F+1) s h g=oB 0 F s' h' g':=by
 have hm:k%65536<65536:=Nat.mod_lt _ (by decide)
 rw[oB,if_pos (by rw[hx];exact Nat.le_of_ble_eq_true rfl),hx]
 dsimp only
 rw[Ar,if_pos ⟨ackF_len hy hi,by rw[o.window];exact hsn,ackF_num hy hi hm,Nat.lt_of_le_of_lt hg.n hN,by rw[hg.lost];decide⟩]
 dsimp only
 rw[ha,if_pos ⟨rfl,hl⟩,(hg.gone {s with tx:=[]}).1,if_neg (by decide),hb]
 rfl
theorem Loqq.txAs (h:Loqq c y k cm img s) (t:List (List UInt8)):Loqq c y k cm img {s with tx:=t}:=⟨h.c,h.rx,h.lease,h.addr,h.hop,h.src,h.phase,h.port,h.peer,h.block,h.wind,h.next,h.came,h.image,h.near⟩
theorem turns_nil {tw F:Nat} {s:St} {h:aN} {g:cD} (hx:s.tx=[]):oB tw (F+1) s h g=some (s,h,g):=by
 unfold oB
 rw[hx]
 rfl
theorem turns_windows (hy:y.Ok) (hcc:c.card=cH) (hcap:im.length≤c.cap) (hrx:c.rx≠0) (htx:c.tx≠0) (W:Nat):∀(k N F:Nat) (s:St) (h:aN) (g:cD) (i:Nat),(k+W*y.wd)*y.bl≤im.length→k+W*y.wd≤2000000→N+W*9<4000000000000000000→i<65536→Loqq c y k 0 (im.take (k*y.bl)) s→s.tx=[ackF y i (k%65536)]→Ho y im h→Sy k y h→Calm N g→
 ∃s' h' g' i',oB 0 (F+W) s h g=oB 0 F s' h' g'∧i'<65536∧Loqq c y (k+W*y.wd) 0 (im.take ((k+W*y.wd)*y.bl)) s'∧s'.tx=[ackF y i' ((k+W*y.wd)%65536)]∧Ho y im h'∧Sy (k+W*y.wd) y h'∧Calm (N+W*9) g':=by
 induction W with
 |zero=>
  intro k N F s h g i _ _ _ hi hL hx o hs hg
  refine⟨s,h,g,i,rfl,hi,?_⟩
  rw[Nat.zero_mul,Nat.add_zero]
  exact⟨hL,hx,o,hs,hg⟩
 |succ W ih=>
  intro k N F s h g i hf hk hN hi hL hx o hs hg
  have hw:=hy.wd
  have hw2:=hy.wd2
  rw[show(W+1)*y.wd=W*y.wd+y.wd by rw[Nat.add_mul,Nat.one_mul]]at hf hk
  have hf1:(k+y.wd)*y.bl≤im.length:=Nat.le_trans (Nat.mul_le_mul_right _ (by omega)) hf
  obtain⟨h',l,ha,o',hs1,hs2,hs3,hl,hB⟩:=o.hears hy hs hi y.wd 0 (Nat.add_zero _) (fun j hj=>Nat.le_trans (Nat.mul_le_mul_right _ (by omega)) hf1) (.inl rfl)
  have hg1:=(hg.gone {s with tx:=[]}).2
  obtain⟨s',g',i',e,hL',hx',hi',hg',_⟩:=comes_full hy hcc hcap hrx htx y.wd k 0 (N+1) l {s with tx:=[]} _ hl hw hB (by omega) hf1 (hL.txAs []) rfl hg1 (by omega)
  have ht:=turn_one (F:=F+W) hy hi hg (by omega) hx o (by have:=hs.le;omega) ha (by rw[hl];omega) e
  have hs':Sy (k+y.wd) y h':=⟨by omega,by omega,fun x=>by
   rw[hs2]at x
   have:=x.1
   omega⟩
  have hg2:Calm (N+9) g':=⟨hg'.loss,by have:=hg'.n;omega,hg'.lost⟩
  obtain⟨s2,h2,g2,i2,e2,r⟩:=ih (k+y.wd) (N+9) F s' h' g' i' (by rw[show k+y.wd+W*y.wd=k+(W*y.wd+y.wd) by omega];exact hf) (by omega) (by omega) hi' hL' hx' o' hs' hg2
  refine⟨s2,h2,g2,i2,?_,?_⟩
  ·rw[show F+(W+1)=F+W+1 by omega,ht,e2]
  ·rw[show(W+1)*y.wd=y.wd+W*y.wd by rw[Nat.add_mul];omega,←Nat.add_assoc,show N+(W+1)*9=N+9+W*9 by omega]
   exact r
theorem turns_end (hy:y.Ok) (hcc:c.card=cH) (hcap:im.length≤c.cap) (hrx:c.rx≠0) (htx:c.tx≠0) (hsh:sha im=c.digest) {k r N F:Nat} {s:St} {h:aN} {g:cD} {i:Nat} (hr:r<y.wd) (hf:(k+r)*y.bl≤im.length) (hlt:im.length<(k+r+1)*y.bl) (hk:k≤2000000) (hN:N<4000000000000000000) (hi:i<65536) (hL:Loqq c y k 0 (im.take (k*y.bl)) s) (hx:s.tx=[ackF y i (k%65536)]) (o:Ho y im h) (hs:Sy k y h) (hg:Calm N g):
 ∃s' h' g',oB 0 (F+3) s h g=some (s',h',g')∧s'.phase=3∧s'.image=im:=by
 have hw:=hy.wd
 have hw2:=hy.wd2
 obtain⟨h',l,ha,o',hs1,hs2,hs3,hl,hB⟩:=o.hears hy hs hi (r+1) (y.wd-(r+1)) (by omega) (fun j hj=>Nat.le_trans (Nat.mul_le_mul_right _ (by omega)) hf) (.inr (by rw[show k+(r+1)=k+r+1 by omega];exact hlt))
 have hg1:=(hg.gone {s with tx:=[]}).2
 obtain⟨s',g',i',e,h3,him,hx',hi',hg',hr',hc'⟩:=comes_last hy hcc hcap hrx htx hsh r k 0 (N+1) l {s with tx:=[]} _ hl hB (by omega) hf hlt (hL.txAs []) rfl hg1 (by omega)
 have ht:=turn_one (F:=F+2) hy hi hg (by omega) hx o (by have:=hs.le;omega) ha (by rw[hl];omega) e
 have hs':Sy (k+r+1) y h':=⟨by omega,by omega,fun x=>by
  rw[hs2]at x
  have:=x.1
  omega⟩
 obtain⟨h2,l2,ha2,o2,_,_,_,hl2,_⟩:=o'.hears hy hs' hi' 0 y.wd (Nat.zero_add _) (fun j hj=>absurd hj (Nat.not_lt_zero _)) (.inr hlt)
 obtain rfl:=List.eq_nil_of_length_eq_zero hl2
 have ht2:=turn_one (F:=F+1) (s:=s') (k:=k+r+1) (s':={s' with tx:=[]}) (g':=(g'.gone {s' with tx:=[]}).1) hy hi' hg' (by omega) hx' o' (by omega) ha2 (by decide) rfl
 refine⟨{s' with tx:=[]},h2,(g'.gone {s' with tx:=[]}).1,?_,h3,him⟩
 rw[show F+3=F+2+1 by omega,ht,show F+2=F+1+1 by omega,ht2]
 exact turns_nil rfl
theorem turns_load (hy:y.Ok) (hcc:c.card=cH) (hcap:im.length≤c.cap) (hcap2:c.cap≤600000) (hrx:c.rx≠0) (htx:c.tx≠0) (hsh:sha im=c.digest) {N:Nat} {s:St} {h:aN} {g:cD} {i:Nat} (hN:N<3000000000000000000) (hi:i<65536) (hL:Loqq c y 0 0 [] s) (hx:s.tx=[ackF y i 0]) (o:Ho y im h) (hs:Sy 0 y h) (hg:Calm N g):
 ∃K s' h' g',oB 0 K s h g=some (s',h',g')∧s'.phase=3∧s'.image=im:=by
 have hbl:=hy.bl
 have hwd:=hy.wd
 have hw2:=hy.wd2
 obtain⟨q,hq⟩:∃q,im.length/y.bl=q:=⟨_,rfl⟩
 obtain⟨W,hW⟩:∃W,q/y.wd=W:=⟨_,rfl⟩
 obtain⟨r,hr⟩:∃r,q%y.wd=r:=⟨_,rfl⟩
 have h1:q*y.bl≤im.length:=hq▸Nat.div_mul_le_self _ _
 have h2:im.length<(q+1)*y.bl:=by
  have:=Nat.lt_div_mul_add (a:=im.length) hbl
  rw[hq]at this;rw[Nat.add_mul];omega
 have h3:W*y.wd+r=q:=by
  have:=Nat.div_add_mod q y.wd
  rw[hW,hr,Nat.mul_comm]at this;exact this
 have h4:r<y.wd:=hr▸Nat.mod_lt _ hwd
 have h5:q≤im.length:=hq▸Nat.div_le_self _ _
 have h6:W≤q:=hW▸Nat.div_le_self _ _
 obtain⟨s1,h1',g1,i1,e1,hi1,hL1,hx1,o1,hs1,hg1⟩:=turns_windows hy hcc hcap hrx htx W 0 N 3 s h g i (Nat.le_trans (Nat.mul_le_mul_right _ (by omega)) h1) (by omega) (by omega) hi (by rw[Nat.zero_mul,List.take_zero];exact hL) hx o hs hg
 rw[Nat.zero_add]at hL1 hx1 hs1
 obtain⟨s2,h2',g2,e2,p,q2⟩:=turns_end (F:=0) hy hcc hcap hrx htx hsh (k:=W*y.wd) (r:=r) h4 (by rw[h3];exact h1) (by rw[h3];exact h2) (by omega) (by omega) hi1 hL1 hx1 o1 hs1 hg1
 exact⟨3+W,s2,h2',g2,e1.trans e2,p,q2⟩
end
end Go.Proofs.YtcbkaiakdhiloaaGreatDoor
namespace Go.Proofs.YtcbkaiakdhiloaaGreatDoor
open Go.RowKit Go.Proofs
def aV.eqB (a b:aV):Bool:=decide (a.ip=b.ip)&&decide (a.card=b.card)&&decide (a.known=b.known)&&decide (a.due=b.due)&&decide (a.asked=b.asked)&&decide (a.waits=b.waits)
theorem aV.eqB_eq {a b:aV} (h:a.eqB b=true):a=b:=by
 cases a;cases b
 simp only[aV.eqB,Bool.and_eq_true,decide_eq_true_eq]at h
 simp[h]
instance:DecidableEq aV:=fun a b=>decidable_of_iff (a.eqB b=true) ⟨aV.eqB_eq,fun h=>by subst h;simp[aV.eqB]⟩
def St.eqN (s t:St):Bool:=decide (s.rx=t.rx)&&decide (s.tx=t.tx)&&decide (s.now=t.now)&&decide (s.draw=t.draw)&&decide (s.boots=t.boots)&&decide (s.lost=t.lost)&&decide (s.id=t.id)&&decide (s.cache=t.cache)&&decide (s.lease=t.lease)&&decide (s.xid=t.xid)&&decide (s.addr=t.addr)&&decide (s.mask=t.mask)&&decide (s.router=t.router)&&decide (s.server=t.server)&&decide (s.source=t.source)&&decide (s.t1=t.t1)&&decide (s.t2=t.t2)&&decide (s.untl=t.untl)&&decide (s.lagain=t.lagain)&&decide (s.lsends=t.lsends)&&decide (s.phase=t.phase)&&decide (s.port=t.port)&&decide (s.peer=t.peer)&&decide (s.block=t.block)&&decide (s.wind=t.wind)&&decide (s.next=t.next)&&decide (s.came=t.came)&&decide (s.tagain=t.tagain)&&decide (s.tsends=t.tsends)&&decide (s.goal=t.goal)&&decide (s.last=t.last)&&decide (s.image=t.image)
theorem St.eq_of {s t:St} (h:s.eqN t=true) (hc:s.c=t.c):s=t:=by
 cases s;cases t
 simp only[St.eqN,Bool.and_eq_true,decide_eq_true_eq]at h
 obtain rfl:=hc
 simp_all
def nmK:List UInt8:=[107,101,114,110,101,108]
def lgC (dg:List UInt8):IZ:=⟨cH,nmK,600000,dg,8,8,16,16⟩
def lgY:Way:=⟨iS,1038,1,8,8⟩
def lgL (dg:List UInt8):St:=⟨lgC dg,[],[],0,0,0,0,0,[],0,0,0,0,0,0,0,0,0,0,0,0,0,0,0,0,0,0,0,0,0,0,[],[]⟩
def lgS (dg:List UInt8) (now:Int) (draw:Nat):St:=⟨lgC dg,[],[],now,draw,0,0,2,[],3,0,rW,4294967040,iS,iS,iS,0,0,0,3,1,0,0,0,0,0,0,0,0,0,0,[],[]⟩
def rrqB:List UInt8:=(cJ ⟨1,0,nmK,[],[⟨St.bNm,dec 8⟩,⟨St.wNm,dec 8⟩,⟨St.tNm,[48]⟩]⟩).1
def rrqF:List UInt8:=frU DD cH 2 64 rW iS 1038 69 rrqB
def oackF (n:Nat):List UInt8:=frU cH DD 3 9 iS rW 1 1038 (cJ ⟨6,0,[],[],[⟨St.tNm,dec n⟩,⟨St.bNm,dec 8⟩,⟨St.wNm,dec 8⟩]⟩).1
def lgA (dg:List UInt8) (tx:List (List UInt8)):St:=⟨lgC dg,[],tx,3,14,0,0,3,[⟨iS,DD,true,63,0,[]⟩],4,0,rW,4294967040,iS,iS,iS,0,0,0,3,1,1,1038,0,512,1,1,0,6,1,69,rrqB,[]⟩
def lgB (dg:List UInt8):St:=⟨lgC dg,[],[ackF lgY 3 0],3,14,0,0,4,[⟨iS,DD,true,63,0,[]⟩],4,0,rW,4294967040,iS,iS,iS,0,0,0,3,1,2,1038,1,8,8,1,0,6,1,1,ackB 0,[]⟩
def lgH (im:List UInt8) (now:Int) (id:Nat):aN:=⟨im,4294967295,iS,true,0,0,0,0,0,0,now,id⟩
def lgG (n:Nat) (l:FH):cD:=⟨[],n,0,l⟩
def lkS:FH:=⟨1,3,0,0,0,0,0,0⟩
def lkA:FH:=⟨3,4,1,rW,0,0,0,1⟩
set_option maxRecDepth 100000
theorem long0 (dg im:List UInt8):oB 0 6 ((lgL dg).tick 0) (lgH im 1 0) (lgG 0 (lgL dg).look)=some (lgS dg 1 0,lgH im 1 2,lgG 5 lkS):=by kernel_rfl
theorem long1 (dg im:List UInt8):oB 0 1 ((lgS dg 1 0).tick 7) (lgH im 2 2) (lgG 5 lkS)=some (lgS dg 2 7,lgH im 2 2,lgG 5 lkS):=by kernel_rfl
def arpQ:List UInt8:=(bV IJ cH 2054 (iV 1 cH rW rF iS).1).1
def rrqP:List UInt8:=(Br 2 64 17 rW iS (mE 1038 69 rW iS rrqB).1).1
def lgT (dg:List UInt8) (tx:List (List UInt8)):St:=⟨lgC dg,[],tx,3,14,0,0,3,[⟨iS,rF,false,5,1,rrqP⟩],4,0,rW,4294967040,iS,iS,iS,0,0,0,3,1,1,1038,0,512,1,1,0,6,1,69,rrqB,[]⟩
theorem long2 (dg:List UInt8):(lgS dg 2 7).tick 14=lgT dg [arpQ]:=St.eq_of (by kernel_rfl) (by kernel_rfl)
def arpR:List UInt8:=(bV cH DD 2054 (iV 2 DD iS cH rW).1).1
theorem long2a (im:List UInt8):(lgH im 3 2).answer arpQ=(lgH im 3 2,[arpR],true):=by kernel_rfl
theorem long2b (dg:List UInt8):(lgG 5 lkS).gone (lgT dg [])=(lgG 6 lkA,false):=by kernel_rfl
theorem long2c (dg:List UInt8):(lgG 6 lkA).gone (lgT dg [])=(lgG 7 lkA,false):=by kernel_rfl
theorem long2d (dg:List UInt8):(lgT dg []).frameP arpR=lgA dg [rrqF]:=St.eq_of (by kernel_rfl) (by kernel_rfl)
theorem long3 (dg im:List UInt8):(lgH im 3 2).answer rrqF=(⟨im,4294967295,iS,true,1,8,8,0,-1,0,3,3⟩,[oackF im.length],true):=by kernel_rfl
theorem long5 (dg:List UInt8):(lgG 7 lkA).gone (lgA dg [])=(lgG 8 lkA,false):=by kernel_rfl
theorem long6 (dg:List UInt8):(lgG 8 lkA).gone (lgA dg [])=(lgG 9 lkA,false):=by kernel_rfl
theorem long4 (dg:List UInt8):(lgA dg []).frameP (oackF 524323)=lgB dg:=St.eq_of (by kernel_rfl) (by kernel_rfl)
end Go.Proofs.YtcbkaiakdhiloaaGreatDoor
namespace Go.Proofs.YtcbkaiakdhiloaaGreatDoor
open Go.RowKit Go.Proofs
set_option maxRecDepth 100000
theorem turns_fuel {tw:Nat} {r:St×aN×cD} (F:Nat):∀(K:Nat) (s:St) (h:aN) (g:cD),oB tw K s h g=some r→oB tw (K+F) s h g=some r
 |0,_,_,_,e=>by cases e
 |K+1,s,h,g,e=>by
  rw[show K+1+F=K+F+1 by omega]
  unfold oB at e⊢
  split at e
  rotate_left
  ·cases e
  next hl=>
  rw[if_pos hl]
  split at e
  ·exact e
  next f q hx=>
  split at e
  ·cases e
  next s' h' g' hb=>exact turns_fuel F K s' h' g' e
theorem turn_goes {tw F:Nat} {s s':St} {h h':aN} {g g':cD} (hl:Nat.ble s.tx.length 16=true) (hne:s.tx.isEmpty=false) (hb:Ar tw s.tx {s with tx:=[]} h g=some (s',h',g')):oB tw (F+1) s h g=oB tw F s' h' g':=by
 have hl':=Nat.le_of_ble_eq_true hl
 rw[oB,if_pos hl']
 cases hx:s.tx with
 |nil=>rw[hx]at hne;cases hne
 |cons f r=>
  rw[hx]at hb
  dsimp only
  rw[hb]
theorem goes_gen {N:Nat} {f:List UInt8} {s s':St} {h h':aN} {g g':cD} {l:List (List UInt8)} (hf:Nat.ble f.length 1048576=true) (hsn:Nat.ble (h.sent+h.window) 2097152=true) (hnum:IT f=true) (hg:Calm N g) (hN:N<4611686018427387904) (ha:h.answer f=(h',l,true)) (hl:l.length≤1048576) (hb:tM 0 l s (g.gone s).1=some (s',g')):Ar 0 [f] s h g=some (s',h',g'):=by
 rw[Ar,if_pos ⟨Nat.le_of_ble_eq_true hf,Nat.le_of_ble_eq_true hsn,hnum,Nat.lt_of_le_of_lt hg.n hN,by rw[hg.lost];decide⟩]
 dsimp only
 rw[ha,if_pos ⟨rfl,hl⟩,(hg.gone s).1,if_neg (by decide),hb]
 rfl
theorem lgY_ok:lgY.Ok:=⟨by decide,by decide,by decide,by decide,by decide,by decide,by decide,by decide,by decide⟩
theorem lgB_lo (dg:List UInt8):Loqq (lgC dg) lgY 0 0 [] (lgB dg):=
 ⟨rfl,rfl,Nat.le_refl 4,rfl,by kernel_rfl,rfl,rfl,rfl,rfl,rfl,rfl,rfl,rfl,rfl,⟨⟨iS,DD,true,63,0,[]⟩,by kernel_rfl,rfl,rfl⟩⟩
theorem lgArp (dg im:List UInt8):Ar 0 [arpQ] (lgT dg []) (lgH im 3 2) (lgG 5 lkS)=some (lgA dg [rrqF],lgH im 3 2,lgG 7 lkA):=by
 refine goes_gen (N:=5) (by kernel_rfl) (by kernel_rfl) (by kernel_rfl) ⟨rfl,Nat.le_refl _,rfl⟩ (by decide) (long2a im) (Nat.le_of_ble_eq_true rfl) ?_
 rw[long2b]
 refine(comes_one (N:=6) ⟨rfl,Nat.le_refl _,rfl⟩ (by decide) rfl (show(16:Nat)≠0 by decide) rfl arpR (Nat.le_of_ble_eq_true (by kernel_rfl)) (fun _=>⟨show 1≤512 by decide,show 1≤0+1 by decide⟩) []).trans ?_
 rw[long2d,long2c]
 rfl
theorem lgRrq (dg im:List UInt8) (hl:im.length=524323):Ar 0 [rrqF] (lgA dg []) (lgH im 3 2) (lgG 7 lkA)=some (lgB dg,⟨im,4294967295,iS,true,1,8,8,0,-1,0,3,3⟩,lgG 9 lkA):=by
 have h3:=long3 dg im
 rw[hl]at h3
 refine goes_gen (N:=7) (by kernel_rfl) (by kernel_rfl) (by kernel_rfl) ⟨rfl,Nat.le_refl _,rfl⟩ (by decide) h3 (Nat.le_of_ble_eq_true rfl) ?_
 rw[long5]
 refine(comes_one (N:=8) ⟨rfl,Nat.le_refl _,rfl⟩ (by decide) rfl (show(16:Nat)≠0 by decide) rfl (oackF 524323) (Nat.le_of_ble_eq_true (by kernel_rfl)) (fun _=>⟨show 1≤512 by decide,show 1≤0+1 by decide⟩) []).trans ?_
 rw[long4,long6]
 rfl
theorem ticks_go {tw K m t:Nat} {s s':St} {h h':aN} {g g':cD} (hn:s.now<4611686018427387904) (ht:t<1000000000000000000) (e:oB tw K (s.tick (7*t%4294967296)) {h with now:=((t+1:Nat):Int)} g=some (s',h',g')) (hp:s'.phase=0):
 xQ tw K (m+1) t s h g=xQ tw K m (t+1) s' h' g':=by
 rw[xQ,if_pos ⟨hn,ht⟩,e]
 dsimp only
 rw[if_neg (by rw[hp];decide)]
theorem ticks_end {tw K m t:Nat} {s s':St} {h h':aN} {g g':cD} (hn:s.now<4611686018427387904) (ht:t<1000000000000000000) (e:oB tw K (s.tick (7*t%4294967296)) {h with now:=((t+1:Nat):Int)} g=some (s',h',g')) (hp:s'.phase=3):
 xQ tw K (m+1) t s h g=some (s',h',true):=by
 rw[xQ,if_pos ⟨hn,ht⟩,e]
 dsimp only
 rw[if_pos (.inl hp),hp]
 rfl
theorem longP (im:List UInt8) (hl:im.length=524323):∃K r,xQ 0 K 50 0 (EH im 600000 8 8) (BI im 4294967295 iS true) ⟨[],0,0,(EH im 600000 8 8).look⟩=some r∧r.2.2=true∧r.1.phase=3∧r.1.image=im:=by
 obtain⟨dg,hdg⟩:∃dg,sha im=dg:=⟨_,rfl⟩
 have e0:EH im 600000 8 8=lgL dg:=by rw[←hdg];rfl
 rw[e0]
 obtain⟨K,s',h',g',e,hp,him⟩:=turns_load (c:=lgC dg) (im:=im) lgY_ok rfl (by rw[hl];show 524323≤600000;decide) (by show 600000≤600000;decide) (by show(16:Nat)≠0;decide) (by show(16:Nat)≠0;decide) hdg (N:=9) (i:=3) (h:=⟨im,4294967295,iS,true,1,8,8,0,-1,0,3,3⟩) (g:=lgG 9 lkA) (by decide) (by decide) (lgB_lo dg) rfl ⟨rfl,rfl,rfl,rfl,rfl⟩ ⟨Nat.le_refl _,Nat.zero_le _,fun x=>absurd x.1 (show ¬((-1:Int)=((0%65536:Nat):Int)) by decide)⟩ ⟨rfl,Nat.le_refl _,rfl⟩
 have t0:=turns_fuel (K+2) 6 _ _ _ (long0 dg im)
 have t1:=turns_fuel (K+7) 1 _ _ _ (long1 dg im)
 have t2:oB 0 (K+8) ((lgS dg 2 7).tick 14) (lgH im 3 2) (lgG 5 lkS)=some (s',h',g'):=by
  rw[long2]
  rw[show K+8=K+6+1+1 by omega,turn_goes (s:=lgT dg [arpQ]) rfl rfl (lgArp dg im),turn_goes (s:=lgA dg [rrqF]) rfl rfl (lgRrq dg im hl)]
  exact turns_fuel 6 K _ _ _ e
 rw[show 6+(K+2)=K+8 by omega]at t0
 rw[show 1+(K+7)=K+8 by omega]at t1
 refine⟨K+8,(s',h',true),?_,rfl,hp,him⟩
 refine(ticks_go (m:=49) (t:=0) (s:=lgL dg) (h:=BI im 4294967295 iS true) (g:=⟨[],0,0,(lgL dg).look⟩) (show(0:Int)<4611686018427387904 by decide) (by decide) t0 rfl).trans ?_
 refine(ticks_go (m:=48) (t:=1) (s:=lgS dg 1 0) (h:=lgH im 1 2) (g:=lgG 5 lkS) (show(1:Int)<4611686018427387904 by decide) (by decide) t1 rfl).trans ?_
 exact ticks_end (m:=47) (t:=2) (s:=lgS dg 2 7) (h:=lgH im 2 2) (g:=lgG 5 lkS) (show(2:Int)<4611686018427387904 by decide) (by decide) t2 hp
end Go.Proofs.YtcbkaiakdhiloaaGreatDoor
namespace Go.Proofs.YtcbkaiakdhiloaaGreatDoor
open Go.RowKit Go.Proofs
attribute [local go_sem] aE aC aB aD
attribute [local simp] gN ibq ibn eqN ltN leN eqL ltL gtL leL geL
theorem keepLong (w:World) (hG:Glb w) (hK:Fd w):Calls Tryz.prog 3 #[] w fun e w'=>e= .returned (.bool true)∧Fr noB w w':=by
 refine en Tryz.func3 Tryz.ntmps3 ?_
 refine W ?_
 have hb:=keepBytesX 524323 5 w (by decide)
 refine sX hb ?_
 rintro e wb ⟨im,rfl,hl,fb⟩
 refine⟨_,rfl,?_⟩
 clear hb
 obtain⟨kk,r,hr,hr2,hr3,hri⟩:=longP im hl
 obtain⟨rs,rh,rb⟩:=r
 dsimp only at hr2 hr3 hri
 subst hr2
 obtain⟨s0,hs0⟩:∃x,EH im 600000 8 8=x:=⟨_,rfl⟩
 obtain⟨h0,hh0⟩:∃x,BI im 4294967295 iS true=x:=⟨_,rfl⟩
 have hnew:rH (mW im 8 8)=s0:=hs0
 rw[hs0,hh0]at hr
 have hcok:=CQ im 8 8 (by decide) (by decide) (by decide) (by decide)
 have hlt:=(hK.keep fb fun _ _=>id).lt
 replace hG:=hG.keep fb fun _ _=>id
 replace hK:=hK.keep fb fun _ _=>id
 have hgl:=qY hG
 refine W ?_
 have hc:=tZ im 8 8 wb (by omega) hG hK.card
 refine sC hc ?_
 intro w1 f1
 clear hc
 refine W ?_
 have hc2:=BG (mW im 8 8) w1 (hG.keep f1 fun _ _=>id) hcok
 rw[hnew]at hc2
 refine sX hc2 ?_
 rintro e w2 ⟨p,rfl,hM,f2⟩
 refine⟨_,rfl,?_⟩
 clear hc2 hnew hs0 hcok
 refine W ?_
 refine sA ?_
 intro w3 hq f3
 obtain⟨q,hqq⟩:∃q,w2.heap.size=q:=⟨_,rfl⟩
 have h12:w1.heap.size≤q:=hqq▸f2.size
 have h01:wb.heap.size≤w1.heap.size:=f1.size
 have h0b:w.heap.size≤wb.heap.size:=fb.size
 rw[hqq]at hq⊢
 have hql:=hq.lt
 obtain⟨Y,hY⟩:∃Y:Nat→Prop,Y=fun b=>b<w1.heap.size∨b=q:=⟨_,rfl⟩
 have hM3:MX Y p s0 w3:=by
  subst hY
  exact hM.add f3 (fun _ x=>x.elim) (fun _ _ x=>x) fun b hb=>hb.imp id fun e=>by subst e;exact⟨by omega,hql⟩
 have hgq:¬glB q:=fun h=>by have:=hgl _ h;omega
 have hkq:¬glK q:=fun h=>by rcases h with h|h|h|h<;>omega
 have hH:HAt w3 q h0:=by
  subst hh0
  exact⟨hq,((hK.keep f1 fun _ _=>id).keep f2 fun _ _=>id).keep f3 fun _ _=>id,hkq,⟨by show im.length≤_;omega,by show 4294967295<_;decide,by show iS<_;decide,by show 0<_;decide,by show 0<_;decide,by show 0≤_;decide,by show 0≤_;decide,by show 0≤_;decide⟩⟩
 have hcb:=C9 (Y0:=Y) p q none 0 [] 0 50 kk s0 h0 w3 (rs,rh,true) hM3 hH SlR.nil (fun _ h=>by cases h) (by decide) (hY▸ .inr rfl) hgq (fun b hb=>by subst hY;left;rcases hb with rfl|rfl|rfl|rfl<;>omega) (by decide) (by decide) hr
 have ff:Fr noB w w3:=((fb.none f1).none f2).none f3
 clear hM hM3 hH hr hq hh0
 refine W ?_
 refine sC hcb ?_
 rintro w4 ⟨hM,_,f4⟩
 have hg:=Ig p im rs w4 hM
 rw[decide_eq_true (show rs.phase=3∧rs.image=im from⟨hr3,hri⟩)]at hg
 have f04:Fr noB w w4:=ff.trans' f4 fun b hb h=>by
  rcases h with h|h
  ·exact h (by rw[hY];left;omega)
  ·omega
 refine W ?_
 refine sX hg ?_
 rintro e w5 ⟨rfl,_,f5⟩
 refine⟨_,rfl,?_⟩
 refine W ?_
 exact⟨rfl,f04.trans' f5 fun b hb h=>h (by rw[hY];left;omega)⟩
end Go.Proofs.YtcbkaiakdhiloaaGreatDoor
