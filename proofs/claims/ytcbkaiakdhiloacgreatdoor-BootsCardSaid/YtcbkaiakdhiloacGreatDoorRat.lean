/- Parts of the walk; written by programs, merged. -/
import Derived.Test.YtcbkaiakdhiloacGreatDoorRas
import Derived.RangeFuncGives
import Derived.Sort.MapsRangeIn
import Derived.OwnWalkIn
import Derived.TacticsInMore
import Derived.RegionIn
import Derived.LoopNIn
import Derived.LoopIn
import Derived.Shelf.Abstract
set_option linter.unusedSimpArgs false
set_option linter.unusedVariables false
set_option maxRecDepth 20000
set_option maxHeartbeats 8000000
namespace Go.Proofs.YtcbkaiakdhiloacGreatDoor
open Go.RowKit Go.Proofs
attribute [local simp] dM Da ibq ibn eqN ltN leN eqL ltL gtL leL geL eqR
attribute [local go_sem] aG aD aC aE
theorem kH (l:List UInt8):(aJ l).1.ty<65536∧(aJ l).1.by'.length≤l.length∧(aJ l).1.by'.length≤1500:=by
 unfold aJ
 have h5:=Bt l 14 l.length
 have h2:=gP l 12 14 2 rfl
 repeat' split
 all_goals(refine⟨?_,?_,?_⟩<;>simp[GK]<;>omega)
def St.frameP (s:St) (f:List UInt8):St:=
 if(aJ f).2≠0∨((aJ f).1.«to»≠s.c.card∧(aJ f).1.«to»≠lE)then s
 else if(aJ f).1.ty=2054 then s.arpP (aJ f).1.by'
 else if(aJ f).1.ty=2048 then s.dgramP (aJ f).1.by'
 else s
def Now (L:Lay) (w0:World) (s:St) (w:World):Prop:=∃L':Lay,L'.p=L.p∧(∀b,bM L' b→bM L b∨w0.heap.size≤b)∧aA w L' s∧Fr (bM L) w0 w
theorem Now.comp {L L1:Lay} {w0 w w':World} {s':St} (p1:L1.p=L.p) (o1:∀b,bM L1 b→bM L b∨w0.heap.size≤b) (f1:Fr (bM L) w0 w) (h:Now L1 w s' w'):Now L w0 s' w':=by
 obtain⟨L2,p2,o2,b2,f2⟩:=h
 refine⟨L2,p2.trans p1,fun b hb=> ?_,b2,f1.trans' f2 fun b hb hx=>(o1 b hx).resolve_right (by omega)⟩
 rcases o2 b hb with x|x
 ·exact o1 b x
 ·exact .inr (Nat.le_trans f1.size x)
theorem Now.lpost {L:Lay} {w w':World} {s:St} {r:Value} (h:Now L w s w'):bC L s r w (.returned r) w':=⟨rfl,h⟩
theorem Now.fr {L:Lay} {w0 w w':World} {s:St} (h:Now L w0 s w) (hf:Fr noB w w'):Now L w0 s w':=by
 obtain⟨L1,p1,o1,b1,f1⟩:=h
 exact⟨L1,p1,o1,b1.none hf,f1.none hf⟩
def I1 (s:St) (x:IB):Nat→St
 |0=>s
 |1=>if x.ty=2054 then s.arpP x.by' else s
 |_=>if x.ty=2054 then s.arpP x.by' else if x.ty=2048 then s.dgramP x.by' else s
attribute [-go_sem] run_eql_struct run_neq_struct run_equalIn_agg in
theorem CT (L:Lay) (s:St) (ld:List UInt8) (w:World) (h:aA w L s) (hld:ld.length≤4611686018427387904) (hnx:(s.phase=1∨s.phase=2)→s.next≤s.image.length+1):
 Calls Tryz.prog 41 #[.pointer (some ⟨L.p,0,none⟩),.string (bs ld)] w (bC L (s.frameP ld) (.tuple #[]) w):=by
 have hin:=kH ld
 obtain⟨r,hr⟩:∃r,r=s.frameP ld:=⟨_,rfl⟩
 rw[←hr]
 unfold St.frameP at hr
 refine en Tryz.func41 Tryz.ntmps41 ?_
 refine W ?_
 refine sC (kT ld w (by omega)) ?_
 intro w1 f1
 generalize aJ ld=q at*
 obtain⟨x,k⟩:=q
 dsimp only at hin hr⊢
 refine W ?_
 refine sA ?_
 intro w2 hG f2
 refine W ?_
 refine sT ?_
 intro w3 hG f3
 have f:=f1.none (bP f2 (Nat.le_refl _) f3)
 have hg:¬bM L w1.heap.size:=fun hx=>absurd (h.lt _ hx) (by have:=f1.size;omega)
 replace h:=h.none f
 generalize w1.heap.size=g at*
 clear f1 f2 f3
 refine W ?_
 obtain⟨b,hb⟩:∃b,b=decide (k≠0∨(x.«to»≠s.c.card∧x.«to»≠lE)):=⟨_,rfl⟩
 refine cM [0,4] [(30,.bool b)] (fun w'=>aA w' L s∧Bk w' g 49 (Da x)∧Fr noB w w') ?_ ?_
 ·have hE:=mH x.«to» s.c.card
  have hE2:=mH x.«to» lE
  have hGd:=iA
  rw[show xF lE= #[.int .u8 255,.int .u8 255,.int .u8 255,.int .u8 255,.int .u8 255,.int .u8 255]from rfl]at hE2
  unfold xF at hE hE2
  obtain⟨c1,hc1⟩:∃c,c=decide (x.«to»≠s.c.card):=⟨_,rfl⟩
  obtain⟨c2,hc2⟩:∃c,c=decide (x.«to»≠lE):=⟨_,rfl⟩
  replace hb:b=decide (k≠0∨(c1=true∧c2=true)):=by rw[hb,hc1,hc2];simp only[decide_eq_true_eq]
  rw[←hc1]at hE
  rw[←hc2]at hE2
  clear hc1 hc2 hr hin
  refine dI (An h (An hG f)) [] (up 18 0) (h:= ?_)
  clear h hG f
  intro w5 h5 _
  by_cases a1:k=0
  cases c1
  rotate_left
  ·refine D ?_
   refine dQ (v:= .agg #[.int .u8 255,.int .u8 255,.int .u8 255,.int .u8 255,.int .u8 255,.int .u8 255]) ?_ ?_
   ·intro w' hS
    have o0:=hS.1.gb.all.2 0 _ rfl;have o1:=hS.1.gb.all.2 1 _ rfl;have o2:=hS.1.gb.all.2 2 _ rfl;have o3:=hS.1.gb.all.2 3 _ rfl;have o4:=hS.1.gb.all.2 4 _ rfl;have o5:=hS.1.gb.all.2 5 _ rfl
    go_simp
   cases c2<;>refine D ?_<;>refine tN ?_<;>exact mt h5
  all_goals
   refine D ?_
   refine tN ?_
   exact mt h5
 clear h hG f
 rintro u w3 ⟨h,hG,f⟩
 cases b
 rotate_left
 ·rw[if_pos (of_decide_eq_true hb.symm)]at hr
  clear hb
  refine W ?_
  exact bH.two ⟨rfl,by rw[hr];exact h,f.of_no _⟩
 rw[if_neg (of_decide_eq_false hb.symm)]at hr
 clear hb
 refine W ?_
 refine sA ?_
 intro w4 hQ f4
 replace hQ:Bk w4 w3.heap.size _ #[.int .u16 2054,.func (.func 70) #[] #[],.int .u16 2048,.func (.func 71) #[] #[]]:=hQ
 have h4:=h.none f4
 have hG4:=hG.keep f4 id
 have hgl:=hG4.lt
 have hqn:¬bM L w3.heap.size:=fun hx=>Nat.lt_irrefl _ (h.lt _ hx)
 have hql:=hQ.lt
 generalize w3.heap.size=q at*
 refine W ?_
 refine cL (fun i=>2-i) (fun i=>[(35,.int .i64 ((i:Nat):Int)),(0,.pointer (some ⟨L.p,0,none⟩)),(4,.pointer (some ⟨g,0,none⟩)),(33,.slice (some ⟨q,0,none⟩) 2 2),(34,.int .i64 2)]) (fun i w'=>i≤2∧Now L w4 (I1 s x i) w') 0 (mt (p:=True) trivial).1 ⟨by decide,L,rfl,fun b hb=> .inl hb,h4,Fr.refl _ _⟩ ?_
 rintro i u w5 ⟨hi,hN⟩
 have hN5:=hN
 obtain⟨L1,p1,ow1,h5,F1⟩:=hN5
 have hG5:=hG4.keep F1 hg
 have hQ5:=hQ.keep F1 hqn
 have nog:¬bM L1 g:=fun hx=>by rcases ow1 g hx with y|y;exact hg y;omega
 rw[←p1]
 replace p1:=Lib.hid p1
 obtain rfl|rfl|rfl:i=0∨i=1∨i=2:=by omega
 ·refine W ?_
  refine sA ?_
  intro w6 hV f6
  refine W ?_
  refine sT ?_
  intro w7 hV f7
  have f7:=bP f6 (Nat.le_refl _) f7
  have h7:=h5.none f7
  have hG7:=hG5.keep f7 id
  by_cases hty:x.ty=2054
  ·refine W ?_
   refine sC (De L1 s x.by' w7 h7 (by omega)) ?_
   intro w8 h8
   refine W ?_
   exact⟨1,(mt (p:=True) trivial).1,⟨by decide,by rw[show I1 s x 1=s.arpP x.by' from if_pos hty];exact .comp p1.out ow1 (F1.none f7) h8⟩,by decide⟩
  ·have hty':¬2054=x.ty:=fun e=>hty e.symm
   refine W ?_
   exact⟨1,(mt (p:=True) trivial).1,⟨by decide,by rw[show I1 s x 1=s from if_neg hty];exact hN.fr f7⟩,by decide⟩
 ·refine W ?_
  refine sA ?_
  intro w6 hV f6
  refine W ?_
  refine sT ?_
  intro w7 hV f7
  have f7:=bP f6 (Nat.le_refl _) f7
  have h7:=h5.none f7
  have hG7:=hG5.keep f7 id
  by_cases hty:x.ty=2048
  ·have hty':¬x.ty=2054:=by omega
   rw[show I1 s x 1=s from if_neg hty']at h7
   refine W ?_
   refine sC (C3 L1 s x.by' w7 h7 (by omega) hnx) ?_
   intro w8 h8
   refine W ?_
   exact⟨2,(mt (p:=True) trivial).1,⟨by decide,by rw[show I1 s x 2=s.dgramP x.by' from(if_neg hty').trans (if_pos hty)];exact .comp p1.out ow1 (F1.none f7) h8⟩,by decide⟩
  ·have hty':¬2048=x.ty:=fun e=>hty e.symm
   refine W ?_
   exact⟨2,(mt (p:=True) trivial).1,⟨by decide,by rw[show I1 s x 2=I1 s x 1 by show(if x.ty=2054 then _ else if x.ty=2048 then _ else _)=(if x.ty=2054 then _ else _);rw[if_neg (c:=x.ty=2048) hty]];exact hN.fr f7⟩,by decide⟩
 ·refine W ?_
  refine .comp (L1:=L) rfl (fun _=> .inl) ((f.none f4).of_no _) ?_
  rw[hr]
  exact Now.lpost hN
end Go.Proofs.YtcbkaiakdhiloacGreatDoor
namespace Go.Proofs.YtcbkaiakdhiloacGreatDoor
open Go.RowKit Go.Proofs
structure lN (s t:St):Prop where
 c:t.c=s.c
 rx:t.rx=s.rx
 phase:t.phase=s.phase
 block:t.block=s.block
 next:t.next=s.next
 image:t.image=s.image
theorem lN.refl (s:St):lN s s:=⟨rfl,rfl,rfl,rfl,rfl,rfl⟩
theorem lN.trans {s t u:St} (h:lN s t) (k:lN t u):lN s u:=⟨k.c.trans h.c,k.rx.trans h.rx,k.phase.trans h.phase,k.block.trans h.block,k.next.trans h.next,k.image.trans h.image⟩
theorem lN.bef {s t u:St} (k:lN t u) (h:lN s t):lN s u:=h.trans k
theorem nR (s:St) (d:Mac) (k:Nat) (l:List UInt8):lN s (s.send d k l):=by unfold St.send;split<;>exact⟨rfl,rfl,rfl,rfl,rfl,rfl⟩
theorem wM (s:St) (op:Nat) (d w:Mac) (fm ip:Nat):lN s (s.arp op d w fm ip):=nR ..
theorem jU (s:St) (fm ip:Nat):lN s (s.ask fm ip):=wM ..
theorem zY (s:St):lN s s.took:=⟨rfl,rfl,rfl,rfl,rfl,rfl⟩
theorem vS (s:St) (d fm port:Nat) (l:List UInt8):lN s (s.udp d fm port l):=by
 unfold St.udp
 dsimp only
 split
 ·exact lN.bef (jU _ _ _) ⟨rfl,rfl,rfl,rfl,rfl,rfl⟩
 ·split
  ·exact(zY s).trans (nR ..)
  ·exact⟨rfl,rfl,rfl,rfl,rfl,rfl⟩
theorem Bz (s:St) (k:UInt8) (a:Bool) (os:List bK):lN s (s.say k a os):=by
 unfold St.say
 split
 ·exact vS ..
 ·exact(zY s).trans (nR ..)
theorem EO (s:St):lN s s.asks:=by unfold St.asks;split<;>exact Bz ..
theorem yT (s:St) (l:Nat):lN s (s.goes l):=lN.bef (EO _) ⟨rfl,rfl,rfl,rfl,rfl,rfl⟩
theorem FC (s:St):lN s s.tell:=vS ..
theorem uO (s:St) (m:tK):lN s (s.waits m):=⟨rfl,rfl,rfl,rfl,rfl,rfl⟩
theorem iK (s:St):lN s s.got:=lN.bef (FC _) ⟨rfl,rfl,rfl,rfl,rfl,rfl⟩
theorem gS (s:St) (p c:Nat) (t:List UInt8):lN s (s.wrong p c t):=vS ..
theorem uR (s:St) (a:Di) (m:Bool):lN s (s.learn a m):=by
 rw[BO]
 split
 ·exact⟨rfl,rfl,rfl,rfl,rfl,rfl⟩
 ·exact lN.bef (nR ..) ⟨rfl,rfl,rfl,rfl,rfl,rfl⟩
theorem cO (s:St) (d:sI) (t:Nat):lN s (s.times d t):=by unfold St.times;split<;>exact⟨rfl,rfl,rfl,rfl,rfl,rfl⟩
theorem oZ (s:St) (d:sI) (fm:Nat):lN s (s.granted d fm):=by
 unfold St.granted
 split
 ·exact .refl _
 ·split
  ·exact .refl _
  ·dsimp only
   split
   ·exact⟨((jU _ _ _).c).trans (cO _ d _).c,((jU _ _ _).rx).trans (cO _ d _).rx,((jU _ _ _).phase).trans (cO _ d _).phase,((jU _ _ _).block).trans (cO _ d _).block,((jU _ _ _).next).trans (cO _ d _).next,((jU _ _ _).image).trans (cO _ d _).image⟩
   ·exact⟨(cO _ d _).c,(cO _ d _).rx,(cO _ d _).phase,(cO _ d _).block,(cO _ d _).next,(cO _ d _).image⟩
def St.Rest (s:St):Prop:=(s.phase=1∨s.phase=2)→1≤s.block∧s.next≤s.image.length+1
theorem lN.rest {s t:St} (h:lN s t) (r:s.Rest):t.Rest:=fun hp=>by
 rw[h.phase]at hp
 rw[h.block,h.next,h.image]
 exact r hp
theorem zZ (s:St):s.drop.Rest:=fun h=>by rcases h with h|h<;>cases h
theorem iF (s:St):s.fail.Rest:=by
 unfold St.fail
 dsimp only
 split
 ·intro h;rcases h with h|h<;>cases h
 ·exact zZ s
theorem lC (port:Nat):∀(l:List eH) (s:St),s.Rest→s.phase=1→(St.agree port l s).Rest
 |[],s,r,hp=>(iK _).rest (fun _=>r (.inl hp))
 |f::l,s,r,hp=>by
  unfold St.agree
  split
  ·exact iF _
  ·next n hn=>
   split
   ·next h=>exact lC port l _ (fun h1=>⟨by have:=h.2.1;show 1≤n;omega,(r (.inl hp)).2⟩) hp
   ·split
    ·exact lC port l _ (fun h1=>r (.inl hp)) hp
    ·split
     ·split
      ·exact lC port l _ r hp
      ·exact iF _
     ·exact iF _
theorem xP (s:St) (t:tK) (r:s.Rest) (hp:s.phase=2):(s.data t).Rest:=by
 obtain⟨h1,h2⟩:=r (.inr hp)
 unfold St.data
 split
 ·exact r
 split
 ·exact(iK _).rest r
 split
 ·exact iF _
 dsimp only
 split
 ·next hl=>
  have hu:({s with image:=s.image++t.data,next:=s.next+1,came:=wrap64 (s.came+1)}:St).Rest:=fun _=>⟨h1,by show s.next+1≤(s.image++t.data).length+1;rw[List.length_append];omega⟩
  split
  ·exact(iK _).rest hu
  ·exact(uO _ _).rest hu
 ·split
  ·intro h;rcases h with h|h<;>cases h
  ·exact iF _
theorem Ds (s:St) (port:Nat) (t:tK) (r:s.Rest) (hp:s.phase=1∨s.phase=2):(s.loads port t).Rest:=by
 unfold St.loads
 split
 ·split
  ·exact r
  ·exact(gS ..).rest r
 split
 ·exact iF _
 split
 ·next h2=>
  split
  ·exact xP s t r h2
  ·exact r
 ·next h2=>
  have h1:s.phase=1:=by omega
  split
  ·split
   ·exact xP _ t (fun _=>r hp) rfl
   ·exact r
  ·split
   ·exact lC port _ s r h1
   ·exact r
theorem Aw (s:St) (fm:Nat) (ld:List UInt8) (r:s.Rest) (hp:s.phase=1∨s.phase=2):(s.loadsP fm ld).Rest:=by
 unfold St.loadsP;split
 ·exact Ds s fm _ r hp
 ·exact r
theorem Bv (s:St) (d:sI) (r:s.Rest):(s.leased d).Rest:=by
 unfold St.leased
 split
 ·split
  ·split
   ·exact lN.bef (yT _ _) ⟨rfl,rfl,rfl,rfl,rfl,rfl⟩|>.rest r
   ·exact r
  ·split
   ·split
    ·exact(oZ ..).rest r
    ·exact r
   ·split
    ·split
     ·exact zZ s
     ·exact r
    ·exact r
 ·exact r
theorem AH (s:St) (ld:List UInt8) (r:s.Rest):(s.dgramP ld).Rest:=by
 unfold St.dgramP
 split
 ·exact r
 split
 ·exact r
 split
 ·unfold St.leasedP;split
  ·exact Bv _ _ r
  ·exact r
 split
 ·next h=>exact Aw _ _ _ r (by have:=h.1;unfold St.busy at this;simpa using this)
 ·exact r
theorem Dc (s:St) (a:Di) (r:s.Rest):(s.arped a).Rest:=by
 unfold St.arped
 split
 ·exact iF _
 ·dsimp only
  have ht:(if a.fi≠0∧a.fi≠s.address then s.learn a (s.asked a)else s).Rest:=by
   split
   ·exact(uR ..).rest r
   ·exact r
  split
  ·exact(wM ..).rest ht
  ·exact ht
theorem At (s:St) (f:List UInt8) (r:s.Rest):(s.frameP f).Rest:=by
 unfold St.frameP
 split
 ·exact r
 split
 ·unfold St.arpP;split
  ·exact Dc _ _ r
  ·exact r
 split
 ·exact AH _ _ r
 ·exact r
def lM:Nat→St→Nat→St×Nat
 |0,s,k=>(s,k)
 |m+1,s,k=>match s.rx with
  |[]=>(s,k)
  |f::r=>lM m (if s.over then {s with rx:=r}else({s with rx:=r}:St).frameP f) (k+1)
end Go.Proofs.YtcbkaiakdhiloacGreatDoor
namespace Go.Proofs.YtcbkaiakdhiloacGreatDoor
open Go.RowKit Go.Proofs
structure MB where
 now:Int
 lease:Nat
 phase:Nat
 address:Nat
 boots:Int
 bytes:Nat
 lost:Int
 cached:Nat
structure CQ where
 loss:List Int
 n:Nat
 lost:Nat
 was:MB
namespace CQ
end CQ
def St.calm (s:St):Bool:=(decide (s.phase≠1∧s.phase≠2)||(decide (1≤s.block)&&decide (s.next≤s.image.length+1)))&&s.rx.all fun f=>decide (f.length≤1048576)
theorem St.calm_rest {s:St} (h:s.calm=true):s.Rest∧∀f∈s.rx,f.length≤4611686018427387904:=by
 unfold St.calm at h
 simp only[Bool.and_eq_true,Bool.or_eq_true,decide_eq_true_eq,List.all_eq_true]at h
 refine⟨fun hp=> ?_,fun f hf=>Nat.le_trans (h.2 f hf) (by decide)⟩
 rcases h.1 with h1|h1
 ·omega
 ·exact h1
def qC (s:List UInt8):Bool:=
 let p:=(aW (aJ s).1.by').1
 let f:=(aM (bA p.by' p.fm p.«to»).1.ld).1.fs
 let b:=cH St.bNm f
 let w:=cH St.wNm f
 decide ((aJ s).1.ty≠2048)||(decide (0≤b)&&decide (b≤70000)&&decide (0≤w)&&decide (w≤70000))
end Go.Proofs.YtcbkaiakdhiloacGreatDoor
namespace Go.Proofs.YtcbkaiakdhiloacGreatDoor
open Go.RowKit Go.Proofs
def Ew (s:List UInt8) (cap block window:Nat):St:=⟨⟨aL,[107,101,114,110,101,108],cap,sha s,block,window,16,16⟩,[],[],0,0,0,0,0,[],0,0,0,0,0,0,0,0,0,0,0,0,0,0,0,0,0,0,0,0,0,0,[],[]⟩
def wV (s:List UInt8) (lease:Nat) (next:Nat) (o:Bool):aK:=⟨s,lease,next,o,0,0,0,0,0,0,0,0⟩
end Go.Proofs.YtcbkaiakdhiloacGreatDoor
namespace Go.Proofs.YtcbkaiakdhiloacGreatDoor
open Go.RowKit Go.Proofs
structure RnD where
 s:St
 h:aK
 bound:Nat
 asked:Nat
 slow:Nat
def fE (t:Nat):List (List UInt8)→RnD→List (List UInt8)→Option (RnD×List (List UInt8))
 |[],d,out=>some (d,out)
 |a::l,d,out=>
  let x:=(d.s.put a).1
  if x.calm then
   let y:=(lM 1 x 0).1
   if y.tx.length≤16∧out.length≤1000000 then
    let b:=decide (d.s.lease=2∧y.lease=3)
    fE t l ⟨{y with tx:=[]},d.h,if b then t else d.bound,if b then 0 else d.asked,d.slow⟩ (out++y.tx)
   else none
  else none
def iV (f:List UInt8):Nat×Nat:=
 let e:=aJ f
 let p:=aW e.1.by'
 let u:=bA p.1.by' p.1.fm p.1.«to»
 (if e.1.ty=2048∧u.2=0 then(if u.1.tp=67 then 1 else 2)else 0,p.1.«to»)
def iE (n a t:Nat) (f:List UInt8) (d:RnD) (out:List (List UInt8)):Option (RnD×List (List UInt8)):=
 if f.length≤1048576∧d.h.sent+d.h.window≤2097152∧qC f=true∧d.asked≤1000000000000∧d.slow≤1000000000000∧d.bound≤1000000 then
  let r:=d.h.answer f
  if r.2.2=true∧r.2.1.length≤1048576 then
   let k:=iV f
   if k.1=1∧d.s.address≠0 then
    if decide (d.bound+n/8*7≤t)≠decide (k.2=4294967295)∨t<d.bound+n/2 then none
    else if d.asked+1≤a then some (⟨d.s,r.1,d.bound,d.asked+1,d.slow⟩,out)
    else fE t r.2.1 ⟨d.s,r.1,t,0,d.slow⟩ out
   else if k.1=2 then
    if(d.slow+1)%3≠0 then some (⟨d.s,r.1,d.bound,d.asked,d.slow+1⟩,out)
    else fE t r.2.1 ⟨d.s,r.1,d.bound,d.asked,d.slow+1⟩ out
   else fE t r.2.1 ⟨d.s,r.1,d.bound,d.asked,d.slow⟩ out
  else none
 else none
def kS (n a t:Nat):Nat→List (List UInt8)→RnD→Option RnD
 |0,_,_=>none
 |k+1,[],d=>some d
 |k+1,f::out,d=>match iE n a t f d out with
  |none=>none
  |some (d,out)=>kS n a t k out d
def mE (n a k:Nat):Nat→Nat→RnD→Bool
 |0,_,_=>true
 |m+1,t,d=>
  if d.s.now<4611686018427387904∧(d.s.tick 1).tx.length≤16 then
   match kS n a t k (d.s.tick 1).tx ⟨{d.s.tick 1 with tx:=[]},{d.h with now:=(t:Int)},d.bound,d.asked,d.slow⟩with
   |none=>false
   |some d=>
    if d.bound≤1000000 then
     if d.s.phase=3∨d.s.phase=4 then decide (d.s.phase=3)||decide (n<40)
     else if 4≤d.s.lease∧d.bound+n≤t then false
     else mE n a k m (t+1) d
    else false
  else false
end Go.Proofs.YtcbkaiakdhiloacGreatDoor
namespace Go.Proofs.YtcbkaiakdhiloacGreatDoor
open Go.RowKit Go.Proofs Go.Maps Go.Sort Go.Shelf
abbrev nQ (x:Nat):Value:= .int .u32 (x:Int)
theorem FX {x y:Nat} (h:nQ x=nQ y):x=y:=by injection h with _ h;omega
theorem B4 {v:Value} {kl:Lit} (h:keyOf Tryz.prog 38 v=some kl):∃x:Nat,v=nQ x∧kl=ipL x∧True:=by
 obtain⟨x,e1,e2,hw⟩:=Maps.keyOf_int_inv Tryz.underlying38 h
 have h0:0≤x:=by simp[Lit.wf,IntKind.min,IntKind.max,IntKind.signed,IntKind.bits]at hw;omega
 refine⟨x.toNat,?_,?_,trivial⟩
 ·exact e1.trans (congrArg (Value.int .u32) (Int.toNat_of_nonneg h0).symm)
 ·exact e2.trans (congrArg (Lit.int .u32) (Int.toNat_of_nonneg h0).symm)
def eY (D0:DataW Unit) (left:Lit→Bool) (ss:List Nat):Prop:=ss.Nodup∧∀x:Nat,x∈ss↔(has D0 (ipL x)=true∧left (ipL x)=false)
theorem eY.start (D0:DataW Unit):eY D0 (has D0) []:=⟨List.nodup_nil,fun x=>by cases has D0 (ipL x)<;>simp⟩
theorem eY.step {D0:DataW Unit} {left:Lit→Bool} {ss:List Nat} (h:eY D0 left ss) {x:Nat} {y:DataW Unit} (hlk:left (ipL x)=true) (hat:∀zd,D0.atKey (ipL x) zd=y):eY D0 (fun z=>left z&& !z.sameKey (ipL x)) (ss++[x]):=by
 have hhas:has D0 (ipL x)=true:=has_true_of_atKey hat
 have hnew:x∉ss:=fun hx=>by have:=((h.2 x).1 hx).2;rw[hlk]at this;cases this
 refine⟨List.nodup_append.2 ⟨h.1,by simp,fun a ha b hb=>by simp at hb;subst hb;exact fun e=>hnew (e▸ha)⟩,fun y=> ?_⟩
 by_cases hy:y=x
 ·subst hy;simp[Lit.sameKey,ipL];exact hhas
 ·have:((ipL y).sameKey (ipL x))=false:=by simp[Lit.sameKey,ipL];omega
  simp[h.2 y,hy,this]
theorem eY.perm {D0:DataW Unit} {left:Lit→Bool} {ss:List Nat} {l0:List bD} (h:eY D0 left ss) (hr:Rep D0 l0) (hl:∀kl,left kl=false):ss.Perm (l0.map (·.ip)):=by
 refine(List.perm_ext_iff_of_nodup h.1 hr.nd).2 fun x=> ?_
 rw[h.2 x,hl,hr.has,uJ]
 simp
set_option maxRecDepth 100000 in
theorem AT (F:Fence) (n:Nat) (h10:F.fn 135) (hro:F.round=none) (hn:1≤n) (l Bm b nn:Nat) (D0:DataW Unit) (l0:List bD) (hR0:Rep D0 l0) {R:Value→Option (DataW Unit×List MemPlace)} (J:List Nat→World→Prop)
 (hY:∀pre x W,J pre W→pre.length<Maps.size D0→YieldAt F (n-1) Tryz.prog l #[nQ x] W fun e W'=>e= .returned (.bool true)∧J (pre++[x]) W'∧KeepsWalks W W')
 (W:World) (hJ:AbidesFrom W.heap.size J) (hm:W.cell? ⟨Bm,0,none⟩=some (.map (some b))) (hown:W.ownsMap Tryz.prog 38 R b nn D0) (h0:J [] W):
 CallsIn F n Tryz.prog 135 #[.func (.yield l) #[] #[],.pointer (some ⟨Bm,0,none⟩)] W fun e W'=>(∃v,e= .returned v)∧∃ss:List Nat,ss.Perm (l0.map (·.ip))∧J ss W':=by
 refine callsIn_of_wp Tryz.func135 rfl h10 ?_ hro
 simp only[Tryz.ntmps135,List.size_toArray,List.length_cons,List.length_nil,Nat.reduceAdd,Nat.reduceSub,Array.replicate_succ,Array.replicate_zero,List.push_toArray,List.append_toArray,List.nil_append,List.cons_append]
 gi_wp2_with (first
  |(gi_at_range;refine wpListIn_range_own _ rfl _ 97 rfl 38 160 gM Tryz.underlying97 _ b nn _ rfl hown ?_;intro w0 hrg0 hg0 hs0)
  |gi_in)
 go_frame
 gi_loopw [3] (fun _ wr=>∃(left:Lit→Bool) (cnt:Nat) (ss:List Nat),wr.ranges Tryz.prog 38 R b W.heap.size nn D0 left cnt∧ss.length+cnt≤Maps.size D0∧eY D0 left ss∧J ss wr)
  (fun _ wr=>wr.rangeLeft b W.heap.size)
 case atStart=>
  exact⟨_,_,[],hrg0,by simp,eY.start D0,hJ [] W w0 none h0 hg0 (fun r e=>by cases e)⟩
 case round=>
  obtain⟨left,cnt,ss,hrg,hcs,hC,hJs⟩:=hrel
  gi_wp2_with (first
   |(gi_at_next;refine wpListIn_next_ranges (α:=Nat) (β:=Value) _ rfl _ rfl 38 gM R nQ id (fun key kl hk=>by obtain⟨x,hx,_⟩:=B4 hk;exact⟨x,hx⟩) (fun v _ _=>⟨v,rfl⟩) b W.heap.size nn _ _ _ rfl hrg ?_ ?_)
   |gi_in)
  ·
   intro hc0 hl0
   gi_wp2
   go_end0
   exact⟨⟨_,rfl⟩,ss,hC.perm hR0 hl0,hJs⟩
  ·
   intro x c kl yd yp w2 cnt2 hkey hlk hv hat hrg2 hlt hg2 hs2 hen
   obtain⟨x',ex,rfl,_⟩:=B4 hkey
   obtain rfl:x=x':=FX ex
   have hJ2:J ss w2:=hJ ss wr w2 (some W.heap.size) hJs hg2 (fun r e=>by cases e;exact⟨Nat.le_refl _,hrg.iter_walk⟩)
   obtain⟨fn,tmps,assign,body,hy,hR⟩:=hY ss x w2 hJ2 (by omega)
   clear hs2
   gi_wp2
   refine hR.mono ?_
   rintro e W3 ⟨rfl,hJ3,hk3⟩
   gi_wp2
   have hrg3:=hrg2.of_walks hk3
   go_roundw
   case rel=>exact⟨_,cnt2,ss++[x],hrg3,by simp;omega,hC.step hlk hat,hJ3⟩
   case measure=>rw[hrg3.left_eq,hrg.left_eq];exact hlt
theorem zN (F:Fence) (n:Nat) (h10:F.fn 135) (hro:F.round=none) (hn:1≤n) (Bm b nn:Nat) (D0:DataW Unit) (l0:List bD) (hR0:Rep D0 l0) {R:Value→Option (DataW Unit×List MemPlace)} (w:World) (hBm:Bm<w.heap.size)
 (hm:w.cell? ⟨Bm,0,none⟩=some (.map (some b))) (hown:w.ownsMap Tryz.prog 38 R b nn D0):
 SeqGives F n Tryz.prog 135 #[.pointer (some ⟨Bm,0,none⟩)] nQ (fun ss=>ss.Perm (l0.map (·.ip))) (Maps.size D0) w:=fun l J W hW hJ hY h0=>by
 have hown':W.ownsMap Tryz.prog 38 R b nn D0:=by
  have hbl:=hown.lt
  obtain⟨es,clock,hb,Ft,hs,hD⟩:=hown
  exact⟨es,clock,(hW.block b hbl).trans hb,Ft,hs,hD⟩
 exact AT F n h10 hro hn l Bm b nn D0 l0 hR0 J hY W hJ ((hW.cell (p:=⟨Bm,0,none⟩) hBm).trans hm) hown' h0
def oJ:Code:=(Code.region 2 #[{dst:=some 5,op:=Op.assign (Operand.tmp 7),type:=38,pos:= "iter.go:51",after:= #[],guard:=none}] false)
def wX:Code:=(Code.block 1 (Code.region 3 #[{dst:=some 8,op:=Op.load 110 (Operand.tmp 2),type:=110,pos:= "iter.go:52",after:= #[],guard:=none},{dst:=some 9,op:=Op.move (Operand.tmp 5),type:=38,pos:= "iter.go:52",after:= #[],guard:=none},{dst:=some 10,op:=Op.buildSlice 110 1 #[(0,Operand.tmp 9)],type:=110,pos:= "iter.go:52",after:= #[{on:=1,ground:=Ground.data}],guard:=none},{dst:=some 11,op:=Op.call {callee:=Callee.builtin Builtin.append,args:= #[Operand.tmp 8,Operand.tmp 10],argTypes:= #[110,110]},type:=110,pos:= "iter.go:52",after:= #[{on:=0,ground:=Ground.data},{on:=2,ground:=Ground.data}],guard:=none},{dst:=none,op:=Op.store 110 (Operand.tmp 2) (Operand.tmp 11),type:=0,pos:= "iter.go:52",after:= #[{on:=3,ground:=Ground.data},{on:=3,ground:=Ground.chain},{on:=0,ground:=Ground.phase},{on:=1,ground:=Ground.phase},{on:=2,ground:=Ground.phase},{on:=3,ground:=Ground.phase}],guard:=none}] false))
def gX (fn:FuncId) (sv:Value) (Bs D:Nat) (st:LoopState) (pend:Option Code):Loop:=
 {state:=st,pending:=pend,fn,tmps:= #[.slice none 0 0,sv,.pointer (some ⟨Bs,0,none⟩),undef,.slice none 0 0,undef,sv,undef,undef,undef,undef,undef,undef],params:= #[7],assign:=oJ,body:=wX,defers:=D}
structure xY (w0:World) (fn:FuncId) (sv:Value) (Bs l D:Nat) (ss:List Nat) (W:World):Prop where
 box:∃v,W.heap[Bs]? =some (.cells #[v] 110 (0,0))∧W.ownsRow w0.heap.size 38 1 v ss.length (ss.map nQ)∧(v= .slice none 0 0↔ss=[])
 L:W.heap[l]? =some (.loop (gX fn sv Bs D .ready none))
 K:W.heap[D]? =some (.deferred (some []))
 below:Below w0.heap.size w0 W
theorem nU {W W':World} {row:Option Nat} {base:Nat} {e:TypeId} {size:Nat} {v:Value} {k:Nat} {xs:List Value} (h:W.ownsRow base e size v k xs) (hg:W.grownBy W' row)
 (hrow:∀r,row=some r→∃o:Obj,W.heap[r]? =some o∧o.isWalk=true):W'.ownsRow base e size v k xs:=by
 refine h.kept hg ?_
 rcases h.2 with⟨rfl,_⟩|⟨g,cap,cur,rfl,_,hgb,_⟩
 ·exact .inl rfl
 ·refine .inr fun e'=> ?_
  obtain⟨o,ho,hw⟩:=hrow g (by simpa[Value.ownBlock]using e'.symm)
  rw[hgb]at ho;cases ho;cases hw
theorem AZ (w0:World) (fn:FuncId) (sv:Value) (Bs l D B:Nat) (hB:w0.heap.size≤B):AbidesFrom B (xY w0 fn sv Bs l D):=fun s W W' row h hg hrow=>by
 have hrow':∀r,row=some r→∃o:Obj,W.heap[r]? =some o∧o.isWalk=true:=fun r e=>(hrow r e).2
 obtain⟨v,hv,hr,hn⟩:=h.box
 exact⟨⟨v,(grownBy_keeps hg hrow' hv rfl).trans hv,nU hr hg hrow',hn⟩,(grownBy_keeps hg hrow' h.L rfl).trans h.L,(grownBy_keeps hg hrow' h.K rfl).trans h.K,
  h.below.grown hg h.below.size (fun k e=>Nat.le_trans hB (hrow k e).1)⟩
theorem cD (W:World) (l:Nat) (o:Obj):W.grownBy (W.putObj l o) (some l):=
 ⟨rfl,rfl,rfl,by simp,fun k _ hk=>World.putObj_heap_other (fun e=>hk (by rw[e]))⟩
theorem mC (W:World) (b:Nat) (v:Value):W.grownBy (W.setCell ⟨b,0,none⟩ v) (some b):=
 ⟨rfl,rfl,rfl,(KeepsWalks.setCell W _ v).size,fun k _ hk=>Below.heap_setCell _ _ _ k (fun e=>hk (by rw[e]))⟩
theorem fB {W:World} {base:Nat} {e:TypeId} {size:Nat} {v:Value} {k:Nat} {xs:List Value} (h:W.ownsRow base e size v k xs) {j:Nat} {o:Obj} (hj:W.heap[j]? =some o) (hno:∀cur,o≠ .cells cur e (0,0)):
 v.ownBlock=none∨v.ownBlock≠some j:=by
 rcases h.2 with⟨rfl,_⟩|⟨g,cap,cur,rfl,_,hgb,_⟩
 ·exact .inl rfl
 ·refine .inr fun e'=> ?_
  have:g=j:=by simpa[Value.ownBlock]using e'
  subst this;rw[hgb]at hj;cases hj;exact hno cur rfl
theorem iQ {W:World} {B:Nat} {v:Value} {t:TypeId} (h:W.heap[B]? =some (.cells #[v] t (0,0))):W.cell? ⟨B,0,none⟩=some v∧W.frozen? ⟨B,0,none⟩=false:=by
 constructor<;>simp[World.cell?,World.frozen?,h]
theorem mA {W:World} {B:Nat} {v:Value} {t:TypeId} (v':Value) (h:W.heap[B]? =some (.cells #[v] t (0,0))):(W.setCell ⟨B,0,none⟩ v').heap[B]? =some (.cells #[v'] t (0,0)):=by
 obtain⟨hlt,hk⟩:=Array.getElem?_eq_some_iff.1 h
 show(W.heap.modify B _)[B]? =_
 rw[Array.getElem?_eq_getElem (by rw[Array.size_modify];exact hlt),Array.getElem_modify_self,hk]
 rfl
theorem mF {W:World} {base:Nat} {e:TypeId} {size:Nat} {v:Value} {k:Nat} {xs:List Value} (h:W.ownsRow base e size v k xs):∀(j:Nat) (o:Obj),v.ownBlock=some j→W.heap[j]? =some o→o.isWalk=false:=by
 intro j o hj ho
 rcases h.2 with⟨rfl,_⟩|⟨g,cap,cur,rfl,_,hgb,_⟩
 ·simp[Value.ownBlock]at hj
 ·have:g=j:=by simpa[Value.ownBlock]using hj
  subst this;rw[hgb]at ho;cases ho;rfl
theorem BW:(Tryz.prog.info? 38).map (fun i=>(i.zero,i.size,i.bytes))=some (some (.int .u32 0),1,4):=by kernel_rfl
set_option maxRecDepth 100000 in
theorem Ek (F:Fence) (m:Nat) (w0:World) (fn:FuncId) (hfn:F.fn fn) (sv:Value) (Bs l D:Nat) (hBl:Bs≠l) (hDl:D≠l) (hDB:D≠Bs) (h0B:w0.heap.size≤Bs) (h0l:w0.heap.size≤l)
 (N:Nat) (hN:N≤maxLen) (hNb:N*4≤140737488355328) (ss:List Nat) (x:Nat) (W:World) (h:xY w0 fn sv Bs l D ss W) (hlen:ss.length<N):
 YieldAt F m Tryz.prog l #[nQ x] W fun e W'=>e= .returned (.bool true)∧xY w0 fn sv Bs l D (ss++[x]) W'∧KeepsWalks W W':=by
 obtain⟨i0,hi,hz0,hz1,hz2⟩:=info_parts BW
 obtain⟨v,hv,hrow,_⟩:=h.box
 refine⟨fn,#[.slice none 0 0,sv,.pointer (some ⟨Bs,0,none⟩),undef,.slice none 0 0,undef,sv,nQ x,undef,undef,undef,undef,undef],oJ,wX,by simpa[gX]using run_yield (P:=Tryz.prog) (args:= #[nQ x]) h.L rfl,roundIn_of_wpIn hfn ?_⟩
 have hl:l<W.heap.size:=(Array.getElem?_eq_some_iff.1 h.L).1
 have hbr:=run_beginRound (P:=Tryz.prog) h.L rfl
 obtain⟨W2,hW2⟩:∃W2,W.putObj l (.loop {gX fn sv Bs D .ready none with state:= .busy})=W2:=⟨_,rfl⟩
 rw[hW2]at hbr
 have hg2:W.grownBy W2 (some l):=by rw[←hW2];exact cD _ _ _
 have hk2:KeepsWalks W W2:=by rw[←hW2];exact KeepsWalks.putObj _ h.L rfl
 have hv2:W2.heap[Bs]? =some (.cells #[v] 110 (0,0)):=by rw[←hW2];exact(World.putObj_heap_other hBl).trans hv
 have hK2:W2.heap[D]? =some (.deferred (some [])):=by rw[←hW2];exact(World.putObj_heap_other hDl).trans h.K
 have hL2:W2.heap[l]? =some (.loop {gX fn sv Bs D .ready none with state:= .busy}):=by rw[←hW2];exact World.putObj_heap_same hl
 have hrow2:W2.ownsRow w0.heap.size 38 1 v ss.length (ss.map nQ):=hrow.kept hg2 (fB hrow h.L (fun cur e=>by cases e))
 have hb2:Below w0.heap.size w0 W2:=h.below.grown hg2 h.below.size (fun k e=>by cases e;exact h0l)
 obtain⟨hc2,hf2⟩:=iQ hv2
 have hBlt:Bs<W2.heap.size:=(Array.getElem?_eq_some_iff.1 hv2).1
 have hl2:l<W2.heap.size:=(Array.getElem?_eq_some_iff.1 hL2).1
 have hDlt:D<W2.heap.size:=(Array.getElem?_eq_some_iff.1 hK2).1
 have ne_of:∀{j:Nat} {o:Obj},W2.heap[j]? =some o→(∀cur,o≠ .cells cur 38 (0,0))→some j≠v.ownBlock:=fun hj hno=>by
  rcases fB hrow2 hj hno with e|e
  ·rw[e];simp
  ·exact fun e'=>e e'.symm
 clear hW2
 unfold oJ
 gi_wp2_with (rw[Oper.semAt_eq _ _ _ (fun c h=>by cases h)];go_simp;try go_bits)
 unfold wX
 gi_wp2_with (first|(gi_at_builtin;refine wpListIn_append_own _ rfl _ _ 110 rfl w0.heap.size 38 i0 (.int .u32 0) 1 4 Tryz.underlying110 hi hz0 hz1 hz2 rfl (by decide) _ _ _ rfl (hrow2.alloc _) ⟨W2.heap.size,0,none⟩ 1 1 [nQ x] rfl rfl (cell_one_new _ _ _) (by simp[Value.oneCell',nQ]) (by omega) (by omega) (by have:=hb2.size;simp;omega) ?_;intro v' w3 hown' hg3 hnil3;have hv3:w3.heap[Bs]? =some (.cells #[v] 110 (0,0)):=(hg3.block Bs (by simp;omega) (ne_of hv2 (fun cur e=>by cases e))).trans ((Below.heap_alloc _ _ Bs hBlt).trans hv2);obtain⟨hc3,hf3⟩:=iQ hv3;obtain⟨g',cap',cur',rfl,hbase',hgb',hr1,hr2,hr3,hr4⟩:∃g' cap' cur',v'= .slice (some ⟨g',0,none⟩) (ss.length+1) cap'∧w0.heap.size≤g'∧w3.heap[g']? =some (.cells cur' 38 (0,0))∧ss.length+1≤cap'∧cap'≤maxLen∧cur'.size=cap'*1∧cur'.toList.take ((ss.length+1)*1)=ss.map nQ++[nQ x]:=hown'.2.elim (fun h0=>absurd h0.2 (by omega)) id;go_frame)|(rw[Oper.semAt_eq _ _ _ (fun c h=>by cases h)];go_simp;try go_bits))
 have hg3':(W2.alloc (.cells #[nQ x] 38)).grownBy w3 v.ownBlock:=hg3
 have hL3:w3.heap[l]? =some (.loop {gX fn sv Bs D .ready none with state:= .busy}):=(hg3'.block l (by simp;omega) (ne_of hL2 (fun cur e=>by cases e))).trans ((Below.heap_alloc _ _ l hl2).trans hL2)
 have hK3:w3.heap[D]? =some (.deferred (some [])):=(hg3'.block D (by simp;omega) (ne_of hK2 (fun cur e=>by cases e))).trans ((Below.heap_alloc _ _ D hDlt).trans hK2)
 obtain⟨w4,hw4⟩:∃w4,w3.setCell ⟨Bs,0,none⟩ (.slice (some ⟨g',0,none⟩) (ss.length+1) cap')=w4:=⟨_,rfl⟩
 rw[hw4]
 have hg4:w3.grownBy w4 (some Bs):=by rw[←hw4];exact mC _ _ _
 have hv4:w4.heap[Bs]? =some (.cells #[.slice (some ⟨g',0,none⟩) (ss.length+1) cap'] 110 (0,0)):=by rw[←hw4];exact mA _ hv3
 have hL4:w4.heap[l]? =some (.loop {gX fn sv Bs D .ready none with state:= .busy}):=(hg4.block l (Array.getElem?_eq_some_iff.1 hL3).1 (fun e=>hBl (by cases e;rfl))).trans hL3
 have hK4:w4.heap[D]? =some (.deferred (some [])):=(hg4.block D (Array.getElem?_eq_some_iff.1 hK3).1 (fun e=>hDB (by cases e;rfl))).trans hK3
 have hrow4:=hown'.kept hg4 (fB hown' hv3 (fun cur e=>by cases e))
 have hl4:l<w4.heap.size:=(Array.getElem?_eq_some_iff.1 hL4).1
 have hb3:Below w0.heap.size w0 w3:=(hb2.alloc hb2.size _).grown hg3' (by have:=hb2.size;simp;omega) (fun k e=>(hrow2.lt k e).1)
 have hb4:Below w0.heap.size w0 w4:=hb3.grown hg4 hb3.size (fun k e=>by cases e;exact h0B)
 have hk4:KeepsWalks W w4:=((hk2.trans (KeepsWalks.alloc _ _)).trans (KeepsWalks.of_grownBy hg3' (mF (hrow2.alloc _)))).trans (by rw[←hw4];exact KeepsWalks.setCell _ _ _)
 clear hw4
 refine⟨_,_,run_endRound none hL4,rfl,⟨⟨_,(World.putObj_heap_other hBl).trans hv4,?_,by simp⟩,World.putObj_heap_same hl4,(World.putObj_heap_other hDl).trans hK4,hb4.grown (cD _ _ _) hb4.size (fun k e=>by cases e;exact h0l)⟩,hk4.trans (KeepsWalks.putObj _ hL4 rfl)⟩
 have:=hrow4.kept (cD w4 l (.loop {{gX fn sv Bs D .ready none with state:= .busy}with state:=if(none:Option Code).isNone then .ready else .done,pending:=none})) (fB hrow4 hL4 (fun cur e=>by cases e))
 simpa using this
set_option maxRecDepth 100000 in
theorem tJ (F:Fence) (n:Nat) (h11:F.fn 194) (hro:F.round=none) (hn:2≤n) (g:Nat) (lb:Array Value) (hFg:F.fn g) (eg:∀args w,(callFunc g args).run Tryz.prog w= .ok (.enter g args) w)
 (S:List Nat→Prop) (N:Nat) (hN:N≤maxLen) (hNb:N*4≤140737488355328) (w:World) (hseq:SeqGives F (n-1) Tryz.prog g lb nQ S N w):
 CallsIn F n Tryz.prog 194 #[.slice none 0 0,.func (.func g) #[] lb] w fun e w'=>∃(v:Value) (ss:List Nat),e= .returned v∧S ss∧w'.ownsRow w.heap.size 38 1 v ss.length (ss.map nQ)∧(v= .slice none 0 0↔ss=[])∧Below w.heap.size w w':=by
 have h1:1≤n:=by omega
 refine callsIn_of_wp_marks Tryz.func194 rfl h11 ?_ hro
 simp only[Tryz.ntmps194,List.size_toArray,List.length_cons,List.length_nil,Nat.reduceAdd,Nat.reduceSub,Array.replicate_succ,Array.replicate_zero,List.push_toArray,List.append_toArray,List.nil_append,List.cons_append]
 gi_wp2
 refine wpIn_rangeFunc ?_
 intro fn hfn
 rw[hro]
 obtain⟨W0,hW0⟩:∃W0,w.alloc (.cells #[.slice none 0 0] 110)=W0:=⟨_,rfl⟩
 have hs0:W0.heap.size=w.heap.size+1:=by rw[←hW0];simp
 have hv0:W0.heap[w.heap.size]? =some (.cells #[.slice none 0 0] 110 (0,0)):=by rw[←hW0];exact World.alloc_heap_new w _
 have hb0:Below w.heap.size w W0:=by rw[←hW0];exact(Below.refl _ w).alloc (Nat.le_refl _) _
 rw[hW0]
 obtain⟨W1,hW1⟩:∃W1,(W0.alloc (.deferred (some []))).alloc (.loop (gX fn (.func (.func g) #[] lb) w.heap.size W0.heap.size .ready none))=W1:=⟨_,rfl⟩
 have hold:∀k,k<W0.heap.size→W1.heap[k]? =W0.heap[k]? :=fun k hk=>by
  rw[←hW1];exact(Below.heap_alloc _ _ k (by simp;omega)).trans (Below.heap_alloc _ _ k hk)
 have hb1:Below w.heap.size w W1:=by rw[←hW1];exact(hb0.alloc hb0.size _).alloc (by have:=hb0.size;simp;omega) _
 have hs1:W1.heap.size=W0.heap.size+2:=by rw[←hW1];simp
 have hM:xY w fn (.func (.func g) #[] lb) w.heap.size (W0.heap.size+1) W0.heap.size [] W1:=
  ⟨⟨_,(hold w.heap.size (by omega)).trans hv0,⟨rfl,.inl ⟨rfl,rfl⟩⟩,by simp⟩,
   by rw[←hW1];have:=World.alloc_heap_new (W0.alloc (.deferred (some []))) (.loop (gX fn (.func (.func g) #[] lb) w.heap.size W0.heap.size .ready none));rwa [World.size_alloc]at this,
   by rw[←hW1];exact(Below.heap_alloc _ _ _ (by simp)).trans (World.alloc_heap_new W0 _),hb1⟩
 refine⟨W0.heap.size+1,[{target:= .collected W0.heap.size,args:= #[]}],W1,{target:= .fn (.func g) lb,args:= #[.func (.yield (W0.heap.size+1)) #[] #[]]},W1,g,
  #[.func (.yield (W0.heap.size+1)) #[] #[]]++lb,W1,?_,?_,?_,?_,fun _=>h1,?_⟩
 ·rw[←hW1];exact run_enterLoop_outer _ _ _ _ _
 ·simp[resolve,go_sem]
 ·intro f' hf';simp[Target.leads]at hf';subst hf';exact hFg
 ·simp[invoke,go_sem,eg]
 ·refine(hseq (W0.heap.size+1) (xY w fn (.func (.func g) #[] lb) w.heap.size (W0.heap.size+1) W0.heap.size) W1 hb1 (AZ _ _ _ _ _ _ _ hb1.size)
   (fun pre x W hJ hl=>Ek F (n-1-1) w fn hfn _ w.heap.size (W0.heap.size+1) W0.heap.size (by omega) (by omega) (by omega) (Nat.le_refl _) (by omega) N hN hNb pre x W hJ hl) hM).mono ?_
  rintro e W2 ⟨⟨v0,rfl⟩,ss,hS,h2⟩
  obtain⟨v,hv,hrow,hnil⟩:=h2.box
  have hend:=run_endLoop (P:=Tryz.prog) h2.L (by simp[gX])
  obtain⟨W3,hW3⟩:∃W3,W2.putObj (W0.heap.size+1) (.loop {gX fn (.func (.func g) #[] lb) w.heap.size W0.heap.size .ready none with state:= .exhausted})=W3:=⟨_,rfl⟩
  rw[hW3]at hend
  have hg3:W2.grownBy W3 (some (W0.heap.size+1)):=by rw[←hW3];exact cD _ _ _
  have hv3:W3.heap[w.heap.size]? =some (.cells #[v] 110 (0,0)):=by rw[←hW3];exact(World.putObj_heap_other (by omega)).trans hv
  have hK3:W3.heap[W0.heap.size]? =some (.deferred (some [])):=by rw[←hW3];exact(World.putObj_heap_other (by omega)).trans h2.K
  have hrow3:=hrow.kept hg3 (fB hrow h2.L (fun cur e=>by cases e))
  have hb3:Below w.heap.size w W3:=h2.below.grown hg3 h2.below.size (fun k e=>by cases e;omega)
  obtain⟨hc3,hf3⟩:=iQ hv3
  clear hW3
  refine⟨none,W3,hend,?_⟩
  gi_wp2
  rw[←hs0]
  refine⟨by simp,.inl ⟨_,_,rfl,run_takeDeferred hK3,?_⟩⟩
  exact⟨_,results_tmp rfl _ _ _,v,ss,rfl,hS,hrow3.kept (cD _ _ _) (fB hrow3 hK3 (fun cur e=>by cases e)),hnil,hb3.grown (cD _ _ _) hb3.size (fun k e=>by cases e;omega)⟩
theorem yP (F:Fence) (n:Nat) (h8:F.fn 133) (h11:F.fn 194) (hro:F.round=none) (hn:3≤n) (g:Nat) (lb:Array Value) (hFg:F.fn g) (eg:∀args w,(callFunc g args).run Tryz.prog w= .ok (.enter g args) w)
 (S:List Nat→Prop) (N:Nat) (hN:N≤maxLen) (hNb:N*4≤140737488355328) (w:World) (hseq:SeqGives F (n-1-1) Tryz.prog g lb nQ S N w):
 CallsIn F n Tryz.prog 133 #[.func (.func g) #[] lb] w fun e w'=>∃(v:Value) (ss:List Nat),e= .returned v∧S ss∧w'.ownsRow w.heap.size 38 1 v ss.length (ss.map nQ)∧(v= .slice none 0 0↔ss=[])∧Below w.heap.size w w':=by
 have h1:1≤n:=by omega
 refine callsIn_of_wp Tryz.func133 rfl h8 ?_ hro
 simp only[Tryz.ntmps133,List.size_toArray,List.length_cons,List.length_nil,Nat.reduceAdd,Nat.reduceSub,Array.replicate_succ,Array.replicate_zero,List.push_toArray,List.append_toArray,List.nil_append,List.cons_append]
 gi_wp2_with (gi_at_call 194;refine(tJ F (n-1) h11 hro (by omega) g lb hFg eg S N hN hNb _ hseq).mono ?_;rintro e w' ⟨v,ss,rfl,hS,hrow,hnil,hb⟩)
 go_ret
 exact⟨v,ss,rfl,hS,hrow,hnil,hb⟩
theorem D3 (F:Fence) (n:Nat) (h7:F.fn 73) (hro:F.round=none) (mb:Option Nat) (w:World):
 CallsIn F n Tryz.prog 73 #[.map mb] w fun e w'=>e= .returned (.func (.func 135) #[] #[.pointer (some ⟨w.heap.size,0,none⟩)])∧w'=w.alloc (.cells #[.map mb] 97):=by
 refine callsIn_of_wp Tryz.func73 rfl h7 ?_ hro
 simp only[Tryz.ntmps73,List.size_toArray,List.length_cons,List.length_nil,Nat.reduceAdd,Nat.reduceSub,Array.replicate_succ,Array.replicate_zero,List.push_toArray,List.append_toArray,List.nil_append,List.cons_append]
 gi_wp2
 go_ret
 exact⟨rfl,rfl⟩
end Go.Proofs.YtcbkaiakdhiloacGreatDoor
namespace Go.Proofs.YtcbkaiakdhiloacGreatDoor
open Go.RowKit Go.Proofs Go.Maps
attribute [local simp] ibq ibn eqN ltN leN eqL ltL gtL leL geL
def at0 (c:List Nat) (p:Nat):Nat:=c.getD p 0
theorem Er (c:List Nat) (a v p:Nat) (h:a<c.length):at0 (c.set a v) p=if p=a then v else at0 c p:=by
 unfold at0
 rw[List.getD_eq_getElem?_getD,List.getD_eq_getElem?_getD,List.getElem?_set]
 by_cases hp:a=p
 ·subst hp;simp[h]
 ·rw[if_neg hp,if_neg (fun e=>hp e.symm)]
def Srt (c:List Nat) (m:Nat):Prop:=∀p q,p<q→q<m→at0 c p≤at0 c q
def GP (c:List Nat) (i j:Nat):Prop:=(∀p q,p<q→q≤i→p≠j→q≠j→at0 c p≤at0 c q)∧(∀q,j<q→q≤i→at0 c j≤at0 c q)
theorem GP.start {c:List Nat} {i:Nat} (h:Srt c i):GP c i i:=⟨fun p q h1 h2 h3 h4=>h p q h1 (by omega),fun q h1 h2=>by omega⟩
theorem GP.done {c:List Nat} {i j:Nat} (h:GP c i j) (hj:j≤i) (he:j=0∨at0 c (j-1)≤at0 c j):Srt c (i+1):=by
 intro p q h1 h2
 by_cases hp:p=j
 ·subst hp;exact h.2 q h1 (by omega)
 ·by_cases hq:q=j
  ·subst hq
   rcases he with he|he
   ·omega
   ·by_cases hp':p=q-1
    ·subst hp';exact he
    ·exact Nat.le_trans (h.1 p (q-1) (by omega) (by omega) hp (by omega)) he
  ·exact h.1 p q h1 (by omega) hp hq
theorem GP.swap {c:List Nat} {i k:Nat} (h:GP c i (k+1)) (hk:k+1≤i) (hi:i<c.length) (hlt:at0 c (k+1)<at0 c k):GP ((c.set (k+1) (at0 c k)).set k (at0 c (k+1))) i k:=by
 have e:∀p,at0 ((c.set (k+1) (at0 c k)).set k (at0 c (k+1))) p=if p=k then at0 c (k+1)else if p=k+1 then at0 c k else at0 c p:=fun p=>by
  rw[Er _ _ _ _ (by rw[List.length_set];omega),Er _ _ _ _ (by omega)]
 constructor
 ·intro p q h1 h2 h3 h4
  rw[e,e,if_neg h3,if_neg h4]
  by_cases hp:p=k+1
  ·rw[if_pos hp]
   by_cases hq:q=k+1
   ·omega
   ·rw[if_neg hq];exact h.1 k q (by omega) h2 (by omega) hq
  ·rw[if_neg hp]
   by_cases hq:q=k+1
   ·rw[if_pos hq];exact h.1 p k (by omega) (by omega) hp (by omega)
   ·rw[if_neg hq];exact h.1 p q h1 h2 hp hq
 ·intro q h1 h2
  rw[e,e,if_pos rfl,if_neg (by omega)]
  by_cases hq:q=k+1
  ·rw[if_pos hq];omega
  ·rw[if_neg hq];exact h.2 q (by omega) h2
theorem E4 (c:List Nat) (a b:Nat) (ha:a<c.length) (hb:b<c.length):((c.set a (at0 c b)).set b (at0 c a)).Perm c:=by
 have h1:at0 c b=c[b]:=by unfold at0;rw[List.getD_eq_getElem?_getD,List.getElem?_eq_getElem hb];rfl
 have h2:at0 c a=c[a]:=by unfold at0;rw[List.getD_eq_getElem?_getD,List.getElem?_eq_getElem ha];rfl
 rw[h1,h2]
 exact List.set_set_perm ha hb
theorem JM {c:List Nat} (h:Srt c c.length):c.Pairwise (· ≤·):=by
 rw[List.pairwise_iff_getElem]
 intro i j hi hj hij
 have:=h i j hij hj
 unfold at0 at this
 rw[List.getD_eq_getElem?_getD,List.getD_eq_getElem?_getD,List.getElem?_eq_getElem hi,List.getElem?_eq_getElem hj]at this
 exact this
theorem nO:∀(a b:List Nat),a.Pairwise (· ≤·)→b.Pairwise (· ≤·)→a.Perm b→a=b
 |[],b,_,_,h=>(List.nil_perm.1 h).symm▸rfl
 |x::a,[],_,_,h=>by have:=h.length_eq;cases this
 |x::a,y::b,ha,hb,h=>by
  rw[List.pairwise_cons]at ha hb
  have hx:x∈y::b:=h.mem_iff.1 (by simp)
  have hy:y∈x::a:=h.mem_iff.2 (by simp)
  have:x=y:=by
   simp only[List.mem_cons]at hx hy
   rcases hx with rfl|hx
   ·rfl
   ·rcases hy with rfl|hy
    ·rfl
    ·have:=ha.1 y hy;have:=hb.1 x hx;omega
  subst this
  rw[nO a b ha.2 hb.2 h.cons_inv]
theorem rS (x:Nat):∀l:List Nat,(IV x l).Perm (x::l)
 |[]=>List.Perm.refl _
 |y::r=>by
  unfold IV
  split
  ·exact List.Perm.refl _
  ·exact((rS x r).cons y).trans (List.Perm.swap x y r)
theorem Fk (x:Nat):∀l:List Nat,l.Pairwise (· ≤·)→(IV x l).Pairwise (· ≤·)
 |[],_=>by simp[IV]
 |y::r,h=>by
  unfold IV
  rw[List.pairwise_cons]at h
  split
  ·next hxy=>exact List.pairwise_cons.2 ⟨fun z hz=>by rcases List.mem_cons.1 hz with rfl|hz;exact hxy;exact Nat.le_trans hxy (h.1 z hz),List.pairwise_cons.2 h⟩
  ·next hxy=>
   refine List.pairwise_cons.2 ⟨fun z hz=> ?_,Fk x r h.2⟩
   rcases List.mem_cons.1 ((rS x r).mem_iff.1 hz)with rfl|hz
   ·omega
   ·exact h.1 z hz
theorem eO:∀l:List Nat,(lL l).Perm l
 |[]=>List.Perm.refl _
 |x::r=>(rS x _).trans ((eO r).cons x)
theorem kU:∀l:List Nat,(lL l).Pairwise (· ≤·)
 |[]=>List.Pairwise.nil
 |x::r=>Fk x _ (kU r)
def UA (w:World) (g:Nat) (c:List Nat):Prop:=∃cur,Bk w g 38 cur∧c.length≤cur.size∧∀(j x:Nat),c[j]? =some x→cur[j]? =some (nQ x)
theorem UA.get {w:World} {g:Nat} {c:List Nat} (h:UA w g c) {j:Nat} (hj:j<c.length):w.cell? ⟨g,j,none⟩=some (.int .u32 (at0 c j:Int)):=by
 obtain⟨cur,h1,h2,h3⟩:=h
 have:=h3 j (at0 c j) (by unfold at0;rw[List.getD_eq_getElem?_getD,List.getElem?_eq_getElem hj];rfl)
 exact(h1.cell j).trans this
theorem UA.fr {w:World} {g:Nat} {c:List Nat} (h:UA w g c) (j:Nat):w.frozen? ⟨g,j,none⟩=false:=by obtain⟨cur,h1,_⟩:=h;exact h1.free j
theorem UA.lt {w:World} {g:Nat} {c:List Nat} (h:UA w g c):g<w.heap.size:=by obtain⟨cur,h1,_⟩:=h;exact h1.lt
theorem UA.set {w:World} {g:Nat} {c:List Nat} (h:UA w g c) {j:Nat} (y:Nat) (hj:j<c.length):UA (w.setCell ⟨g,j,none⟩ (.int .u32 (y:Int))) g (c.set j y):=by
 obtain⟨cur,h1,h2,h3⟩:=h
 refine⟨_,h1.set j _,by simp;omega,fun i x hx=> ?_⟩
 rw[List.getElem?_set]at hx
 by_cases hi:j=i
 ·subst hi
  rw[if_pos rfl,if_pos hj]at hx
  cases hx
  rw[Array.getElem?_setIfInBounds_self_of_lt (by omega)]
 ·rw[if_neg hi]at hx
  rw[Array.getElem?_setIfInBounds_ne hi]
  exact h3 i x hx
theorem UA.keep {w w':World} {S:Nat→Prop} {g:Nat} {c:List Nat} (h:UA w g c) (hf:Fr S w w') (hg:¬S g):UA w' g c:=by
 obtain⟨cur,h1,h2⟩:=h;exact⟨cur,h1.keep hf hg,h2⟩
def SA (w:World) (A:Option Addr) (c:List Nat):Prop:=c=[]∨∃g,A=some ⟨g,0,none⟩∧UA w g c
def oA (A:Option Addr) (b:Nat):Prop:=A=some ⟨b,0,none⟩
instance (g:Nat) (c:List Nat):Kp0 fun w=>UA w g c:=⟨fun _ _ h f=>h.keep f id⟩
theorem SA.keep {w w':World} {A:Option Addr} {c:List Nat} (h:SA w A c) (f:Fr noB w w'):SA w' A c:=h.imp id fun⟨g,e,h⟩=>⟨g,e,h.keep f id⟩
instance (A:Option Addr) (c:List Nat):Kp0 fun w=>SA w A c:=⟨fun _ _ h f=>h.keep f⟩
theorem KX (w:World) (g j:Nat) (v:Value):Fr (oA (some ⟨g,0,none⟩)) w (w.setCell ⟨g,j,none⟩ v):=(Fr.refl (oA (some ⟨g,0,none⟩)) w).setCell (p:=⟨g,j,none⟩) (fun _=>rfl) v
theorem K5 (a b:Nat) (w:World):Calls Tryz.prog 244 #[.int .u32 (a:Int),.int .u32 (b:Int)] w fun e w'=>e= .returned (.bool (decide (a<b)))∧w=w':=by
 have hn:∀a:Nat,Calls Tryz.prog 277 #[.int .u32 (a:Int)] w fun e w'=>e= .returned (.bool false)∧w=w':=fun a=>by
  refine en Tryz.func277 Tryz.ntmps277 ?_
  refine W ?_
  exact⟨rfl,rfl⟩
 refine en Tryz.func244 Tryz.ntmps244 ?_
 refine W ?_
 refine sC (hn a) ?_
 rintro w2 rfl
 refine W ?_
 exact⟨rfl,rfl⟩
theorem IN (A:Option Addr) (n cap:Nat) (c0:List Nat) (w:World) (hn:c0.length=n) (hcap:n≤cap) (hnb:n≤1000) (hU:SA w A c0):
 Calls Tryz.prog 238 #[.slice A n cap,.int .i64 0,.int .i64 (n:Int)] w fun e w'=>e= .returned (.tuple #[])∧SA w' A (lL c0)∧Fr (oA A) w w':=by
 refine en Tryz.func238 Tryz.ntmps238 ?_
 refine W ?_
 refine cL (fun i=>n+1-i.1) (fun(i:Nat×List Nat)=>[(0,.slice A n cap),(1,.int .i64 0),(2,.int .i64 (n:Int)),(6,.int .i64 (i.1:Int))]) (fun i w'=>1≤i.1∧(i.1≤n∨i.1=1)∧SA w' A i.2∧i.2.Perm c0∧Srt i.2 i.1∧Fr (oA A) w w') (1,c0) (mt (p:=True) trivial).1 ⟨Nat.le_refl _,.inr rfl,hU,List.Perm.refl _,fun p q h1 h2=>by dsimp only at h2;omega,Fr.refl _ _⟩ ?_
 rintro⟨i,c⟩ u w1 ⟨hi1,hi2,hU1,hp,hsr,hf1⟩
 dsimp only at hi1 hi2 hU1 hp hsr⊢
 refine W ?_
 by_cases hlt:i<n
 rotate_left
 ·refine W ?_
  have he:lL c0=c:=(nO c (lL c0) (JM fun p q h1 h2=>hsr p q h1 (by have:=hp.length_eq;omega)) (kU c0) (hp.trans (eO c0).symm)).symm
  exact⟨rfl,he▸hU1,hf1⟩
 refine W ?_
 refine cL (fun i=>i.1) (fun(x:Nat×List Nat)=>[(0,.slice A n cap),(1,.int .i64 0),(2,.int .i64 (n:Int)),(6,.int .i64 (i:Int)),(7,.int .i64 (x.1:Int))]) (fun x w'=>x.1≤i∧SA w' A x.2∧x.2.Perm c0∧GP x.2 i x.1∧Fr (oA A) w w') (i,c) (mt (p:=True) trivial).1 ⟨Nat.le_refl _,hU1,hp,GP.start hsr,hf1⟩ ?_
 rintro⟨j,d⟩ u2 w2 ⟨hj,hU2,hp2,hg,hf2⟩
 dsimp only at hj hU2 hp2 hg⊢
 clear hU1 hp hsr hf1
 have hl2:d.length=n:=hp2.length_eq.trans hn
 obtain⟨b,hb⟩:∃b,b=decide (0<j∧at0 d j<at0 d (j-1)):=⟨_,rfl⟩
 refine cS (cS ?_)
 refine cM [0,1,2,6,7] [(30,.bool b)] (fun w'=>SA w' A d∧Fr noB w2 w') ?_ ?_
 ·rcases Nat.eq_zero_or_pos j with h0|h0
  ·subst h0
   subst hb
   refine dI hU2 [] (up 15 0) (h:= ?_)
   intro w3 hU3 f3
   refine D ?_
   refine tN ?_
   exact mt ⟨hU3,f3⟩
  ·rcases hU2 with rfl|⟨g,rfl,hU2⟩
   ·simp at hl2;omega
   obtain⟨k,hk⟩:∃k,j-1=k:=⟨_,rfl⟩
   have q:IntKind.i64.wrap ((j:Int)-1)=(k:Int):=(IntWalk.i64_in _ (by omega)).trans (by omega)
   have hkn:k<n:=by omega
   have hkd:k<d.length:=by omega
   have hjd:j<d.length:=by omega
   have hjn:j<n:=by omega
   refine dI hU2 [] (up 15 0) (h:= ?_)
   intro w3 hU3 f3
   refine D ?_
   refine dQ (v:= .int .u32 (at0 d j:Int)) ?_ ?_
   ·intro w' hS;have g1:=hS.get hjd;go_simp
   refine D ?_
   refine dQ (v:= .int .u32 (at0 d k:Int)) ?_ ?_
   ·intro w' hS;have g1:=hS.get hkd;go_simp
   refine D ?_
   refine dC (K5 _ _ _) ?_ ?_
   ·rintro _ rfl;exact hU3
   rintro _ rfl _
   refine D ?_
   refine tN ?_
   have hb:b=decide (at0 d j<at0 d k):=by rw[hb,hk];simp[h0]
   subst hb
   exact mt ⟨.inr ⟨g,rfl,hU3⟩,f3⟩
 rintro u3 w3 ⟨hU3,f3⟩
 refine cC (fun e=> ?_) fun e=> ?_
 ·obtain⟨h0,hlt⟩:=of_decide_eq_true (hb.symm.trans e)
  rcases hU3 with rfl|⟨g,rfl,hU3⟩
  ·simp at hl2;omega
  obtain⟨k,hk⟩:∃k,j-1=k:=⟨_,rfl⟩
  have q:IntKind.i64.wrap ((j:Int)-1)=(k:Int):=(IntWalk.i64_in _ (by omega)).trans (by omega)
  have hkn:k<n:=by omega
  have hkd:k<d.length:=by omega
  have hjd:j<d.length:=by omega
  have hjn:j<n:=by omega
  clear hb e hU2
  refine W ?_
  refine dI hU3 [15,17] [0,1,2,3,4,5,6,7,8,10,11,12,9,13,14,15,16,17] (h:= ?_)
  intro w4 hU4 f4
  refine D ?_
  refine dQ (v:= .int .u32 (at0 d k:Int)) ?_ ?_
  ·intro w' hS;have g1:=hS.get hkd;go_simp
  refine dQ (v:= .int .u32 (at0 d j:Int)) ?_ ?_
  ·intro w' hS;have g1:=hS.get hjd;go_simp
  refine D ?_
  have z4:=hU4.fr
  have g4:=hU4.get hjd
  refine dS ?_
  have hU5:=hU4.set (at0 d k) hjd
  have f5:=KX w4 g j (.int .u32 (at0 d k:Int))
  generalize w4.setCell ⟨g,j,none⟩ (.int .u32 (at0 d k:Int))=w5 at*
  refine D ?_
  have z5:=hU5.fr
  have g5:=hU5.get (j:=k) (by rw[List.length_set];exact hkd)
  refine dS ?_
  have hU6:=hU5.set (j:=k) (at0 d j) (by rw[List.length_set];exact hkd)
  have f6:=KX w5 g k (.int .u32 (at0 d j:Int))
  refine D ?_
  refine W ?_
  refine⟨(k,_),(mt (p:=True) trivial).1,⟨by show k≤i;omega,.inr ⟨g,rfl,hU6⟩,?_,?_,hf2.trans (((f3.trans f4).of_no _).trans (f5.trans f6))⟩,by show k<j;omega⟩
  ·exact(E4 d j k hjd hkd).trans hp2
  ·have hjk:j=k+1:=by omega
   subst hjk
   exact hg.swap hj (by omega) hlt
 ·refine W ?_
  rw[show IntKind.i64.wrap ((i:Int)+1)=((i+1:Nat):Int)from(IntWalk.i64_in _ (by omega)).trans (by omega)]
  refine⟨(i+1,d),(mt (p:=True) trivial).1,⟨by show 1≤i+1;omega,.inl (by show i+1≤n;omega),hU3,hp2,hg.done hj ?_,hf2.trans (f3.of_no _)⟩,by show n+1-(i+1)<n+1-i;omega⟩
  have:=of_decide_eq_false (hb.symm.trans e)
  omega
theorem Df (A:Option Addr) (n cap:Nat) (c0:List Nat) (w:World) (hn:c0.length=n) (hcap:n≤cap) (hnb:n≤12) (hU:SA w A c0):
 Calls Tryz.prog 134 #[.slice A n cap] w fun e w'=>e= .returned (.tuple #[])∧SA w' A (lL c0)∧Fr (oA A) w w':=by
 have hpd:∀lim:Int,Calls Tryz.prog 195 #[.slice A n cap,.int .i64 0,.int .i64 (n:Int),.int .i64 lim] w fun e w'=>e= .returned (.tuple #[])∧SA w' A (lL c0)∧Fr (oA A) w w':=fun lim=>by
  refine en Tryz.func195 Tryz.ntmps195 ?_
  refine W ?_
  refine cL (fun _=>0) (fun(_:Unit)=>[(0,.slice A n cap),(1,.int .i64 0),(2,.int .i64 (n:Int))]) (fun _ w'=>w'=w) () (mt (p:=True) trivial).1 rfl ?_
  rintro _ u _ rfl
  refine W ?_
  rw[show IntKind.i64.wrap (n:Int)=(n:Int)from IntWalk.i64_in _ (by omega)]
  refine W ?_
  refine sC (IN A n cap c0 _ hn hcap (by omega) hU) ?_
  intro w' h
  refine W ?_
  exact⟨rfl,h⟩
 refine en Tryz.func134 Tryz.ntmps134 ?_
 refine W ?_
 rw[show IntKind.u64.wrap (n:Int)=(n:Int)from IntWalk.u64_in _ (by omega)]
 refine sX (Tryz.bits_Len (n:Int) w (by omega) (by omega)) ?_
 rintro e w ⟨rfl,rfl⟩
 refine⟨_,rfl,?_⟩
 refine W ?_
 refine sC (hpd _) ?_
 intro w' h
 refine W ?_
 exact⟨rfl,h⟩
theorem CF (Bm b:Nat) (l:List bD) (w:World) (hBm:w.cell? ⟨Bm,0,none⟩=some (.map (some b))) (hBl:Bm<w.heap.size) (hm:fD w b l) (hl:l.length≤4):
 Calls Tryz.prog 72 #[.func (.func 135) #[] #[.pointer (some ⟨Bm,0,none⟩)]] w fun e w'=>
  ∃A cap,e= .returned (.slice A l.length cap)∧SlR w' (fun k=>k<w.heap.size) 1 A l.length ((lL (l.map (·.ip))).map nQ)∧Fr noB w w':=by
 obtain⟨D,hown,hrep⟩:=hm
 have hsz:Maps.size D≤4:=by rw[hrep.size];exact hl
 have hseq:SeqGives Fence.wide 1 Tryz.prog 135 #[.pointer (some ⟨Bm,0,none⟩)] nQ (fun ss=>ss.Perm (l.map (·.ip))) (Maps.size D) w:=
  zN Fence.wide 1 trivial rfl (by omega) Bm b _ D l hrep w hBl hBm hown
 have hcol:=callsIn_wide.1 (yP Fence.wide 3 trivial trivial rfl (by omega) 135 #[.pointer (some ⟨Bm,0,none⟩)] trivial (enters_of Tryz.func135 (by kernel_rfl) rfl) _ (Maps.size D) (by unfold maxLen;omega) (by omega) w hseq)
 have Hcol:=Lib.hid hcol
 clear hcol hseq
 refine en Tryz.func72 Tryz.ntmps72 ?_
 refine W ?_
 refine sX Hcol.out ?_
 rintro e w2 ⟨v,ss,rfl,hp,hrow,hnil,hbel⟩
 refine⟨_,rfl,?_⟩
 have hlen:ss.length=l.length:=hp.length_eq.trans (List.length_map ..)
 have hF2:Fr noB w w2:=⟨hbel.os,hbel.tape,hbel.output,hbel.size,fun k hk _=>hbel.block k hk⟩
 have hso:lL ss=lL (l.map (·.ip)):=nO _ _ (kU _) (kU _) ((eO _).trans (hp.trans (eO _).symm))
 have hn:ss.length=l.length:=hlen
 obtain⟨A,cap,hv,hcap,hSA,hA⟩:∃A cap,v= .slice A l.length cap∧l.length≤cap∧SA w2 A ss∧∀b,oA A b→w.heap.size≤b:=by
  rcases hrow.2 with⟨hv,h0⟩|⟨g,cap,cur,hv,hbg,hgb,hr1,hr2,hr3,hr4⟩
  ·have hl0:l.length=0:=by omega
   have hs0:ss=[]:=List.eq_nil_of_length_eq_zero (by omega)
   exact⟨none,0,by rw[hl0];exact hv,by omega,.inl hs0,fun b hb=>by cases hb⟩
  ·rw[hn]at hv hr1
   refine⟨_,cap,hv,hr1,.inr ⟨g,rfl,cur,hgb,by omega,fun j x hx=> ?_⟩,fun b hb=>by cases hb;exact hbg⟩
   have hj:j<ss.length:=by rcases Nat.lt_or_ge j ss.length with h|h;exact h;rw[List.getElem?_eq_none h]at hx;cases hx
   have h1:=congrArg (fun z=>z[j]?) hr4
   simp only[Nat.mul_one,List.getElem?_take,List.getElem?_map,hx,Option.map_some]at h1
   rw[if_pos hj]at h1
   rw[←h1,Array.getElem?_toList]
 subst hv
 clear hrow hnil hbel
 refine W ?_
 refine sC (Df A l.length cap ss w2 hn hcap (by omega) hSA) ?_
 rintro w3 ⟨hU3,hf3⟩
 refine W ?_
 have hsl:(lL ss).length=ss.length:=(eO ss).length_eq
 refine⟨A,cap,rfl,?_,hF2.trans' hf3 (fun b hb e=>absurd (hA b e) (by omega))⟩
 refine⟨by rw[List.length_map,←hso,hsl,hn,Nat.mul_one],fun h0=> ?_⟩
 rcases hU3 with h|⟨g,rfl,hU3⟩
 ·rw[h]at hsl;simp at hsl;omega
 refine⟨_,rfl,hU3.lt,fun hx=>absurd (hA g rfl) (Nat.not_le.2 hx),fun j u hu=> ?_⟩
 rw[List.getElem?_map,←hso]at hu
 rw[gA,Nat.zero_add]
 obtain⟨z,hz,rfl⟩:=Option.map_eq_some_iff.1 hu
 obtain⟨c3,q1,q2,q3⟩:=hU3
 exact(q1.cell j).trans (q3 j z hz)
end Go.Proofs.YtcbkaiakdhiloacGreatDoor
