/- Parts of the walk; written by programs, merged. -/
import Derived.Test.YtcllkmllflheiaaGreatDoorLam
set_option linter.unusedSimpArgs false
set_option linter.unusedVariables false
set_option maxRecDepth 20000
set_option maxHeartbeats 8000000
namespace Go.Proofs.YtcllkmllflheiaaGreatDoor
open Go.RowKit Go.Proofs
attribute [local simp] eC ipC AW ibq ibn eqN ltN leN eqL ltL gtL leL geL
theorem yM (l:List UInt8) (i j:Nat):(sub l i j).length≤l.length:=by unfold sub;rw[List.length_drop,List.length_take];omega
theorem uP (l:List UInt8):(aV l).1.fm<4294967296∧(aV l).1.«to»<4294967296∧(aV l).1.pr<256∧(aV l).1.by'.length≤l.length:=by
 unfold aV
 have h2:=fM l 12 16 4 rfl
 have h3:=fM l 16 20 4 rfl
 have h4:=fM l 9 10 1 rfl
 have h5:=yM l 20 (num (sub l 2 4))
 repeat' split
 all_goals(refine⟨?_,?_,?_,?_⟩<;>simp[ip0]<;>omega)
theorem qR (l:List UInt8) (fi ti:Nat):(bB l fi ti).1.fm<65536∧(bB l fi ti).1.tp<65536∧(bB l fi ti).1.ld.length≤l.length:=by
 unfold bB
 have h2:=fM l 0 2 2 rfl
 have h3:=fM l 2 4 2 rfl
 have h5:=yM l 8 (num (sub l 4 6))
 repeat' split
 all_goals(refine⟨?_,?_,?_⟩<;>simp[Ep]<;>omega)
def St.wants (s:St) (p:IpD) (y:EJ):Prop:=s.busy=true∧s.address≠0∧p.«to»=s.address∧p.fm=s.source∧y.tp=s.port
instance (s:St) (p:IpD) (y:EJ):Decidable (s.wants p y):=by unfold St.wants;infer_instance
def St.dgramP (s:St) (ld:List UInt8):St:=
 if(aV ld).2≠0∨(aV ld).1.pr≠17 then s
 else if(bB (aV ld).1.by' (aV ld).1.fm (aV ld).1.«to»).2≠0 then s
 else if(bB (aV ld).1.by' (aV ld).1.fm (aV ld).1.«to»).1.tp=68 then s.leasedP (bB (aV ld).1.by' (aV ld).1.fm (aV ld).1.«to»).1.ld
 else if s.wants (aV ld).1 (bB (aV ld).1.by' (aV ld).1.fm (aV ld).1.«to»).1 then s.loadsP (bB (aV ld).1.by' (aV ld).1.fm (aV ld).1.«to»).1.fm (bB (aV ld).1.by' (aV ld).1.fm (aV ld).1.«to»).1.ld
 else s
theorem Bi (L:Lay) (s:St) (ld:List UInt8) (w:World) (h:aC w L s) (hld:ld.length≤1048576)
 (cO:s.busy=true→∀(fm tp:Nat) (ld:List UInt8) (w:World),aC w L s→fm<65536→tp<65536→ld.length≤1048576→Calls Tryz.prog 113 #[.pointer (some ⟨L.p,0,none⟩),.agg #[.int .u16 (fm:Int),.int .u16 (tp:Int),.string (bs ld)]] w (bP L (s.loadsP fm ld) (.tuple #[]) w)):
 Calls Tryz.prog 70 #[.pointer (some ⟨L.p,0,none⟩),.string (bs ld)] w (bP L (s.dgramP ld) (.tuple #[]) w):=by
 have hin:=uP ld
 obtain⟨r,hr⟩:∃r,r=s.dgramP ld:=⟨_,rfl⟩
 rw[←hr]
 unfold St.dgramP at hr
 refine en Tryz.func70 Tryz.ntmps70 ?_
 refine W ?_
 refine sC (vB ld w (by omega)) ?_
 intro w1 f1
 generalize aV ld=q at*
 obtain⟨x,k⟩:=q
 dsimp only at hin hr⊢
 refine W ?_
 refine sA ?_
 intro w2 hG f2
 refine W ?_
 refine sT ?_
 intro w3 hG f3
 have f:=f1.none (bA f2 (Nat.le_refl _) f3)
 replace h:=h.none f
 generalize w1.heap.size=g at*
 clear f1 f2 f3
 by_cases hx:k≠0∨x.pr≠17
 ·rw[if_pos hx]at hr
  by_cases a1:k=0
  ·have a2:¬x.pr=17:=by omega
   clear hx
   refine W ?_
   exact cH.two ⟨rfl,by rw[hr];exact h,f.of_no _⟩
  ·clear hx
   refine W ?_
   exact cH.two ⟨rfl,by rw[hr];exact h,f.of_no _⟩
 rw[if_neg hx]at hr
 obtain⟨rfl,a2⟩:k=0∧x.pr=17:=by omega
 clear hx
 refine W ?_
 refine sC (qX x.by' x.fm x.«to» w3 hin.1 hin.2.1 (by omega)) ?_
 intro w4 f4
 have hin2:=qR x.by' x.fm x.«to»
 replace h:=h.none f4
 have hG4:=hG.keep f4 id
 generalize bB x.by' x.fm x.«to»=q at*
 obtain⟨y,k⟩:=q
 dsimp only at hin2 hr⊢
 refine W ?_
 refine sA ?_
 intro w5 hU f5
 refine W ?_
 refine sT ?_
 intro w6 hU f6
 have f6:=bA f5 (Nat.le_refl _) f6
 replace f:=(f.none f4).none f6
 replace h:=h.none f6
 replace hG:=hG4.keep f6 id
 generalize w4.heap.size=gu at*
 clear f4 f5 f6 hG4
 by_cases a3:k=0
 rotate_left
 ·rw[if_pos a3]at hr
  refine W ?_
  exact cH.two ⟨rfl,by rw[hr];exact h,f.of_no _⟩
 subst a3
 rw[if_neg (fun e=>e rfl)]at hr
 by_cases a4:y.tp=68
 ·rw[if_pos a4]at hr
  refine W ?_
  refine sC (yH L s y.ld w6 h (by omega)) ?_
  intro w7 h7
  refine W ?_
  exact .comp (L1:=L) rfl (fun _=> .inl) (f.of_no _) ⟨rfl,by rw[hr];exact h7⟩
 rw[if_neg a4]at hr
 refine W ?_
 obtain⟨b,hb⟩:∃b,b=decide (s.wants x y):=⟨_,rfl⟩
 refine cM [0,6] [(40,.bool b)] (fun w'=>aC w' L s∧Bk w' gu 134 (AW y)∧Fr noB w w') ?_ ?_
 ·unfold St.wants St.busy at hb
  refine dI (An h (An hU (An f hG))) [] (up 47 0) (h:= ?_)
  clear h hG hU f hr hin hin2
  intro w7 hS _
  by_cases a1:s.address=0
  ·refine D ?_
   refine dC (aY L s w7 hS.1) ?_ ?_
   ·rintro _ rfl;exact hS
   rintro w8 rfl _
   refine D ?_
   refine tN ?_
   exact mt ⟨hS.1,hS.2.1,hS.2.2.1⟩
  refine D ?_
  refine dC (aY L s w7 hS.1) ?_ ?_
  ·rintro _ rfl;exact hS
  rintro w8 rfl _
  refine D ?_
  refine dC (aY L s w7 hS.1) ?_ ?_
  ·rintro _ rfl;exact hS
  rintro w8 rfl _
  by_cases a2:x.«to»=s.address
  by_cases a3:x.fm=s.source
  by_cases a4:s.phase=1
  rotate_left
  by_cases a5:s.phase=2
  rotate_right 1
  all_goals
   try by_cases a6:y.tp=s.port
  all_goals
   refine D ?_
   refine tN ?_
   exact mt ⟨hS.1,hS.2.1,hS.2.2.1⟩
 clear h hG hU f
 rintro u w7 ⟨h,hU,f⟩
 cases b
 ·rw[if_neg (of_decide_eq_false hb.symm)]at hr
  clear hb
  refine W ?_
  exact cH.two ⟨rfl,by rw[hr];exact h,f.of_no _⟩
 replace hb:=of_decide_eq_true hb.symm
 rw[if_pos hb]at hr
 replace cO:=cO hb.1
 clear hb
 refine W ?_
 refine sC (cO y.fm y.tp y.ld w7 h hin2.1 hin2.2.1 (by omega)) ?_
 intro w8 h8
 refine W ?_
 exact .comp (L1:=L) rfl (fun _=> .inl) (f.of_no _) ⟨rfl,by rw[hr];exact h8⟩
end Go.Proofs.YtcllkmllflheiaaGreatDoor
namespace Go.Proofs.YtcllkmllflheiaaGreatDoor
open Go.RowKit Go.Proofs
attribute [local go_sem] aG aD cV aF
theorem wG (x:De):(xY x).size=(rdZ 1).size:=rfl
theorem Du (x:De):(xY x).all (·.oneCell')=true:=by kernel_rfl
theorem DE (x:De):(Tryz.prog.info? 118).map (·.size)=some (xY x).size:=by rw[wG];kernel_rfl
theorem nN (l:List UInt8) (w:World) (hl:l.length≤9223372036854775807):
 Calls Tryz.prog 68 #[.string (bs l)] w (sO l w):=by
 go_enter Tryz.func68,Tryz.ntmps68
 go_wp2_with fail
 have hx0:=Bk.new w 118 (rdZ 1)
 have hf0:Fr noB w (w.alloc (.cells (rdZ 1) 118)):=(Fr.refl _ _).alloc _
 simp only[rdZ]at hx0 hf0
 generalize w.alloc (.cells #[.int .u8 0,.int .u8 0,.int .u8 0,.int .u8 0,.int .u8 0,.int .u8 0,.int .u8 0,.int .u8 0,.int .u8 0,.int .u8 0,.int .u8 0,.int .u8 0,.int .u16 0,.string ⟨#[]⟩] 118)=w1 at*
 refine(Fx l _ hl).mono ?_
 rintro e w2 ⟨rfl,hf1⟩
 have hx1:=hx0.keep hf1 (fun x=>x)
 have hsz:=Lib.hid (wG (aO l).1)
 have hin:=Lib.hid (DE (aO l).1)
 have hon:=Lib.hid (Du (aO l).1)
 generalize hr:aO l=r at*
 have Hr:=Lib.hid hr
 clear hr
 generalize hc:xY r.1=c at*
 have Hc:=Lib.hid hc
 clear hc
 go_wp2_with ((refine aP rfl 118 (.tmp 2) (.tmp 6) rfl w.heap.size _ _ c rfl rfl hx1 hsz.out hin.out hon.out ?_);intro w9 hx9 hf9)
 refine bodyPost_ret (bZ Tryz.results68 _ w9 w.heap.size _ c _ _ rfl rfl hx9 Tryz.underlying118 rfl hin.out) rfl ?_
 exact⟨by rw[Hr.out,Hc.out];rfl,(hf0.none hf1).trans' hf9 (fun b hb e=>by unfold aJ at e;omega)⟩
end Go.Proofs.YtcllkmllflheiaaGreatDoor
namespace Go.Proofs.YtcllkmllflheiaaGreatDoor
open Go.RowKit Go.Proofs
attribute [local simp] eC xY ibq ibn eqN ltN leN eqL ltL gtL leL geL eqR
attribute [local go_sem] aG aD aE aF
theorem mR (l:List UInt8):(aO l).1.ty<65536∧(aO l).1.by'.length≤l.length∧(aO l).1.by'.length≤1500:=by
 unfold aO
 have h5:=yM l 14 l.length
 have h2:=fM l 12 14 2 rfl
 repeat' split
 all_goals(refine⟨?_,?_,?_⟩<;>simp[ER]<;>omega)
def St.frameP (s:St) (f:List UInt8):St:=
 if(aO f).2≠0∨((aO f).1.«to»≠s.c.card∧(aO f).1.«to»≠Bp)then s
 else if(aO f).1.ty=2054 then s.arpP (aO f).1.by'
 else if(aO f).1.ty=2048 then s.dgramP (aO f).1.by'
 else s
def Now (L:Lay) (w0:World) (s:St) (w:World):Prop:=∃L':Lay,L'.p=L.p∧(∀b,bW L' b→bW L b∨w0.heap.size≤b)∧aC w L' s∧Fr (bW L) w0 w
theorem Now.comp {L L1:Lay} {w0 w w':World} {s':St} (p1:L1.p=L.p) (o1:∀b,bW L1 b→bW L b∨w0.heap.size≤b) (f1:Fr (bW L) w0 w) (h:Now L1 w s' w'):Now L w0 s' w':=by
 obtain⟨L2,p2,o2,b2,f2⟩:=h
 refine⟨L2,p2.trans p1,fun b hb=> ?_,b2,f1.trans' f2 fun b hb hx=>(o1 b hx).resolve_right (by omega)⟩
 rcases o2 b hb with x|x
 ·exact o1 b x
 ·exact .inr (Nat.le_trans f1.size x)
theorem Now.lpost {L:Lay} {w w':World} {s:St} {r:Value} (h:Now L w s w'):bP L s r w (.returned r) w':=⟨rfl,h⟩
theorem Now.fr {L:Lay} {w0 w w':World} {s:St} (h:Now L w0 s w) (hf:Fr noB w w'):Now L w0 s w':=by
 obtain⟨L1,p1,o1,b1,f1⟩:=h
 exact⟨L1,p1,o1,b1.none hf,f1.none hf⟩
def Gk (s:St) (x:De):Nat→St
 |0=>s
 |1=>if x.ty=2054 then s.arpP x.by' else s
 |_=>if x.ty=2054 then s.arpP x.by' else if x.ty=2048 then s.dgramP x.by' else s
attribute [-go_sem] run_eql_struct run_neq_struct run_equalIn_agg in
theorem Aq (L:Lay) (s:St) (ld:List UInt8) (w:World) (h:aC w L s) (hld:ld.length≤4611686018427387904)
 (cD:∀(L:Lay) (ld:List UInt8) (w:World),aC w L s→ld.length≤1048576→Calls Tryz.prog 70 #[.pointer (some ⟨L.p,0,none⟩),.string (bs ld)] w (bP L (s.dgramP ld) (.tuple #[]) w)):
 Calls Tryz.prog 48 #[.pointer (some ⟨L.p,0,none⟩),.string (bs ld)] w (bP L (s.frameP ld) (.tuple #[]) w):=by
 have hin:=mR ld
 obtain⟨r,hr⟩:∃r,r=s.frameP ld:=⟨_,rfl⟩
 rw[←hr]
 unfold St.frameP at hr
 refine en Tryz.func48 Tryz.ntmps48 ?_
 refine W ?_
 refine sC (nN ld w (by omega)) ?_
 intro w1 f1
 generalize aO ld=q at*
 obtain⟨x,k⟩:=q
 dsimp only at hin hr⊢
 refine W ?_
 refine sA ?_
 intro w2 hG f2
 refine W ?_
 refine sT ?_
 intro w3 hG f3
 have f:=f1.none (bA f2 (Nat.le_refl _) f3)
 have hg:¬bW L w1.heap.size:=fun hx=>absurd (h.lt _ hx) (by have:=f1.size;omega)
 replace h:=h.none f
 generalize w1.heap.size=g at*
 clear f1 f2 f3
 refine W ?_
 obtain⟨b,hb⟩:∃b,b=decide (k≠0∨(x.«to»≠s.c.card∧x.«to»≠Bp)):=⟨_,rfl⟩
 refine cM [0,4] [(30,.bool b)] (fun w'=>aC w' L s∧Bk w' g 118 (xY x)∧Fr noB w w') ?_ ?_
 ·have hE:=kI x.«to» s.c.card
  have hE2:=kI x.«to» Bp
  have hGd:=eP
  rw[show wT Bp= #[.int .u8 255,.int .u8 255,.int .u8 255,.int .u8 255,.int .u8 255,.int .u8 255]from rfl]at hE2
  unfold wT at hE hE2
  obtain⟨c1,hc1⟩:∃c,c=decide (x.«to»≠s.c.card):=⟨_,rfl⟩
  obtain⟨c2,hc2⟩:∃c,c=decide (x.«to»≠Bp):=⟨_,rfl⟩
  replace hb:b=decide (k≠0∨(c1=true∧c2=true)):=by rw[hb,hc1,hc2];simp only[decide_eq_true_eq]
  rw[←hc1]at hE
  rw[←hc2]at hE2
  clear hc1 hc2 hr hin
  refine dI (An h (An hG f)) [] (up 18 0) (h:= ?_)
  clear h hG f
  intro w5 h5 _
  by_cases a1:k=0
  cases c1
  rotate_left
  ·refine D ?_
   refine dQ (v:= .agg #[.int .u8 255,.int .u8 255,.int .u8 255,.int .u8 255,.int .u8 255,.int .u8 255]) ?_ ?_
   ·intro w' hS
    have o0:=hS.1.gb.all.2 0 _ rfl;have o1:=hS.1.gb.all.2 1 _ rfl;have o2:=hS.1.gb.all.2 2 _ rfl;have o3:=hS.1.gb.all.2 3 _ rfl;have o4:=hS.1.gb.all.2 4 _ rfl;have o5:=hS.1.gb.all.2 5 _ rfl
    go_simp
   cases c2<;>refine D ?_<;>refine tN ?_<;>exact mt h5
  all_goals
   refine D ?_
   refine tN ?_
   exact mt h5
 clear h hG f
 rintro u w3 ⟨h,hG,f⟩
 cases b
 rotate_left
 ·rw[if_pos (of_decide_eq_true hb.symm)]at hr
  clear hb
  refine W ?_
  exact cH.two ⟨rfl,by rw[hr];exact h,f.of_no _⟩
 rw[if_neg (of_decide_eq_false hb.symm)]at hr
 clear hb
 refine W ?_
 refine sA ?_
 intro w4 hQ f4
 replace hQ:Bk w4 w3.heap.size _ #[.int .u16 2054,.func (.func 69) #[] #[],.int .u16 2048,.func (.func 70) #[] #[]]:=hQ
 have h4:=h.none f4
 have hG4:=hG.keep f4 id
 have hgl:=hG4.lt
 have hqn:¬bW L w3.heap.size:=fun hx=>Nat.lt_irrefl _ (h.lt _ hx)
 have hql:=hQ.lt
 generalize w3.heap.size=q at*
 refine W ?_
 refine cL (fun i=>2-i) (fun i=>[(35,.int .i64 ((i:Nat):Int)),(0,.pointer (some ⟨L.p,0,none⟩)),(4,.pointer (some ⟨g,0,none⟩)),(33,.slice (some ⟨q,0,none⟩) 2 2),(34,.int .i64 2)]) (fun i w'=>i≤2∧Now L w4 (Gk s x i) w') 0 (mt (p:=True) trivial).1 ⟨by decide,L,rfl,fun b hb=> .inl hb,h4,Fr.refl _ _⟩ ?_
 rintro i u w5 ⟨hi,hN⟩
 have hN5:=hN
 obtain⟨L1,p1,ow1,h5,F1⟩:=hN5
 have hG5:=hG4.keep F1 hg
 have hQ5:=hQ.keep F1 hqn
 have nog:¬bW L1 g:=fun hx=>by rcases ow1 g hx with y|y;exact hg y;omega
 rw[←p1]
 replace p1:=Lib.hid p1
 obtain rfl|rfl|rfl:i=0∨i=1∨i=2:=by omega
 ·refine W ?_
  refine sA ?_
  intro w6 hV f6
  refine W ?_
  refine sT ?_
  intro w7 hV f7
  have f7:=bA f6 (Nat.le_refl _) f7
  have h7:=h5.none f7
  have hG7:=hG5.keep f7 id
  by_cases hty:x.ty=2054
  ·refine W ?_
   refine sC (Ay L1 s x.by' w7 h7 (by omega)) ?_
   intro w8 h8
   refine W ?_
   exact⟨1,(mt (p:=True) trivial).1,⟨by decide,by rw[show Gk s x 1=s.arpP x.by' from if_pos hty];exact .comp p1.out ow1 (F1.none f7) h8⟩,by decide⟩
  ·have hty':¬2054=x.ty:=fun e=>hty e.symm
   refine W ?_
   exact⟨1,(mt (p:=True) trivial).1,⟨by decide,by rw[show Gk s x 1=s from if_neg hty];exact hN.fr f7⟩,by decide⟩
 ·refine W ?_
  refine sA ?_
  intro w6 hV f6
  refine W ?_
  refine sT ?_
  intro w7 hV f7
  have f7:=bA f6 (Nat.le_refl _) f7
  have h7:=h5.none f7
  have hG7:=hG5.keep f7 id
  by_cases hty:x.ty=2048
  ·have hty':¬x.ty=2054:=by omega
   rw[show Gk s x 1=s from if_neg hty']at h7
   refine W ?_
   refine sC (cD L1 x.by' w7 h7 (by omega)) ?_
   intro w8 h8
   refine W ?_
   exact⟨2,(mt (p:=True) trivial).1,⟨by decide,by rw[show Gk s x 2=s.dgramP x.by' from(if_neg hty').trans (if_pos hty)];exact .comp p1.out ow1 (F1.none f7) h8⟩,by decide⟩
  ·have hty':¬2048=x.ty:=fun e=>hty e.symm
   refine W ?_
   exact⟨2,(mt (p:=True) trivial).1,⟨by decide,by rw[show Gk s x 2=Gk s x 1 by show(if x.ty=2054 then _ else if x.ty=2048 then _ else _)=(if x.ty=2054 then _ else _);rw[if_neg (c:=x.ty=2048) hty]];exact hN.fr f7⟩,by decide⟩
 ·refine W ?_
  refine .comp (L1:=L) rfl (fun _=> .inl) ((f.none f4).of_no _) ?_
  rw[hr]
  exact Now.lpost hN
theorem tZ (L:Lay) (s:St) (ld:List UInt8) (w:World) (h:aC w L s) (hld:ld.length≤4611686018427387904) (hb:s.busy=false):
 Calls Tryz.prog 48 #[.pointer (some ⟨L.p,0,none⟩),.string (bs ld)] w (bP L (s.frameP ld) (.tuple #[]) w):=
 Aq L s ld w h hld fun L ld w h hl=>Bi L s ld w h hl fun hx=>absurd hx (by rw[hb];decide)
end Go.Proofs.YtcllkmllflheiaaGreatDoor
namespace Go.Proofs.YtcllkmllflheiaaGreatDoor
open Go.RowKit Go.Proofs
def bL (fr:St→List UInt8→St):Nat→St→Nat→St×Nat
 |0,s,k=>(s,k)
 |m+1,s,k=>match s.rx with
  |[]=>(s,k)
  |f::r=>bL fr m (if s.over then {s with rx:=r}else fr {s with rx:=r} f) (k+1)
structure CK (Inv:St→Prop) (fr:St→List UInt8→St):Prop where
 go:∀(t:St) (f:List UInt8) (r:List (List UInt8)),Inv t→t.rx=f::r→t.over=false→Inv (fr {t with rx:=r} f)
 over:∀(t:St) (f:List UInt8) (r:List (List UInt8)),Inv t→t.rx=f::r→t.over=true→Inv {t with rx:=r}
theorem CK.all {Inv:St→Prop} {fr:St→List UInt8→St} (h:CK Inv fr):∀(m:Nat) (s:St) (k:Nat),Inv s→Inv (bL fr m s k).1
 |0,s,k,hi=>hi
 |m+1,s,k,hi=>by
  unfold bL
  split
  ·exact hi
  ·next f r hq=>
   refine h.all m _ _ ?_
   split
   ·next ho=>exact h.over s f r hi hq ho
   ·next ho=>exact h.go s f r hi hq (by simpa using ho)
end Go.Proofs.YtcllkmllflheiaaGreatDoor
namespace Go.Proofs.YtcllkmllflheiaaGreatDoor
open Go.RowKit Go.Proofs
structure Sm (s t:St):Prop where
 cache:t.cache=s.cache
 lease:t.lease=s.lease
 phase:t.phase=s.phase
 now:t.now=s.now
 rx:t.rx=s.rx
theorem Sm.send (s:St) (d:Mac) (k:Nat) (l:List UInt8):Sm s (s.send d k l):=by unfold St.send;split<;>exact⟨rfl,rfl,rfl,rfl,rfl⟩
theorem Sm.trans {s t u:St} (h:Sm s t) (g:Sm t u):Sm s u:=⟨g.cache.trans h.cache,g.lease.trans h.lease,g.phase.trans h.phase,g.now.trans h.now,g.rx.trans h.rx⟩
theorem Sm.took (s:St):Sm s s.took:=⟨rfl,rfl,rfl,rfl,rfl⟩
theorem Sm.say (s:St) (k:UInt8) (os:List aX):Sm s (s.say k false os):=by unfold St.say;exact(Sm.took s).trans (Sm.send _ _ _ _)
theorem Sm.ask (s:St) (a b:Nat):Sm s (s.ask a b):=Sm.send _ _ _ _
theorem Sm.asks (s:St):Sm s s.asks:=by unfold St.asks;split<;>exact Sm.say ..
structure Lw (k:Int) (s:St):Prop where
 cache:s.cache=[]
 lease:s.lease≤3
 phase:s.phase=0∨s.phase=4
 now0:0≤s.now
 now1:s.now≤k
 rx:∀f∈s.rx,f.length≤900000
section
variable {k:Int} {s t:St}
theorem Lw.sm (h:Lw k s) (g:Sm s t):Lw k t:=⟨by rw[g.cache];exact h.cache,by rw[g.lease];exact h.lease,by rw[g.phase];exact h.phase,by rw[g.now];exact h.now0,by rw[g.now];exact h.now1,by rw[g.rx];exact h.rx⟩
theorem Lw.busy (h:Lw k s):s.busy=false:=by unfold St.busy;rcases h.phase with e|e<;>rw[e]<;>rfl
theorem Lw.address (h:Lw k s):s.address=0:=if_neg (by have:=h.lease;omega)
theorem Lw.drop (h:Lw k s):Lw k s.drop:=⟨rfl,Nat.zero_le _,.inl rfl,h.now0,h.now1,h.rx⟩
theorem Lw.fail (h:Lw k s):Lw k s.fail:=by
 unfold St.fail;dsimp only;split
 ·exact⟨rfl,Nat.zero_le _,.inr rfl,h.now0,h.now1,h.rx⟩
 ·exact⟨rfl,Nat.zero_le _,.inl rfl,h.now0,h.now1,h.rx⟩
theorem Lw.goes (h:Lw k s) {l:Nat} (hl:l≤3):Lw k (s.goes l):=by
 unfold St.goes
 exact Lw.sm (s:={s with lease:=l,lsends:=1,lagain:=wrap64 (s.now+s.wait 0)}) ⟨h.cache,hl,h.phase,h.now0,h.now1,h.rx⟩ (Sm.asks _)
theorem Lw.step (h:Lw k s):Lw (k+1) s:={h with now1:=by have:=h.now1;omega}
theorem Lw.nb (h:Lw k s):s.neighbours=s:=by
 have hc:=h.cache
 rcases s with⟨c,rx,tx,now,draw,boots,lost,id,cache,lease,xid,addr,mask,router,server,source,t1,t2,untl,lagain,lsends,phase,port,peer,block,wind,next,came,tagain,tsends,goal,last,image⟩
 dsimp only at hc;subst hc;rfl
theorem Lw.leases (h:Lw k s) (h3:s.lease=3→s.now<s.lagain):Lw k s.leases:=by
 have hl:=h.lease
 unfold St.leases
 split
 ·exact Lw.goes (s:={s with xid:=s.draw}) ⟨h.cache,h.lease,h.phase,h.now0,h.now1,h.rx⟩ (by decide)
 split
 ·split
  ·exact h
  split
  ·exact h.fail
  ·exact Lw.sm (s:={s with lagain:=wrap64 (s.now+s.wait s.lsends),lsends:=s.lsends+1}) ⟨h.cache,h.lease,h.phase,h.now0,h.now1,h.rx⟩ (Sm.asks _)
 split
 ·next e=>rw[if_pos (h3 e)];exact h
 ·omega
theorem Lw.turn (h:Lw k s) (hk:k<4611686018427387904) (d:Nat):wrap64 (s.now+1)=s.now+1∧Lw (k+1) ({s with now:=wrap64 (s.now+1),draw:=d}:St):=by
 have h0:=h.now0
 have h1:=h.now1
 have hw:wrap64 (s.now+1)=s.now+1:=IntWalk.wrap64_in _ ⟨by omega,by omega⟩
 exact⟨hw,h.cache,h.lease,h.phase,by show 0≤wrap64 _;rw[hw];omega,by show wrap64 _≤_;rw[hw];omega,h.rx⟩
theorem Lw.tick (h:Lw k s) (hk:k<4611686018427387904) (h3:s.lease=3→s.now+1<s.lagain) (d:Nat):Lw (k+1) (s.tick d):=by
 obtain⟨hw,ht⟩:=h.turn hk d
 unfold St.tick
 dsimp only
 split
 ·exact ht
 ·rw[ht.nb]
  have h2:=ht.leases (fun e=>by show wrap64 _<_;rw[hw];exact h3 e)
  unfold St.again
  rw[if_pos (.inl h2.busy)]
  exact h2
theorem Lw.arped_eq (h:Lw k s) (x:Ae):s.arped x=if s.lease=3∧x.fi=s.addr∧x.fm≠s.c.card then s.decline else s:=by
 unfold St.arped
 split
 ·rfl
 have hm:s.asked x=false:=by unfold St.asked;rw[h.address];rfl
 dsimp only
 rw[hm,if_neg (by decide)]
 split
 ·unfold St.learn
  rw[show lB s.cache x.fi=none by rw[h.cache];rfl]
  rfl
 ·rfl
theorem Lw.arped (h:Lw k s) (x:Ae):Lw k (s.arped x):=by
 rw[h.arped_eq]
 split
 ·exact(h.sm (Sm.say _ _ _)).fail
 ·exact h
theorem Lw.granted (h:Lw k s) (d:kF) (fm:Nat):Lw k (s.granted d fm):=by
 have hl:=h.lease
 unfold St.granted
 split
 ·exact h
 ·next tm _=>
  split
  ·exact h
  ·next hn=>
   dsimp only
   have h2:s.lease=2:=by omega
   rw[if_pos h2]
   refine Lw.sm ?_ (Sm.ask _ _ _)
   unfold St.times
   split<;>exact⟨h.cache,Nat.le_refl _,h.phase,h.now0,h.now1,h.rx⟩
theorem Lw.leased (h:Lw k s) (d:kF):Lw k (s.leased d):=by
 unfold St.leased
 split
 ·split
  ·split
   ·exact Lw.goes (s:={s with addr:=d.yours,server:=_}) ⟨h.cache,h.lease,h.phase,h.now0,h.now1,h.rx⟩ (by decide)
   ·exact h
  ·split
   ·split
    ·exact h.granted d _
    ·exact h
   ·split
    ·split
     ·exact h.drop
     ·exact h
    ·exact h
 ·exact h
theorem Lw.frame (h:Lw k s) (f:List UInt8):Lw k (s.frame f):=by
 show Lw k (s.frameP f)
 unfold St.frameP
 split
 ·exact h
 split
 ·unfold St.arpP
  split
  ·exact h.arped _
  ·exact h
 split
 ·unfold St.dgramP
  split
  ·exact h
  split
  ·exact h
  split
  ·unfold St.leasedP
   split
   ·exact h.leased _
   ·exact h
  ·rw[if_neg (fun e=>by have:=e.1;rw[h.busy]at this;cases this)]
   exact h
 ·exact h
theorem Lw.rxT (h:Lw k s) {f:List UInt8} {r:List (List UInt8)} (e:s.rx=f::r):Lw k {s with rx:=r}:=⟨h.cache,h.lease,h.phase,h.now0,h.now1,fun x hx=>h.rx x (by rw[e];exact List.mem_cons_of_mem _ hx)⟩
theorem yO (k:Int):CK (Lw k) St.frame:=⟨fun t f r h e _=>(h.rxT e).frame f,fun t f r h e _=>h.rxT e⟩
theorem Lw.take (h:Lw k s):Lw k s.take.1:=by unfold St.take;split<;>exact⟨h.cache,h.lease,h.phase,h.now0,h.now1,h.rx⟩
theorem Lw.put (h:Lw k s) {f:List UInt8} (hf:f.length≤900000):Lw k (s.put f).1:=by
 unfold St.put
 split
 ·exact h
 ·refine⟨h.cache,h.lease,h.phase,h.now0,h.now1,fun x hx=> ?_⟩
  rcases List.mem_append.1 hx with h1|h1
  ·exact h.rx x h1
  ·rw[List.mem_singleton.1 h1];exact hf
end
end Go.Proofs.YtcllkmllflheiaaGreatDoor
namespace Go.Proofs.YtcllkmllflheiaaGreatDoor
open Go.RowKit Go.Proofs
structure bQ where
 rx:Option Addr
 rxc:Nat
 tx:Option Addr
 txc:Nat
 ca:Option Addr
 cac:Nat
 im:Option Addr
 imc:Nat
def bH (a:Option Addr):List Nat:=match a with|none=>[]|some x=>[x.block]
def aK (p:Nat) (M:bQ):List Nat:=p::(bH M.rx++(bH M.tx++(bH M.ca++bH M.im)))
def bX (p:Nat) (M:bQ) (b:Nat):Prop:=b∈aK p M
structure Dj (p:Nat) (r t c i:List Nat):Prop where
 pr:p∉r
 pt:p∉t
 pc:p∉c
 pi:p∉i
 rt:∀b∈r,b∉t
 rc:∀b∈r,b∉c
 ri:∀b∈r,b∉i
 tc:∀b∈t,b∉c
 ti:∀b∈t,b∉i
 ci:∀b∈c,b∉i
def wM (l:List (List UInt8)):List Value:=l.map fun f=> .string (bs f)
def Gf (e:aS):List Value:=[.int .u32 (e.ip:Int),.int .u8 (e.card.1.toNat:Int),.int .u8 (e.card.2.1.toNat:Int),.int .u8 (e.card.2.2.1.toNat:Int),.int .u8 (e.card.2.2.2.1.toNat:Int),.int .u8 (e.card.2.2.2.2.1.toNat:Int),.int .u8 (e.card.2.2.2.2.2.toNat:Int),.bool e.known,.int .i64 e.due,.int .i64 e.asked,.string (bs e.waits)]
def xT:List aS→List Value
 |[]=>[]
 |e::r=>Gf e++xT r
theorem yT:∀(l:List aS) (k:Nat) (e:aS) (j:Nat),l[k]? =some e→j<11→(xT l)[k*11+j]? =(Gf e)[j]?
 |[],_,_,_,h,_=>by cases h
 |x::r,0,e,j,h,hj=>by
  cases h
  rw[xT,List.getElem?_append_left (by simp[Gf];omega)];congr 1;omega
 |x::r,k+1,e,j,h,hj=>by
  rw[xT,List.getElem?_append_right (by simp[Gf];omega)]
  rw[show(k+1)*11+j-(Gf x).length=k*11+j by simp[Gf];omega]
  exact yT r k e j h hj
def lF (s:St) (T:Nat) (M:bQ):Array Value:= #[.pointer (some ⟨T,0,none⟩),.int .u8 (s.c.card.1.toNat:Int),.int .u8 (s.c.card.2.1.toNat:Int),.int .u8 (s.c.card.2.2.1.toNat:Int),.int .u8 (s.c.card.2.2.2.1.toNat:Int),.int .u8 (s.c.card.2.2.2.2.1.toNat:Int),.int .u8 (s.c.card.2.2.2.2.2.toNat:Int),.string (bs s.c.name),.int .i64 (s.c.cap:Int),.string (bs s.c.digest),.int .i64 (s.c.block:Int),.int .i64 (s.c.window:Int),.int .i64 (s.c.rx:Int),.int .i64 (s.c.tx:Int),.slice M.rx s.rx.length M.rxc,.slice M.tx s.tx.length M.txc,.int .i64 s.now,.int .u32 (s.draw:Int),.int .i64 s.boots,.int .i64 s.lost,.int .i64 (wrap64 (s.id:Int)),.slice M.ca s.cache.length M.cac,.int .i64 (s.lease:Int),.int .u32 (s.xid:Int),.int .u32 (s.addr:Int),.int .u32 (s.mask:Int),.int .u32 (s.router:Int),.int .u32 (s.server:Int),.int .u32 (s.source:Int),.int .i64 s.t1,.int .i64 s.t2,.int .i64 s.untl,.int .i64 s.lagain,.int .i64 (s.lsends:Int),.int .i64 (s.phase:Int),.int .i64 (s.port:Int),.int .i64 (s.peer:Int),.int .i64 (s.block:Int),.int .i64 (s.wind:Int),.int .i64 (s.next:Int),.int .i64 s.came,.int .i64 s.tagain,.int .i64 (s.tsends:Int),.int .i64 (s.goal:Int),.string (bs s.last),.slice M.im s.image.length M.imc]
structure aA (w:World) (p T:Nat) (M:bQ) (s:St):Prop where
 bk:Bk w p 57 (lF s T M)
 rx:w.ownsRow 0 9 1 (.slice M.rx s.rx.length M.rxc) s.rx.length (wM s.rx)
 tx:w.ownsRow 0 9 1 (.slice M.tx s.tx.length M.txc) s.tx.length (wM s.tx)
 ca:w.ownsRow 0 114 11 (.slice M.ca s.cache.length M.cac) s.cache.length (xT s.cache)
 im:w.ownsRow 0 5 1 (.slice M.im s.image.length M.imc) s.image.length (u8s s.image)
 nd:Dj p (bH M.rx) (bH M.tx) (bH M.ca) (bH M.im)
 ok:s.Ok
 rxl:s.rx.length≤s.c.rx
 txl:s.tx.length≤s.c.tx
 all:wU w 1 #[.int .u8 255,.int .u8 255,.int .u8 255,.int .u8 255,.int .u8 255,.int .u8 255]
 ga:∀b,bX p M b→b≠1
 dk:(s.cache.map (·.ip)).Nodup
 ip:∀e∈s.cache,e.ip<4294967296
section
variable {w:World} {p T:Nat} {M:bQ} {s:St}
theorem aA.g0 (h:aA w p T M s):w.cell? ⟨p,0,none⟩=some (.pointer (some ⟨T,0,none⟩)):=h.bk.cell 0
theorem aA.g1 (h:aA w p T M s):w.cell? ⟨p,1,none⟩=some (.int .u8 (s.c.card.1.toNat:Int)):=h.bk.cell 1
theorem aA.g2 (h:aA w p T M s):w.cell? ⟨p,2,none⟩=some (.int .u8 (s.c.card.2.1.toNat:Int)):=h.bk.cell 2
theorem aA.g3 (h:aA w p T M s):w.cell? ⟨p,3,none⟩=some (.int .u8 (s.c.card.2.2.1.toNat:Int)):=h.bk.cell 3
theorem aA.g4 (h:aA w p T M s):w.cell? ⟨p,4,none⟩=some (.int .u8 (s.c.card.2.2.2.1.toNat:Int)):=h.bk.cell 4
theorem aA.g5 (h:aA w p T M s):w.cell? ⟨p,5,none⟩=some (.int .u8 (s.c.card.2.2.2.2.1.toNat:Int)):=h.bk.cell 5
theorem aA.g6 (h:aA w p T M s):w.cell? ⟨p,6,none⟩=some (.int .u8 (s.c.card.2.2.2.2.2.toNat:Int)):=h.bk.cell 6
theorem aA.g7 (h:aA w p T M s):w.cell? ⟨p,7,none⟩=some (.string (bs s.c.name)):=h.bk.cell 7
theorem aA.g8 (h:aA w p T M s):w.cell? ⟨p,8,none⟩=some (.int .i64 (s.c.cap:Int)):=h.bk.cell 8
theorem aA.g9 (h:aA w p T M s):w.cell? ⟨p,9,none⟩=some (.string (bs s.c.digest)):=h.bk.cell 9
theorem aA.g10 (h:aA w p T M s):w.cell? ⟨p,10,none⟩=some (.int .i64 (s.c.block:Int)):=h.bk.cell 10
theorem aA.g11 (h:aA w p T M s):w.cell? ⟨p,11,none⟩=some (.int .i64 (s.c.window:Int)):=h.bk.cell 11
theorem aA.g12 (h:aA w p T M s):w.cell? ⟨p,12,none⟩=some (.int .i64 (s.c.rx:Int)):=h.bk.cell 12
theorem aA.g13 (h:aA w p T M s):w.cell? ⟨p,13,none⟩=some (.int .i64 (s.c.tx:Int)):=h.bk.cell 13
theorem aA.g14 (h:aA w p T M s):w.cell? ⟨p,14,none⟩=some (.slice M.rx s.rx.length M.rxc):=h.bk.cell 14
theorem aA.g15 (h:aA w p T M s):w.cell? ⟨p,15,none⟩=some (.slice M.tx s.tx.length M.txc):=h.bk.cell 15
theorem aA.g16 (h:aA w p T M s):w.cell? ⟨p,16,none⟩=some (.int .i64 s.now):=h.bk.cell 16
theorem aA.g17 (h:aA w p T M s):w.cell? ⟨p,17,none⟩=some (.int .u32 (s.draw:Int)):=h.bk.cell 17
theorem aA.g18 (h:aA w p T M s):w.cell? ⟨p,18,none⟩=some (.int .i64 s.boots):=h.bk.cell 18
theorem aA.g19 (h:aA w p T M s):w.cell? ⟨p,19,none⟩=some (.int .i64 s.lost):=h.bk.cell 19
theorem aA.g20 (h:aA w p T M s):w.cell? ⟨p,20,none⟩=some (.int .i64 (wrap64 (s.id:Int))):=h.bk.cell 20
theorem aA.g21 (h:aA w p T M s):w.cell? ⟨p,21,none⟩=some (.slice M.ca s.cache.length M.cac):=h.bk.cell 21
theorem aA.g22 (h:aA w p T M s):w.cell? ⟨p,22,none⟩=some (.int .i64 (s.lease:Int)):=h.bk.cell 22
theorem aA.g23 (h:aA w p T M s):w.cell? ⟨p,23,none⟩=some (.int .u32 (s.xid:Int)):=h.bk.cell 23
theorem aA.g24 (h:aA w p T M s):w.cell? ⟨p,24,none⟩=some (.int .u32 (s.addr:Int)):=h.bk.cell 24
theorem aA.g27 (h:aA w p T M s):w.cell? ⟨p,27,none⟩=some (.int .u32 (s.server:Int)):=h.bk.cell 27
theorem aA.g32 (h:aA w p T M s):w.cell? ⟨p,32,none⟩=some (.int .i64 s.lagain):=h.bk.cell 32
theorem aA.g33 (h:aA w p T M s):w.cell? ⟨p,33,none⟩=some (.int .i64 (s.lsends:Int)):=h.bk.cell 33
theorem aA.g34 (h:aA w p T M s):w.cell? ⟨p,34,none⟩=some (.int .i64 (s.phase:Int)):=h.bk.cell 34
theorem aA.g45 (h:aA w p T M s):w.cell? ⟨p,45,none⟩=some (.slice M.im s.image.length M.imc):=h.bk.cell 45
theorem aA.fr (h:aA w p T M s):∀j,w.frozen? ⟨p,j,none⟩=false:=h.bk.frees
end
theorem aU {w w':World} {S:Nat→Prop} {e:TypeId} {size n c:Nat} {A:Option Addr} {xs:List Value} (h:w.ownsRow 0 e size (.slice A n c) n xs) (hf:Fr S w w') (hb:∀b∈bH A,¬S b):w'.ownsRow 0 e size (.slice A n c) n xs:=by
 refine⟨h.1,?_⟩
 rcases h.2 with h1|⟨g,cap,cur,h1,h2,h3,h4⟩
 ·exact .inl h1
 ·refine .inr ⟨g,cap,cur,h1,h2,?_,h4⟩
  have hl:g<w.heap.size:=(Array.getElem?_eq_some_iff.1 h3).1
  injection h1 with h1
  exact(hf.block g hl (hb _ (by rw[h1];simp[bH]))).trans h3
theorem rJ {w:World} {e:TypeId} {size n c:Nat} {A:Option Addr} {xs:List Value} (h:w.ownsRow 0 e size (.slice A n c) n xs):∀b∈bH A,b<w.heap.size:=by
 intro b hb
 rcases h.2 with⟨h1,_⟩|⟨g,cap,cur,h1,h2,h3,h4⟩
 ·injection h1 with h1;rw[h1]at hb;cases hb
 ·injection h1 with h1
  rw[h1]at hb
  have:b=g:=by simpa[bH]using hb
  subst this
  exact(Array.getElem?_eq_some_iff.1 h3).1
theorem aA.lt {w:World} {p T:Nat} {M:bQ} {s:St} (h:aA w p T M s):∀b,bX p M b→b<w.heap.size:=by
 intro b hb
 unfold bX aK at hb
 simp only[List.mem_cons,List.mem_append]at hb
 rcases hb with rfl|hb|hb|hb|hb
 ·exact h.bk.lt
 ·exact rJ h.rx b hb
 ·exact rJ h.tx b hb
 ·exact rJ h.ca b hb
 ·exact rJ h.im b hb
theorem gZ (p:Nat) (M:bQ):bX p M p:=by simp[bX,aK]
theorem aA.keep {w w':World} {S:Nat→Prop} {p T:Nat} {M:bQ} {s:St} (h:aA w p T M s) (hf:Fr S w w') (hS:∀b,bX p M b→¬S b) (hA:¬S 1):aA w' p T M s where
 bk:=h.bk.keep hf (hS _ (gZ p M))
 rx:=aU h.rx hf fun b hb=>hS b (by simp[bX,aK,hb])
 tx:=aU h.tx hf fun b hb=>hS b (by simp[bX,aK,hb])
 ca:=aU h.ca hf fun b hb=>hS b (by simp[bX,aK,hb])
 im:=aU h.im hf fun b hb=>hS b (by simp[bX,aK,hb])
 nd:=h.nd
 ok:=h.ok
 rxl:=h.rxl
 txl:=h.txl
 all:=h.all.keep hf hA
 ga:=h.ga
 dk:=h.dk
 ip:=h.ip
theorem aA.none {w w':World} {p T:Nat} {M:bQ} {s:St} (h:aA w p T M s) (hf:Fr noB w w'):aA w' p T M s:=h.keep hf (fun _ _ x=>x) (fun x=>x)
theorem aA.drew {w:World} {p T:Nat} {M:bQ} {s:St} (h:aA w p T M s):aA w.drew p T M s:=h.none ((Fr.refl _ _).drew)
theorem aA.set1 {w:World} {p T:Nat} {M:bQ} {s:St} (h:aA w p T M s) (k:Nat) (v:Value) (s':St) (he:(lF s T M).setIfInBounds k v=lF s' T M) (hc:s'.c=s.c) (hr:s'.rx=s.rx) (ht:s'.tx=s.tx) (hm:s'.cache=s.cache) (hi:s'.image=s.image) (ok:s'.Ok):
 aA (w.setCell ⟨p,k,Option.none⟩ v) p T M s':=by
 have hf:Fr (aJ p) w (w.setCell ⟨p,k,Option.none⟩ v):=(Fr.refl (aJ p) w).setCell (p:=⟨p,k,Option.none⟩) (fun _=>rfl) v
 have hn:=h.nd
 have hne:∀(X:List Nat),p∉X→∀b∈X,¬aJ p b:=fun X hX b hb e=>hX (by have e':b=p:=e;exact e'▸hb)
 refine⟨by rw[←he];exact h.bk.set k v,?_,?_,?_,?_,h.nd,ok,by rw[hr,hc];exact h.rxl,by rw[ht,hc];exact h.txl,h.all.keep hf (fun e=>h.ga p (gZ p M) (by have e':1=p:=e;exact e'.symm)),h.ga,by rw[hm];exact h.dk,by rw[hm];exact h.ip⟩
 ·rw[hr];exact aU h.rx hf fun b hb=>hne _ hn.pr b hb
 ·rw[ht];exact aU h.tx hf fun b hb=>hne _ hn.pt b hb
 ·rw[hm];exact aU h.ca hf fun b hb=>hne _ hn.pc b hb
 ·rw[hi];exact aU h.im hf fun b hb=>hne _ hn.pi b hb
theorem gO (p:Nat) (M:bQ) (w:World) (k:Nat) (v:Value):Fr (bX p M) w (w.setCell ⟨p,k,none⟩ v):=(Fr.refl (bX p M) w).setCell (p:=⟨p,k,none⟩) (fun _=>gZ p M) v
def bE (p T:Nat) (M:bQ) (w0:World) (s:St) (w:World):Prop:=∃M':bQ,(∀b,bX p M' b→bX p M b∨w0.heap.size≤b)∧aA w p T M' s∧Fr (bX p M) w0 w
theorem bE.at_ {p T:Nat} {M:bQ} {w:World} {s:St} (h:aA w p T M s):bE p T M w s w:=⟨M,fun _ hb=> .inl hb,h,Fr.refl _ _⟩
theorem bE.of {p T:Nat} {M:bQ} {w w':World} {s:St} (h:aA w' p T M s) (hf:Fr (bX p M) w w'):bE p T M w s w':=⟨M,fun _ hb=> .inl hb,h,hf⟩
theorem bE.comp {p T:Nat} {M M1:bQ} {w0 w w':World} {s':St} (o1:∀b,bX p M1 b→bX p M b∨w0.heap.size≤b) (f1:Fr (bX p M) w0 w) (h:bE p T M1 w s' w'):bE p T M w0 s' w':=by
 obtain⟨M2,o2,b2,f2⟩:=h
 refine⟨M2,fun b hb=> ?_,b2,f1.trans' f2 fun b hb hx=>(o1 b hx).resolve_right (by omega)⟩
 rcases o2 b hb with x|x
 ·exact o1 b x
 ·exact .inr (Nat.le_trans f1.size x)
theorem bE.pre {p T:Nat} {M:bQ} {w0 w w':World} {s:St} (hf:Fr noB w0 w) (h:bE p T M w s w'):bE p T M w0 s w':=bE.comp (fun _ hb=> .inl hb) (hf.of_no _) h
theorem aA.rxTurn {w w':World} {p T:Nat} {M:bQ} {s:St} {q:List (List UInt8)} {A:Option Addr} {c:Nat} (h:aA w p T M s) (hf:Fr (fun b=>b∈bH M.rx) w w') (hA:w'.ownsRow 0 9 1 (.slice A q.length c) q.length (wM q)) (hb:∀b∈bH A,b∈bH M.rx∨w.heap.size≤b) (hq:q.length≤s.c.rx):
 bE p T M w {s with rx:=q} (w'.setCell ⟨p,14,Option.none⟩ (.slice A q.length c)):=by
 have hlt:=h.lt
 have hal:=h.all.1
 have hpl:p<w.heap.size:=h.bk.lt
 have hpA:p∉bH A:=fun hx=>by rcases hb p hx with y|y;exact h.nd.pr y;omega
 have hf2:Fr (fun b=>b∈bH M.rx∨b=p) w (w'.setCell ⟨p,14,Option.none⟩ (.slice A q.length c)):=(hf.mono fun b _ hb=> .inl hb).setCell (p:=⟨p,14,Option.none⟩) (fun _=> .inr rfl) _
 have otx:∀b∈bH M.tx,b<w.heap.size:=fun b hb=>hlt b (by simp[bX,aK,hb])
 have ktx:∀b∈bH M.tx,¬(b∈bH M.rx∨b=p):=fun b hb hx=>by
  rcases hx with hx|rfl
  ·exact(fun b hb hx=>h.nd.rt b hx hb) b hb hx
  ·exact h.nd.pt hb
 have atx:∀b∈bH A,b∉bH M.tx:=fun b hbA hy=>by
  rcases hb b hbA with z|z
  ·exact h.nd.rt b z hy
  ·have:=otx b hy;omega
 have oca:∀b∈bH M.ca,b<w.heap.size:=fun b hb=>hlt b (by simp[bX,aK,hb])
 have kca:∀b∈bH M.ca,¬(b∈bH M.rx∨b=p):=fun b hb hx=>by
  rcases hx with hx|rfl
  ·exact(fun b hb hx=>h.nd.rc b hx hb) b hb hx
  ·exact h.nd.pc hb
 have aca:∀b∈bH A,b∉bH M.ca:=fun b hbA hy=>by
  rcases hb b hbA with z|z
  ·exact h.nd.rc b z hy
  ·have:=oca b hy;omega
 have oim:∀b∈bH M.im,b<w.heap.size:=fun b hb=>hlt b (by simp[bX,aK,hb])
 have kim:∀b∈bH M.im,¬(b∈bH M.rx∨b=p):=fun b hb hx=>by
  rcases hx with hx|rfl
  ·exact(fun b hb hx=>h.nd.ri b hx hb) b hb hx
  ·exact h.nd.pi hb
 have aim:∀b∈bH A,b∉bH M.im:=fun b hbA hy=>by
  rcases hb b hbA with z|z
  ·exact h.nd.ri b z hy
  ·have:=oim b hy;omega
 refine⟨{M with rx:=A,rxc:=c},fun b hb'=> ?_,⟨(h.bk.keep hf (fun hx=>h.nd.pr hx)).set 14 _,?_,aU h.tx hf2 ktx,aU h.ca hf2 kca,aU h.im hf2 kim,?_,{h.ok with},hq,h.txl,h.all.keep hf2 ?_,fun b hb'=> ?_,h.dk,h.ip⟩,hf2.mono fun b _ hb'=> ?_⟩
 ·simp only[bX,aK,List.mem_cons,List.mem_append]at hb'⊢
  rcases hb' with y|y|y|y|y
  ·exact .inl (.inl y)
  ·rcases hb b y with z|z
   ·simp[z]
   ·exact .inr z
  ·simp[y]
  ·simp[y]
  ·simp[y]
 ·refine aU (S:=aJ p) hA ((Fr.refl (aJ p) w').setCell (p:=⟨p,14,Option.none⟩) (fun _=>rfl) _) fun b hb' e=>hpA ?_
  have e':b=p:=e
  exact e'▸hb'
 ·exact⟨hpA,h.nd.pt,h.nd.pc,h.nd.pi,atx,aca,aim,h.nd.tc,h.nd.ti,h.nd.ci⟩
 ·rintro(hx|hx)
  ·exact h.ga _ (by simp[bX,aK,hx]) rfl
  ·exact h.ga p (gZ p M) hx.symm
 ·simp only[bX,aK,List.mem_cons,List.mem_append]at hb'
  rcases hb' with y|y|y|y|y
  ·exact h.ga b (by simp[bX,aK,y])
  ·rcases hb b y with z|z
   ·exact h.ga b (by simp[bX,aK,z])
   ·omega
  ·exact h.ga b (by simp[bX,aK,y])
  ·exact h.ga b (by simp[bX,aK,y])
  ·exact h.ga b (by simp[bX,aK,y])
 ·rcases hb' with y|rfl
  ·simp[bX,aK,y]
  ·exact gZ _ _
theorem aA.txTurn {w w':World} {p T:Nat} {M:bQ} {s:St} {q:List (List UInt8)} {A:Option Addr} {c:Nat} (h:aA w p T M s) (hf:Fr (fun b=>b∈bH M.tx) w w') (hA:w'.ownsRow 0 9 1 (.slice A q.length c) q.length (wM q)) (hb:∀b∈bH A,b∈bH M.tx∨w.heap.size≤b) (hq:q.length≤s.c.tx):
 bE p T M w {s with tx:=q} (w'.setCell ⟨p,15,Option.none⟩ (.slice A q.length c)):=by
 have hlt:=h.lt
 have hal:=h.all.1
 have hpl:p<w.heap.size:=h.bk.lt
 have hpA:p∉bH A:=fun hx=>by rcases hb p hx with y|y;exact h.nd.pt y;omega
 have hf2:Fr (fun b=>b∈bH M.tx∨b=p) w (w'.setCell ⟨p,15,Option.none⟩ (.slice A q.length c)):=(hf.mono fun b _ hb=> .inl hb).setCell (p:=⟨p,15,Option.none⟩) (fun _=> .inr rfl) _
 have orx:∀b∈bH M.rx,b<w.heap.size:=fun b hb=>hlt b (by simp[bX,aK,hb])
 have krx:∀b∈bH M.rx,¬(b∈bH M.tx∨b=p):=fun b hb hx=>by
  rcases hx with hx|rfl
  ·exact h.nd.rt b hb hx
  ·exact h.nd.pr hb
 have arx:∀b∈bH A,b∉bH M.rx:=fun b hbA hy=>by
  rcases hb b hbA with z|z
  ·exact(fun b hb hx=>h.nd.rt b hx hb) b z hy
  ·have:=orx b hy;omega
 have oca:∀b∈bH M.ca,b<w.heap.size:=fun b hb=>hlt b (by simp[bX,aK,hb])
 have kca:∀b∈bH M.ca,¬(b∈bH M.tx∨b=p):=fun b hb hx=>by
  rcases hx with hx|rfl
  ·exact(fun b hb hx=>h.nd.tc b hx hb) b hb hx
  ·exact h.nd.pc hb
 have aca:∀b∈bH A,b∉bH M.ca:=fun b hbA hy=>by
  rcases hb b hbA with z|z
  ·exact h.nd.tc b z hy
  ·have:=oca b hy;omega
 have oim:∀b∈bH M.im,b<w.heap.size:=fun b hb=>hlt b (by simp[bX,aK,hb])
 have kim:∀b∈bH M.im,¬(b∈bH M.tx∨b=p):=fun b hb hx=>by
  rcases hx with hx|rfl
  ·exact(fun b hb hx=>h.nd.ti b hx hb) b hb hx
  ·exact h.nd.pi hb
 have aim:∀b∈bH A,b∉bH M.im:=fun b hbA hy=>by
  rcases hb b hbA with z|z
  ·exact h.nd.ti b z hy
  ·have:=oim b hy;omega
 refine⟨{M with tx:=A,txc:=c},fun b hb'=> ?_,⟨(h.bk.keep hf (fun hx=>h.nd.pt hx)).set 15 _,aU h.rx hf2 krx,?_,aU h.ca hf2 kca,aU h.im hf2 kim,?_,{h.ok with},h.rxl,hq,h.all.keep hf2 ?_,fun b hb'=> ?_,h.dk,h.ip⟩,hf2.mono fun b _ hb'=> ?_⟩
 ·simp only[bX,aK,List.mem_cons,List.mem_append]at hb'⊢
  rcases hb' with y|y|y|y|y
  ·exact .inl (.inl y)
  ·simp[y]
  ·rcases hb b y with z|z
   ·simp[z]
   ·exact .inr z
  ·simp[y]
  ·simp[y]
 ·refine aU (S:=aJ p) hA ((Fr.refl (aJ p) w').setCell (p:=⟨p,15,Option.none⟩) (fun _=>rfl) _) fun b hb' e=>hpA ?_
  have e':b=p:=e
  exact e'▸hb'
 ·exact⟨h.nd.pr,hpA,h.nd.pc,h.nd.pi,fun b hb hx=>arx b hx hb,h.nd.rc,h.nd.ri,aca,aim,h.nd.ci⟩
 ·rintro(hx|hx)
  ·exact h.ga _ (by simp[bX,aK,hx]) rfl
  ·exact h.ga p (gZ p M) hx.symm
 ·simp only[bX,aK,List.mem_cons,List.mem_append]at hb'
  rcases hb' with y|y|y|y|y
  ·exact h.ga b (by simp[bX,aK,y])
  ·exact h.ga b (by simp[bX,aK,y])
  ·rcases hb b y with z|z
   ·exact h.ga b (by simp[bX,aK,z])
   ·omega
  ·exact h.ga b (by simp[bX,aK,y])
  ·exact h.ga b (by simp[bX,aK,y])
 ·rcases hb' with y|rfl
  ·simp[bX,aK,y]
  ·exact gZ _ _
theorem aA.caTurn {w w':World} {p T:Nat} {M:bQ} {s:St} {q:List aS} {A:Option Addr} {c:Nat} (h:aA w p T M s) (hf:Fr (fun b=>b∈bH M.ca) w w') (hA:w'.ownsRow 0 114 11 (.slice A q.length c) q.length (xT q)) (hb:∀b∈bH A,b∈bH M.ca∨w.heap.size≤b) (ok:({s with cache:=q}:St).Ok) (hdk:(q.map (·.ip)).Nodup) (hip:∀e∈q,e.ip<4294967296):
 bE p T M w {s with cache:=q} (w'.setCell ⟨p,21,Option.none⟩ (.slice A q.length c)):=by
 have hlt:=h.lt
 have hal:=h.all.1
 have hpl:p<w.heap.size:=h.bk.lt
 have hpA:p∉bH A:=fun hx=>by rcases hb p hx with y|y;exact h.nd.pc y;omega
 have hf2:Fr (fun b=>b∈bH M.ca∨b=p) w (w'.setCell ⟨p,21,Option.none⟩ (.slice A q.length c)):=(hf.mono fun b _ hb=> .inl hb).setCell (p:=⟨p,21,Option.none⟩) (fun _=> .inr rfl) _
 have orx:∀b∈bH M.rx,b<w.heap.size:=fun b hb=>hlt b (by simp[bX,aK,hb])
 have krx:∀b∈bH M.rx,¬(b∈bH M.ca∨b=p):=fun b hb hx=>by
  rcases hx with hx|rfl
  ·exact h.nd.rc b hb hx
  ·exact h.nd.pr hb
 have arx:∀b∈bH A,b∉bH M.rx:=fun b hbA hy=>by
  rcases hb b hbA with z|z
  ·exact(fun b hb hx=>h.nd.rc b hx hb) b z hy
  ·have:=orx b hy;omega
 have otx:∀b∈bH M.tx,b<w.heap.size:=fun b hb=>hlt b (by simp[bX,aK,hb])
 have ktx:∀b∈bH M.tx,¬(b∈bH M.ca∨b=p):=fun b hb hx=>by
  rcases hx with hx|rfl
  ·exact h.nd.tc b hb hx
  ·exact h.nd.pt hb
 have atx:∀b∈bH A,b∉bH M.tx:=fun b hbA hy=>by
  rcases hb b hbA with z|z
  ·exact(fun b hb hx=>h.nd.tc b hx hb) b z hy
  ·have:=otx b hy;omega
 have oim:∀b∈bH M.im,b<w.heap.size:=fun b hb=>hlt b (by simp[bX,aK,hb])
 have kim:∀b∈bH M.im,¬(b∈bH M.ca∨b=p):=fun b hb hx=>by
  rcases hx with hx|rfl
  ·exact(fun b hb hx=>h.nd.ci b hx hb) b hb hx
  ·exact h.nd.pi hb
 have aim:∀b∈bH A,b∉bH M.im:=fun b hbA hy=>by
  rcases hb b hbA with z|z
  ·exact h.nd.ci b z hy
  ·have:=oim b hy;omega
 refine⟨{M with ca:=A,cac:=c},fun b hb'=> ?_,⟨(h.bk.keep hf (fun hx=>h.nd.pc hx)).set 21 _,aU h.rx hf2 krx,aU h.tx hf2 ktx,?_,aU h.im hf2 kim,?_,ok,h.rxl,h.txl,h.all.keep hf2 ?_,fun b hb'=> ?_,hdk,hip⟩,hf2.mono fun b _ hb'=> ?_⟩
 ·simp only[bX,aK,List.mem_cons,List.mem_append]at hb'⊢
  rcases hb' with y|y|y|y|y
  ·exact .inl (.inl y)
  ·simp[y]
  ·simp[y]
  ·rcases hb b y with z|z
   ·simp[z]
   ·exact .inr z
  ·simp[y]
 ·refine aU (S:=aJ p) hA ((Fr.refl (aJ p) w').setCell (p:=⟨p,21,Option.none⟩) (fun _=>rfl) _) fun b hb' e=>hpA ?_
  have e':b=p:=e
  exact e'▸hb'
 ·exact⟨h.nd.pr,h.nd.pt,hpA,h.nd.pi,h.nd.rt,fun b hb hx=>arx b hx hb,h.nd.ri,fun b hb hx=>atx b hx hb,h.nd.ti,aim⟩
 ·rintro(hx|hx)
  ·exact h.ga _ (by simp[bX,aK,hx]) rfl
  ·exact h.ga p (gZ p M) hx.symm
 ·simp only[bX,aK,List.mem_cons,List.mem_append]at hb'
  rcases hb' with y|y|y|y|y
  ·exact h.ga b (by simp[bX,aK,y])
  ·exact h.ga b (by simp[bX,aK,y])
  ·exact h.ga b (by simp[bX,aK,y])
  ·rcases hb b y with z|z
   ·exact h.ga b (by simp[bX,aK,z])
   ·omega
  ·exact h.ga b (by simp[bX,aK,y])
 ·rcases hb' with y|rfl
  ·simp[bX,aK,y]
  ·exact gZ _ _
end Go.Proofs.YtcllkmllflheiaaGreatDoor
namespace Go.Proofs.YtcllkmllflheiaaGreatDoor
open Go.RowKit Go.Proofs
section
variable {P:Program} {opl:List Oper} {Q:Exit→Act→World→Prop} {rest:List Oper} {n:Nat} {u:Nat→Value} {l:List (Nat×Value)} {w:World} {o:Oper} {v:Value} {p T:Nat} {M:bQ} {s:St} {k:Nat}
theorem sMo {r:Result Next} (s':St) (ok:s'.Ok) (hB:aA w p T M s) (h:∀w',aA w' p T M s'→Fr (bX p M) w w'→wl P opl Q rest (F n u l) w')
 (hw:Region.wanted o (yielded opl.toArray (F n u l).tmps)=true:=by first|exact aL rfl|exact wg rfl rfl rfl|(refine aM rfl (aI (Lib.hid rfl) rfl) ?_;go_simp<;>fail)) (hd:o.dst=none:=by rfl)
 (hv:(∀j,w.cell? ⟨p,j,none⟩=(lF s T M)[j]?)→(∀j,w.frozen? ⟨p,j,none⟩=false)→(execOp (F n u l).eval o).run P w=r:=by intro _ _;go_simp;((try with_reducible rfl);done)) (hr:r= .ok .skip (w.setCell ⟨p,k,none⟩ v):=by rfl)
 (he:(lF s T M).setIfInBounds k v=lF s' T M:=by rfl) (hc:s'.c=s.c:=by rfl) (hrx:s'.rx=s.rx:=by rfl) (ht:s'.tx=s.tx:=by rfl) (hm:s'.cache=s.cache:=by rfl) (hi:s'.image=s.image:=by rfl):wl P opl Q (o::rest) (F n u l) w:=
 sS hw hd (hv hB.bk.cells hB.fr) hr (h _ (hB.set1 k v s' he hc hrx ht hm hi ok) (gO p M w k v))
theorem dMo {S:World→Prop} {brk t:List Nat} {c:Bool} {j:Nat} {r:Result Next} (s':St) (ok:s'.Ok) (hB:aA w p T M s) (h:∀w',aA w' p T M s'→Fr (bX p M) w w'→wdr P opl Q S brk false t (F n u l) w')
 (hk:Nat.blt j 1000=true:=by rfl) (h0:kdO opl j=2:=by rfl) (ho:opl[j]? =some o:=by rfl) (hw:Region.wanted o (yielded opl.toArray (F n u l).tmps)=true:=by first|exact aL rfl|exact wg rfl rfl rfl|(refine aM rfl (aI (Lib.hid rfl) rfl) ?_;go_simp<;>fail)) (hd:o.dst=none:=by rfl) (hb:(c&& !(brk.contains j))=false:=by rfl)
 (hv:(∀j,w.cell? ⟨p,j,none⟩=(lF s T M)[j]?)→(∀j,w.frozen? ⟨p,j,none⟩=false)→(execOp (F n u l).eval o).run P w=r:=by intro _ _;go_simp;((try with_reducible rfl);done)) (hr:r= .ok .skip (w.setCell ⟨p,k,none⟩ v):=by rfl)
 (he:(lF s T M).setIfInBounds k v=lF s' T M:=by rfl) (hc:s'.c=s.c:=by rfl) (hrx:s'.rx=s.rx:=by rfl) (ht:s'.tx=s.tx:=by rfl) (hm:s'.cache=s.cache:=by rfl) (hi:s'.image=s.image:=by rfl):wdr P opl Q S brk c (j::t) (F n u l) w:=
 dS (h _ (hB.set1 k v s' he hc hrx ht hm hi ok) (gO p M w k v)) hk h0 ho hw hd hb (hv hB.bk.cells hB.fr) hr
end
instance (p T:Nat) (M:bQ) (s:St):Kp0 fun w=>aA w p T M s:=⟨fun _ _ h f=>h.none f⟩
theorem bE.fin {p T:Nat} {M:bQ} {w w1:World} {s:St} (h:bE p T M w s w1):∃M1,aA w1 p T M1 s∧∀w' s',bE p T M1 w1 s' w'→bE p T M w s' w':=by
 obtain⟨M1,o1,h1,f1⟩:=h
 exact⟨M1,h1,fun _ _ x=> .comp o1 f1 x⟩
end Go.Proofs.YtcllkmllflheiaaGreatDoor
namespace Go.Proofs.YtcllkmllflheiaaGreatDoor
open Go.RowKit Go.Proofs
attribute [local go_sem] aG aD cV aF
theorem bSz (l:List UInt8) (i j:Nat):(sub l i j).length=min j l.length-i:=by unfold sub;rw[List.length_drop,List.length_take]
theorem cvM {w:World} {g:Nat} {t:TypeId} {cs:Array Value} (l:List UInt8) (k:Nat) (hB:Bk w g t cs) (hc:cs.toList=l.map fun c=> .int .u8 (c.toNat:Int)) (cap:Nat) (hk:l.length=k:=by rfl):
 (convert 55 9 (.slice (some ⟨g,0,none⟩) k cap)).run Tryz.prog w= .ok (.string (bs l)) w:=by
 have h:=Lib.run_convert_whole (P:=Tryz.prog) w 55 5 9 Tryz.underlying55 Tryz.underlying5 Tryz.underlying9 g 0 (bs l) (fun i h=>by
  have hi:i<l.length:=by rwa [aG]at h
  rw[Nat.zero_add,hB.cell i,←Array.getElem?_toList,hc,List.getElem?_map,List.getElem?_eq_getElem hi,gW l i h]
  rfl) cap
 rwa [aG,hk]at h
theorem mcL (m:Mac):(cG m).length=6:=rfl
theorem Io (l:List UInt8) (i j:Nat) (h:j-i=2:=by rfl):IntKind.u16.wrap (num (sub l i j):Int)=num (sub l i j):=by
 have h1:=nR (sub l i j)
 have h2:=iM l i j
 rw[h]at h2
 have h3:=Nat.pow_le_pow_right (show 0<256 by decide) h2
 rw[IntKind.wrap_u16];omega
section
variable {P:Program} {Q:Exit→Act→World→Prop} {opl rest:List Oper} {o:Oper} {d j:Nat} {n:Nat} {u:Nat→Value} {l:List (Nat×Value)} {w:World} {v:Value} {k:Nat} {c:Bool} {S:World→Prop} {brk t:List Nat}
theorem zQ {fn:Func} {R:Ending→World→Prop} {t t':Tmp} {ty t2:TypeId} {g:Nat} {cs:Array Value} {td:TypeDesc} {v v':Value} (hB:Bk w g t2 cs) (hu:P.underlying ty=some td) (h:R (.returned (.tuple #[.agg cs,v'])) w) (hr:fn.results= #[.cell t ty,.tmp t']:=by rfl)
 (hp:(F n u l).tmps.getD t undef=v:=by go_simp;((try with_reducible rfl);done)) (hp':v= .pointer (some ⟨g,0,none⟩):=by rfl) (hq:(F n u l).tmps.getD t' undef=v':=by go_simp;((try with_reducible rfl);done)) (hd:(match td with| .struct _| .array _ _=>true|_=>false)=true:=by rfl) (hi:(P.info? ty).map (·.size)=some cs.size:=by kernel_rfl):bodyPost P fn R .ret (F n u l) w:=
 bodyPost_ret (bZ hr _ w g t2 cs v' td (hp.trans hp') hq hB hu hd hi) rfl h
theorem B2 {ty ty2:TypeId} {x y:Operand} {a b:List UInt8} (ho:o.op= .binOp .add ty x y ty2) (hx:(F n u l).eval x= .string (bs a)) (hy:(F n u l).eval y= .string (bs b)) (hl:a.length+b.length≤9223372036854775807) (w:World):(execOp (F n u l).eval o).run P w= .ok (.value (.string (bs (a++b)))) w:=by
 have hln:¬9223372036854775807<a.length+b.length:=by omega
 obtain⟨ds,op,ty',po,af,gd⟩:=o
 dsimp only at ho
 subst ho
 generalize(F n u l).eval=ev at*
 go_simp
theorem sa {ty ty2:TypeId} {x y:Operand} {a b:List UInt8} {vx vy:Value} (ho:o.op= .binOp .add ty x y ty2:=by rfl) (hw:Region.wanted o (yielded opl.toArray (F n u l).tmps)=true:=by first|exact aL rfl|exact wg rfl rfl rfl|(refine aM rfl (aI (Lib.hid rfl) rfl) ?_;go_simp<;>fail)) (hd:o.dst=some d:=by rfl)
 (hx:(F n u l).eval x=vx:=by go_simp;((try with_reducible rfl);done)) (hx':vx= .string (bs a):=by rfl) (hy:(F n u l).eval y=vy:=by go_simp;((try with_reducible rfl);done)) (hy':vy= .string (bs b):=by rfl) (hl:a.length+b.length≤9223372036854775807:=by first|omega|(simp only[List.length_append,List.length_cons,List.length_nil,aH,bSz,mcL];omega)) (h:wl P opl Q rest (F n u ((d,.string (bs (a++b)))::l)) w):wl P opl Q (o::rest) (F n u l) w:=by
 rw[cJ]at h⊢;exact cU hw (B2 ho (hx.trans hx') (hy.trans hy') hl w) (by rw[hd,eJ];exact h)
theorem da {ty ty2:TypeId} {x y:Operand} {a b:List UInt8} {vx vy:Value} (hk:Nat.blt k 1000=true:=by rfl) (h0:kdO opl k=0:=by rfl) (ho:opl[k]? =some o:=by rfl) (hop:o.op= .binOp .add ty x y ty2:=by rfl) (hw:Region.wanted o (yielded opl.toArray (F n u l).tmps)=true:=by first|exact aL rfl|exact wg rfl rfl rfl|(refine aM rfl (aI (Lib.hid rfl) rfl) ?_;go_simp<;>fail)) (hd:o.dst=some d:=by rfl)
 (hx:(F n u l).eval x=vx:=by go_simp;((try with_reducible rfl);done)) (hx':vx= .string (bs a):=by rfl) (hy:(F n u l).eval y=vy:=by go_simp;((try with_reducible rfl);done)) (hy':vy= .string (bs b):=by rfl) (hl:a.length+b.length≤9223372036854775807:=by first|omega|(simp only[List.length_append,List.length_cons,List.length_nil,aH,bSz,mcL];omega)) (h:wdr P opl Q S brk c t (F n u ((d,.string (bs (a++b)))::l)) w):wdr P opl Q S brk c (k::t) (F n u l) w:=by
 rw[aR]at h⊢;rw[plN hk h0];exact Gz (bY ho) hw _ (B2 hop (hx.trans hx') (hy.trans hy') hl) (by rw[hd,eJ];exact h)
theorem W2 {X p:Prop} (k:X) (h:Hx X→p:=by
 intro kk
 repeat(first|(refine wI ?_;first|refine sE ?_|refine sm (h:= ?_)|refine sc (h:= ?_)|refine sa (h:= ?_)|refine sV (h:= ?_)|refine sL (h:= ?_)|refine sG (h:= ?_)|refine sN (h:= ?_))|refine tN ?_|(refine wJ ?_;first|refine cS ?_|refine cI ?_|refine cK ?_|refine cB ?_|refine cX ?_|refine cR ?_|(refine wH ?_;first|refine cT (h:= ?_)|refine cF (h:= ?_)))|refine bN ?_|refine tX ?_|refine bS ?_|refine tR ?_|refine bR ?_|refine bO (h:= ?_)|(refine wP ?_;first|refine z0 (h:= ?_)|refine zE (h:= ?_)|refine z1 (h:= ?_)|refine z2 (h:= ?_)))
 exact kk.out):p:=h ⟨k⟩
theorem D2 {X p:Prop} (k:X) (h:Hx X→p:=by
 intro kk
 repeat(first|refine dE ?_|refine dG ?_|refine dm (h:= ?_)|refine dc (h:= ?_)|refine da (h:= ?_)|refine dV (h:= ?_)|refine dL (h:= ?_)|refine dN (h:= ?_)|refine dX (h:= ?_))
 exact kk.out):p:=h ⟨k⟩
theorem sCe {r:Result Next} {f:FuncId} {xs:Array Value} (hc:Calls P f xs w fun e w'=>e= .returned v∧w=w') (h:wl P opl Q rest (F n u ((d,v)::l)) w) (hw:Region.wanted o (yielded opl.toArray (F n u l).tmps)=true:=by first|exact aL rfl|exact wg rfl rfl rfl|(refine aM rfl (aI (Lib.hid rfl) rfl) ?_;go_simp<;>fail)) (hd:o.dst=some d:=by rfl)
 (hv:(execOp (F n u l).eval o).run P w=r:=by go_simp;((try with_reducible rfl);done)) (hr:r= .ok (.enter f xs) w:=by rfl):wl P opl Q (o::rest) (F n u l) w:=
 sC hc (by rintro _ rfl;exact h) hw hd (fun _ _ h=>h) hv hr
theorem dQe {r:Result Next} {f:FuncId} {xs:Array Value} (hc:Calls P f xs w fun e w'=>e= .returned v∧w=w') (hS:S w) (h:wdr P opl Q S brk true t (F n u ((d,v)::l)) w) (hk:Nat.blt k 1000=true:=by rfl) (h0:kdO opl k=2:=by rfl) (ho:opl[k]? =some o:=by rfl) (hw:Region.wanted o (yielded opl.toArray (F n u l).tmps)=true:=by first|exact aL rfl|exact wg rfl rfl rfl|(refine aM rfl (aI (Lib.hid rfl) rfl) ?_;go_simp<;>fail)) (hd:o.dst=some d:=by rfl)
 (hb:(c&& !(brk.contains k))=true:=by rfl) (hv:(execOp (F n u l).eval o).run P w=r:=by go_simp;((try with_reducible rfl);done)) (hr:r= .ok (.enter f xs) w:=by rfl):wdr P opl Q S brk c (k::t) (F n u l) w:=
 dC hc (by rintro _ rfl;exact hS) (by rintro _ rfl _;exact h) hk h0 ho hw hd hb (fun _ _ h=>h) hv hr
end
end Go.Proofs.YtcllkmllflheiaaGreatDoor
namespace Go.Proofs.YtcllkmllflheiaaGreatDoor
open Go.RowKit Go.Proofs
attribute [local go_sem] aG aD cV aF
attribute [local simp] ibq ibn eqN ltN leN eqL ltL gtL leL geL
theorem rA (ty:Nat) (ld:List UInt8) (m0 m1 m2 m3 m4 m5 n0 n1 n2 n3 n4 n5:UInt8) (w:World) (hty:ty<65536) (hld:ld.length≤9223372036854775807):
 Calls Tryz.prog 147 #[.agg #[.int .u8 (m0.toNat:Int),.int .u8 (m1.toNat:Int),.int .u8 (m2.toNat:Int),.int .u8 (m3.toNat:Int),.int .u8 (m4.toNat:Int),.int .u8 (m5.toNat:Int),.int .u8 (n0.toNat:Int),.int .u8 (n1.toNat:Int),.int .u8 (n2.toNat:Int),.int .u8 (n3.toNat:Int),.int .u8 (n4.toNat:Int),.int .u8 (n5.toNat:Int),.int .u16 (ty:Int),.string (bs ld)]] w (eL (eG (m0,m1,m2,m3,m4,m5) (n0,n1,n2,n3,n4,n5) ty ld) w):=by
 obtain⟨z,hz⟩:∃z,eG (m0,m1,m2,m3,m4,m5) (n0,n1,n2,n3,n4,n5) ty ld=z:=⟨_,rfl⟩
 unfold eL
 rw[hz]
 unfold eG at hz
 refine en Tryz.func147 Tryz.ntmps147 ?_
 refine W ?_
 refine sA ?_
 intro w1 hB f1
 split at hz<;>rename_i h0
 rotate_left
 split at hz<;>rename_i h1
 rotate_left
 refine W ?_
 have e0:IntKind.i64.wrap (ty:Int)=ty:=IntWalk.i64_in _ ⟨by omega,by omega⟩
 refine dI (An hB f1) [] [0,3,7,12,1,4,8,9,13,2,5,6,10,11,14,15,16,17] (h:= ?_)
 rintro w2 hS _
 clear hB f1
 refine D2 ?_
 refine dQc (uD (m0,m1,m2,m3,m4,m5) _) hS ?_
 intro _ _ hS
 refine D2 ?_
 refine dQc (uD (n0,n1,n2,n3,n4,n5) _) hS ?_
 intro _ _ hS
 refine D2 ?_
 refine dQc (iO ty 2 _ (by omega) (by decide)) hS ?_
 intro _ _ hS
 refine D2 ?_
 refine dQc (xA (cG (m0,m1,m2,m3,m4,m5)++cG (n0,n1,n2,n3,n4,n5)++big 2 ty++ld) 60 _ (by simp only[List.length_append,aH,mcL];omega) (by decide)) hS ?_
 intro _ _ hS
 refine D2 ?_
 refine W ?_
 subst hz
 exact⟨by simp[lA,mM],hS.2⟩
 all_goals
  refine W ?_
  subst hz
  exact⟨rfl,f1⟩
end Go.Proofs.YtcllkmllflheiaaGreatDoor
namespace Go.Proofs.YtcllkmllflheiaaGreatDoor
open Go.RowKit Go.Proofs
attribute [local go_sem] aG aD cV aF
attribute [local simp] ibq ibn eqN ltN leN eqL ltL gtL leL geL
theorem xH (op fi ti:Nat) (m0 m1 m2 m3 m4 m5 n0 n1 n2 n3 n4 n5:UInt8) (w:World) (ho:op<65536) (hfi:fi<4294967296) (hti:ti<4294967296):
 Calls Tryz.prog 91 #[.agg #[.int .u16 (op:Int),.int .u8 (m0.toNat:Int),.int .u8 (m1.toNat:Int),.int .u8 (m2.toNat:Int),.int .u8 (m3.toNat:Int),.int .u8 (m4.toNat:Int),.int .u8 (m5.toNat:Int),.int .u32 (fi:Int),.int .u8 (n0.toNat:Int),.int .u8 (n1.toNat:Int),.int .u8 (n2.toNat:Int),.int .u8 (n3.toNat:Int),.int .u8 (n4.toNat:Int),.int .u8 (n5.toNat:Int),.int .u32 (ti:Int)]] w (eL (lC op (m0,m1,m2,m3,m4,m5) fi (n0,n1,n2,n3,n4,n5) ti) w):=by
 obtain⟨z,hz⟩:∃z,lC op (m0,m1,m2,m3,m4,m5) fi (n0,n1,n2,n3,n4,n5) ti=z:=⟨_,rfl⟩
 unfold eL
 rw[hz]
 unfold lC at hz
 refine en Tryz.func91 Tryz.ntmps91 ?_
 refine W ?_
 refine sA ?_
 intro w1 hB f1
 have e0:IntKind.i64.wrap (op:Int)=op:=IntWalk.i64_in _ ⟨by omega,by omega⟩
 obtain⟨b,hb⟩:∃b,decide (op=1∨op=2)=b:=⟨_,rfl⟩
 refine V ?_
 refine cS (cS ?_)
 refine cM [1] [(11,.bool (!b))] (fun w'=>w'=w1) ?_ ?_
 ·by_cases h1:op=1
  ·obtain rfl:b=true:=by rw[←hb];simp[h1]
   refine W ?_
   exact mt rfl
  by_cases h2:op=2
  ·obtain rfl:b=true:=by rw[←hb];simp[h2]
   refine W ?_
   exact mt rfl
  ·obtain rfl:b=false:=by rw[←hb];simp[h1,h2]
   refine W ?_
   exact mt rfl
 rintro u w2 rfl
 split at hz<;>rename_i h1
 rotate_left
 obtain rfl:b=false:=by rw[←hb];exact decide_eq_false h1
 rotate_right
 obtain rfl:b=true:=by rw[←hb];exact decide_eq_true h1
 refine W ?_
 refine dI (An hB f1) [] [0,5,9,13,17,1,2,6,10,14,18,3,4,7,8,11,12,15,16,19,20,21,22] (h:= ?_)
 rintro w3 hS _
 clear hB f1 hb h1
 refine D2 ?_
 refine dQc (iO op 2 _ (by omega) (by decide)) hS ?_
 intro _ _ hS
 refine D2 ?_
 refine dQc (uD (m0,m1,m2,m3,m4,m5) _) hS ?_
 intro _ _ hS
 refine D2 ?_
 refine dQc (lI fi _ (by omega)) hS ?_
 intro _ _ hS
 refine D2 ?_
 refine dQc (uD (n0,n1,n2,n3,n4,n5) _) hS ?_
 intro _ _ hS
 refine D2 ?_
 refine dQc (lI ti _ (by omega)) hS ?_
 intro _ _ hS
 refine D2 ?_
 refine W ?_
 subst hz
 exact⟨by simp[gH],hS.2⟩
 refine W ?_
 subst hz
 exact⟨rfl,f1⟩
end Go.Proofs.YtcllkmllflheiaaGreatDoor
