/- Parts of the walk; written by programs, merged. -/
import Derived.Test.YtcbkaiakdhiloaaGreatDoorSau
set_option linter.unusedSimpArgs false
set_option linter.unusedVariables false
set_option maxRecDepth 20000
set_option maxHeartbeats 8000000
namespace Go.Proofs.YtcbkaiakdhiloaaGreatDoor
open Go.RowKit Go.Proofs
structure aN where
 image:List UInt8
 lease:Nat
 next:Nat
 options:Bool
 port:Nat
 block:Nat
 window:Nat
 sent:Nat
 last:Int
 whn:Int
 now:Int
 id:Nat
def cH:Mac:=(2,0,0,0,0,42)
def DD:Mac:=(2,0,0,0,0,7)
def rW:Nat:=167772215
def iS:Nat:=167772161
def FD (v:List UInt8) (n:Int):Int:=v.foldl (fun n c=>wrap64 (wrap64 (10*n)+((c-48).toNat:Int))) n
def eC (nm:List UInt8) (l:List cP):Int:=l.foldl (fun n f=>if f.name=nm then FD f.value n else n) 0
def I2 (l:List bK) (c:UInt8):List UInt8:=(dM l c).getD []
namespace aN
def wrap (h:aN) (fm tp:Nat) (ld:List UInt8) (fi ti:Nat):aN×List UInt8:=
 let i:=(h.id+1)%65536
 ({h with id:=i},(bV cH DD 2048 (Br i 9 17 fi ti (mE fm tp fi ti ld).1).1).1)
def part (h:aN) (k:Nat):List UInt8:=sub h.image (k*h.block) (min h.image.length ((k+1)*h.block))
def blockN (port:Nat):Nat→Nat→aN→List (List UInt8)→aN×List (List UInt8)
 |0,_,h,out=>(h,out)
 |m+1,k,h,out=>
  if k*h.block≤h.image.length then
   let x:=h.wrap h.port port (cJ ⟨3,(k+1)%65536,[],h.part k,[]⟩).1 h.next rW
   blockN port m (k+1) x.1 (out++[x.2])
  else(h,out)
def blocks (h:aN) (port:Nat):aN×List (List UInt8):=blockN port h.window h.sent h []
def dhcp (h:aN) (u:C1):aN×List (List UInt8)×Bool:=
 let m:=aS u.ld
 if m.2≠0∨m.1.reply=true∨m.1.mac≠cH then(h,[],false)
 else
  let kind:UInt8:=if I2 m.1.os 53=[3]then 5 else 2
  let x:=h.wrap 67 68 (fV true m.1.xid 0 rW h.next (eE cH) [⟨53,[kind]⟩,⟨54,big 4 iS⟩,⟨51,big 4 h.lease⟩,⟨1,[255,255,255,0]⟩,⟨3,big 4 iS⟩]).1 iS rW
  (x.1,[x.2],decide (I2 m.1.os 53=[1])||decide (kind=5))
def gotN (w:Nat) (bk:Nat):Nat→Nat→Nat
 |0,s=>s
 |m+1,s=>if(s+(w-m))%65536=bk then s+(w-m)else gotN w bk m s
def ask (h:aN) (u:C1) (m:oL):aN×List (List UInt8)×Bool:=
 let b:=eC St.bNm m.fs
 let w:=eC St.wNm m.fs
 let h:={h with port:=(h.port+1)%65536,sent:=0,last:= -1,block:=b.toNat,window:=w.toNat}
 if u.tp≠69∨m.text≠[107,101,114,110,101,108]∨b=0∨w=0 then(h,[],false)
 else if h.options=false then
  let x:={h with block:=512,window:=1}.blocks u.fm
  (x.1,x.2,true)
 else
  let h:={h with block:=min h.block 300}
  let x:=h.wrap h.port u.fm (cJ ⟨6,0,[],[],[⟨St.tNm,dec h.image.length⟩,⟨St.bNm,dec h.block⟩,⟨St.wNm,dec h.window⟩]⟩).1 h.next rW
  (x.1,[x.2],true)
def acked (h:aN) (u:C1) (m:oL):aN×List (List UInt8)×Bool:=
 if u.tp≠h.port∨(h.last=m.block∧h.whn=h.now)then(h,[],true)
 else
  let x:={h with last:=m.block,whn:=h.now,sent:=gotN h.window m.block (h.window+1) h.sent}.blocks u.fm
  (x.1,x.2,true)
def tftp (h:aN) (u:C1) (m:oL):aN×List (List UInt8)×Bool:=
 if m.op=1 then h.ask u m else if m.op=4 then h.acked u m else(h,[],false)
def arp (h:aN) (a:zS):List (List UInt8)×Bool:=
 if a.ti=rW then([],decide (a.fi=0))
 else([(bV cH DD 2054 (iV 2 DD a.ti cH a.fi).1).1],decide (a.fi=rW)&&(decide (a.ti=iS)||decide (a.ti=h.next)))
def answer (h:aN) (s:List UInt8):aN×List (List UInt8)×Bool:=
 let e:=aI s
 if e.2≠0∨e.1.fm≠cH∨s.length<60 then(h,[],false)
 else if e.1.ty=2054 then
  let a:=bE e.1.by'
  if a.2≠0∨a.1.op≠1∨a.1.fm≠cH then(h,[],false)else(h,h.arp a.1)
 else
  let p:=aO e.1.by'
  let u:=aX p.1.by' p.1.fm p.1.«to»
  if e.1.ty≠2048∨p.2≠0∨u.2≠0∨p.1.pr≠17 then(h,[],false)
  else if u.1.tp=67 then h.dhcp u.1
  else
   let m:=aT u.1.ld
   if m.2≠0∨p.1.fm≠rW∨p.1.«to»≠h.next then(h,[],false)else h.tftp u.1 m.1
end aN
end Go.Proofs.YtcbkaiakdhiloaaGreatDoor
namespace Go.Proofs.YtcbkaiakdhiloaaGreatDoor
open Go.RowKit Go.Proofs
structure FH where
 now:Int
 lease:Nat
 phase:Nat
 address:Nat
 boots:Int
 bytes:Nat
 lost:Int
 cached:Nat
def St.look (s:St):FH:=⟨s.now,s.lease,s.phase,s.address,s.boots,s.image.length,s.lost,s.cache.length⟩
structure cD where
 loss:List Int
 n:Nat
 lost:Nat
 was:FH
namespace cD
def news (g:cD) (l:FH):Bool:=decide (l.lease≠g.was.lease)||decide (l.phase≠g.was.phase)||decide (l.bytes≠g.was.bytes)||decide (l.cached≠g.was.cached)
def seen (g:cD) (l:FH):cD:=if g.news l then⟨g.loss,g.n+1,0,l⟩else⟨g.loss,g.n+1,g.lost,g.was⟩
def hit (g:cD):Bool:=decide (0<g.loss.length)&&decide ((g.loss.getD (g.n%g.loss.length) 0).tmod 3=0)&&decide (g.lost<2)
def gone (g:cD) (s:St):cD×Bool:=
 let g:=g.seen s.look
 if g.hit then(⟨g.loss,g.n,g.lost+1,g.was⟩,true)else(g,false)
end cD
def St.calm (s:St):Bool:=(decide (s.phase≠1∧s.phase≠2)||(decide (1≤s.block)&&decide (s.next≤s.image.length+1)))&&s.rx.all fun f=>decide (f.length≤1048576)
theorem St.calm_rest {s:St} (h:s.calm=true):s.Rest∧∀f∈s.rx,f.length≤4611686018427387904:=by
 unfold St.calm at h
 simp only[Bool.and_eq_true,Bool.or_eq_true,decide_eq_true_eq,List.all_eq_true]at h
 refine⟨fun hp=> ?_,fun f hf=>Nat.le_trans (h.2 f hf) (by decide)⟩
 rcases h.1 with h1|h1
 ·omega
 ·exact h1
def IT (s:List UInt8):Bool:=
 let p:=(aO (aI s).1.by').1
 let f:=(aT (aX p.by' p.fm p.«to»).1.ld).1.fs
 let b:=eC St.bNm f
 let w:=eC St.wNm f
 decide ((aI s).1.ty≠2048)||(decide (0≤b)&&decide (b≤70000)&&decide (0≤w)&&decide (w≤70000))
def tM (twice:Nat):List (List UInt8)→St→cD→Option (St×cD)
 |[],s,g=>some (s,g)
 |a::l,s,g=>
  if g.n<4611686018427387904∧g.lost≤4 then
   let x:=g.gone s
   if x.2 then tM twice l s x.1
   else if(s.put a).2 then
    let s:=(s.put a).1
    let s:=if 0<twice∧x.1.n%twice=0 then(s.put a).1 else s
    if s.calm then
     let y:=pU 2 s 0
     if y.2<1 then none else tM twice l y.1 x.1
    else none
   else none
  else none
def Ar (twice:Nat):List (List UInt8)→St→aN→cD→Option (St×aN×cD)
 |[],s,h,g=>some (s,h,g)
 |f::r,s,h,g=>
  if f.length≤1048576∧h.sent+h.window≤2097152∧IT f=true∧g.n<4611686018427387904∧g.lost≤4 then
   let a:=h.answer f
   if a.2.2=true∧a.2.1.length≤1048576 then
    let x:=g.gone s
    if x.2 then Ar twice r s a.1 x.1
    else match tM twice a.2.1 s x.1 with
     |none=>none
     |some (s,g)=>Ar twice r s a.1 g
   else none
  else none
def oB (twice:Nat):Nat→St→aN→cD→Option (St×aN×cD)
 |0,_,_,_=>none
 |k+1,s,h,g=>
  if s.tx.length≤16 then
   match s.tx with
   |[]=>some (s,h,g)
   |f::r=>match Ar twice (f::r) {s with tx:=[]} h g with
    |none=>none
    |some (s,h,g)=>oB twice k s h g
  else none
def xQ (twice k:Nat):Nat→Nat→St→aN→cD→Option (St×aN×Bool)
 |0,_,s,h,_=>some (s,h,false)
 |m+1,t,s,h,g=>
  if s.now<4611686018427387904∧t<1000000000000000000 then
   match oB twice k (s.tick (7*t%4294967296)) {h with now:=((t+1:Nat):Int)} g with
   |none=>none
   |some (s,h,g)=>if s.phase=3∨s.phase=4 then some (s,h,decide (s.phase=3))else xQ twice k m (t+1) s h g
  else none
end Go.Proofs.YtcbkaiakdhiloaaGreatDoor
namespace Go.Proofs.YtcbkaiakdhiloaaGreatDoor
open Go.RowKit Go.Proofs
def EH (s:List UInt8) (cap block window:Nat):St:=⟨⟨cH,[107,101,114,110,101,108],cap,sha s,block,window,16,16⟩,[],[],0,0,0,0,0,[],0,0,0,0,0,0,0,0,0,0,0,0,0,0,0,0,0,0,0,0,0,0,[],[]⟩
def BI (s:List UInt8) (lease:Nat) (next:Nat) (o:Bool):aN:=⟨s,lease,next,o,0,0,0,0,0,0,0,0⟩
def Bf (loss:List Int) (s:St):cD:=⟨loss,0,0,s.look⟩
def iY:List UInt8:=[104,101,108,108,111]
set_option maxRecDepth 100000 in
theorem Jk:(xQ 0 50 100 0 (EH iY 600000 8 1) (BI iY 4294967295 iS true) (Bf [] (EH iY 600000 8 1))).map (fun r=>(r.2.2,r.1.phase,r.1.image))=some (true,3,iY):=by decide+kernel
end Go.Proofs.YtcbkaiakdhiloaaGreatDoor
namespace Go.Proofs.YtcbkaiakdhiloaaGreatDoor
open Go.RowKit Go.Proofs
theorem Bn (l:List UInt8) (hl:l.length≤100000000000) (w:World) (hRk:RU w 4 pT) (hRb:RU w 3 h0.list):
 Calls Tryz.prog 19 #[.string (bs l)] w fun e w'=>e= .returned (.string (bs (sha l)))∧Fr noB w w':=by
 go_enter Tryz.func19,Tryz.ntmps19
 have hfa:Fr noB w (w.alloc (.cells #[.string (bs l)] 9)):=(Fr.refl _ _).alloc _
 have hcall:=Dl l hl w.heap.size 1 (w.alloc (.cells #[.string (bs l)] 9)) ((Bk.new w _ _).cell 0) (by rw[oM];omega) (hRk.keep hfa id) (hRb.keep hfa id)
 clear hRk hRb
 obtain⟨o,ho⟩:∃o,o=sha l:=⟨_,rfl⟩
 rw[←ho]
 have hol:o.length=32:=by rw[ho];rfl
 rw[←ho]at hcall
 clear ho
 have hsz32:(Tryz.prog.info? 91).map (·.size)=some 32:=by kernel_rfl
 have h32:((u8s o).toArray).size=32:=by simp[u8s,hol]
 have hone:((u8s o).toArray).all (·.oneCell')=true:=by rw[Array.all_eq_true];intro k hk;exact iJ o _ (by simp)
 obtain⟨cb,hcb⟩:∃z,z=(u8s o).toArray:=⟨_,rfl⟩
 rw[←hcb]at hcall h32 hone
 have HCB:=Lib.hid hcb
 clear hcb
 go_wp2_with (first
  |(go_at_call 39;refine hcall.mono ?_;rintro e w9 ⟨rfl,hf9⟩)
  |(refine aJ rfl 91 (.tmp 3) (.tmp 6) rfl w9.heap.size 91 (u8s (List.replicate 32 0)).toArray cb rfl rfl (Bk.new w9 _ _) (by rw[h32];rfl) (by rw[hsz32,h32]) hone ?_;intro w10 hx10 hf10;have hcv:=kC (P:=Tryz.prog) w10 63 9 5 Tryz.underlying63 Tryz.underlying5 Tryz.underlying9 noB (some ⟨w9.heap.size,0,none⟩) 32 32 o (by have h:=SlR.of_bk (S:=noB) (n:=32) (size:=1) hx10 id h32;rw[HCB.out]at h;exact h) (.inr ⟨_,_,rfl⟩)))
 go_ret
 exact⟨rfl,((hfa.trans hf9).alloc _).trans' hf10 fun b hb h=>by
  unfold aH at h
  have:=(hfa.trans hf9).size
  omega⟩
end Go.Proofs.YtcbkaiakdhiloaaGreatDoor
namespace Go.Proofs.YtcbkaiakdhiloaaGreatDoor
open Go.RowKit Go.Proofs
attribute [local go_sem] aE aC aB aD
attribute [local simp] CZ ibq ibn eqN ltN leN eqL ltL gtL leL geL
def mW (s:List UInt8) (b wd:Int):jE:=⟨cH,[107,101,114,110,101,108],600000,sha s,b,wd,16,16⟩
def Ht (w:World):Prop:=zG w 0 #[.int .u8 2,.int .u8 0,.int .u8 0,.int .u8 0,.int .u8 0,.int .u8 42]
instance (g:Nat) (cs:Array Value):Kp0 fun w=>zG w g cs:=⟨fun _ _ h f=>zG.keep h f id⟩
instance:Kp0 fun w=>Glb w:=⟨fun _ _ h f=>h.keep f fun _ _=>id⟩
theorem tZ (s:List UInt8) (b wd:Int) (w:World) (hs:s.length≤100000000000) (hG:Glb w) (hC:Ht w):
 Calls Tryz.prog 7 #[.string (bs s),.int .i64 b,.int .i64 wd] w fun e w'=>e= .returned (.agg (CZ (mW s b wd)))∧Fr noB w w':=by
 refine en Tryz.func7 Tryz.ntmps7 ?_
 refine W ?_
 refine sA ?_
 intro w1 hB f1
 replace hG:=hG.keep f1 fun _ _=>id
 replace hC:=zG.keep hC f1 id
 refine W ?_
 refine dI (An hB (An hG hC)) [6] [1,3,4,0,2,5,6] (h:= ?_)
 rintro w2 hS f2
 have c0:=hS.2.2.2 0 _ rfl
 refine D ?_
 refine dQ (v:= .agg #[.int .u8 2,.int .u8 0,.int .u8 0,.int .u8 0,.int .u8 0,.int .u8 42]) ?_ ?_
 ·intro w' hS
  have k:=hS.2.2
  have c0:=k.2 0 _ rfl
  have c1:=k.2 1 _ rfl
  have c2:=k.2 2 _ rfl
  have c3:=k.2 3 _ rfl
  have c4:=k.2 4 _ rfl
  have c5:=k.2 5 _ rfl
  go_simp
 refine D ?_
 refine dQc (Bn s hs w2 hS.2.1.rounds hS.2.1.begin) hS ?_
 intro w3 f3 hS
 have hB:=hS.1
 obtain⟨hx,hh⟩:∃x,sha s=x:=⟨_,rfl⟩
 unfold mW
 rw[hh]
 refine D ?_
 refine dZ2 (h:= ?_)
 intro w4 hB f4
 refine⟨nofun,?_⟩
 refine D ?_
 refine W ?_
 exact bodyPost_ret (results_cell_row rfl _ _ _ 30 _ (0,0) _ (by rw[Ce];rfl) hB Tryz.underlying30 rfl (by kernel_rfl)) (by rw[Ce];rfl) ⟨rfl,aZ ((f1.none f2).none f3) (Nat.le_refl _) f4⟩
theorem BG (c:jE) (w:World) (hG:Glb w) (hc:c.Ok):Calls Tryz.prog 6 #[.agg (CZ c)] w fun e w'=>∃p,e= .returned (.tuple #[.pointer (some ⟨p,0,none⟩),.int .i64 0])∧MX (fun b=>b<w.heap.size) p (rH c) w'∧Fr noB w w':=
 (Gg c w hG).mono fun e w' h=>by
  obtain⟨L,he,hB,ho,hF⟩:=h.1 hc
  exact⟨L.p,he,⟨L,rfl,hB,fun b hb=>⟨Nat.lt_of_lt_of_le hb hF.size,fun hx=>by have:=ho b hx;omega⟩⟩,hF⟩
theorem G0 (a b c d e f g h:Int) (w:World):(Instr.field 45 (.agg #[.int .i64 a,.int .i64 b,.int .i64 c,.int .u32 d,.int .i64 e,.int .i64 f,.int .i64 g,.int .i64 h]) 2).run Tryz.prog w= .ok (.int .i64 c) w:=by kernel_rfl
end Go.Proofs.YtcbkaiakdhiloaaGreatDoor
namespace Go.Proofs.YtcbkaiakdhiloaaGreatDoor
open Go.RowKit Go.Proofs
section
variable {x c':Code} {P:Program} {K:Act→World→Prop} {Q:Exit→Act→World→Prop} {n:Nat} {u:Nat→Value} {l:List (Nat×Value)} {w:World}
theorem cW {K:KT} {a:Act} (H:cw P c' K a w) (hc:x=c':=by conv=>lhs;whnf):cw P x K a w:=by subst hc;exact H
theorem cBl {lI lO:List (Nat×Value)} (Φ:World→Prop) (hb:∀(K:KT) (u:Nat→Value),(∀u' w',Φ w'→K .normal (F n u' lO) w')→cw P c' K (F n u lI) w) (h2:∀u' w',Φ w'→K (F n u' lO) w') (hc:c'=x:=by conv=>lhs;whnf) (h:∀x∈lI,gx u l x.1=x.2:=by(repeat' (first|exact List.forall_mem_nil _|refine List.forall_mem_cons.2 ⟨?_,?_⟩));all_goals first|rfl|(go_simp<;>fail)):cw P x (Exit.then K Q) (F n u l) w:=by
 subst hc
 obtain⟨u1,e⟩:=J2 h
 rw[e]
 exact hb _ u1 fun u' w' hp=>h2 u' w' hp
theorem cBk {lI lO:List (Nat×Value)} {K:KT} (Φ:World→Prop) (hb:∀(K:KT) (u:Nat→Value),(∀u' w',Φ w'→K .normal (F n u' lO) w')→cw P c' K (F n u lI) w) (h2:∀u' w',Φ w'→K .normal (F n u' lO) w') (hc:c'=x:=by conv=>lhs;whnf) (h:∀x∈lI,gx u l x.1=x.2:=by(repeat' (first|exact List.forall_mem_nil _|refine List.forall_mem_cons.2 ⟨?_,?_⟩));all_goals first|rfl|(go_simp<;>fail)):cw P x K (F n u l) w:=by
 subst hc
 obtain⟨u1,e⟩:=J2 h
 rw[e]
 exact hb _ u1 fun u' w' hp=>h2 u' w' hp
def LH (K:KT):Prop:=∀(c:List PanicEntry) (a:Act) (w:World) (d:Option Tmp) (v:Value),K (.panic c) (a.put d v) w→K (.panic c) a w
theorem Mw {α:Type} {lI:List (Nat×Value)} {lO:α→List (Nat×Value)} {K:KT} (Φ:α→World→Prop) (hb:∀(K:KT) (u:Nat→Value),LH K→(∀g u' w',Φ g w'→K .normal (F n u' (lO g)) w')→cw P c' K (F n u lI) w) (h2:∀g u' w',Φ g w'→K .normal (F n u' (lO g)) w') (hp:LH K:=by intro c a w d v h;cases d<;>exact h) (hc:c'=x:=by conv=>lhs;whnf) (h:∀x∈lI,gx u l x.1=x.2:=by(repeat' (first|exact List.forall_mem_nil _|refine List.forall_mem_cons.2 ⟨?_,?_⟩));all_goals first|rfl|(go_simp<;>fail)):cw P x K (F n u l) w:=by
 subst hc
 obtain⟨u1,e⟩:=J2 h
 rw[e]
 exact hb _ u1 hp fun g u' w' hp=>h2 g u' w' hp
theorem mtK {lO:List (Nat×Value)} {K:KT} {Φ:World→Prop} (hK:∀u' w',Φ w'→K .normal (F n u' lO) w') (hp:Φ w) (h:∀x∈lO,gx u l x.1=x.2:=by(repeat' (first|exact List.forall_mem_nil _|refine List.forall_mem_cons.2 ⟨?_,?_⟩));all_goals first|rfl|(go_simp<;>fail)):K .normal (F n u l) w:=by
 obtain⟨u1,e⟩:=J2 h
 rw[e]
 exact hK u1 w hp
end
end Go.Proofs.YtcbkaiakdhiloaaGreatDoor
namespace Go.Proofs.YtcbkaiakdhiloaaGreatDoor
open Go.RowKit Go.Proofs
theorem D6 (l a1 a2 a3 a4 a5 a6 a7 a8 a9 a10 r:List UInt8) (e:l=(((((((((a1++a2)++a3)++a4)++a5)++a6)++a7)++a8)++a9)++a10)++r)
 (l1:a1.length=1) (l2:a2.length=1) (l3:a3.length=2) (l4:a4.length=2) (l5:a5.length=2) (l6:a6.length=1) (l7:a7.length=1) (l8:a8.length=2) (l9:a9.length=4) (l10:a10.length=4):
 aO l=if num a1/16≠4∨num a1%16<5 then(ip0,2)
 else if 5<num a1%16 then(ip0,4)
 else if num a3<20 then(ip0,2)
 else if l.length<num a3 then(ip0,1)
 else if fB (sub l 0 20)≠0 then(ip0,6)
 else if 32768≤num a5∨num a6=0 then(ip0,2)
 else if num a5%16384≠0 then(ip0,5)
 else(⟨num a4,num a6,num a7,num a9,num a10,r.take (num a3-20)⟩,0):=by
 have h20:¬l.length<20:=by rw[e];simp[l1,l2,l3,l4,l5,l6,l7,l8,l9,l10];omega
 have d1:sub l 0 1=a1:=by rw[e];simp[sub,List.append_assoc,←l1]
 match a1,l1 with
 |[x0],_=>match a2,l2 with
  |[x1],_=>match a3,l3 with
   |[x2,x3],_=>match a4,l4 with
    |[x4,x5],_=>match a5,l5 with
     |[x6,x7],_=>match a6,l6 with
      |[x8],_=>match a7,l7 with
       |[x9],_=>match a8,l8 with
        |[x10,x11],_=>match a9,l9 with
         |[x12,x13,x14,x15],_=>match a10,l10 with
          |[x16,x17,x18,x19],_=>
           unfold aO
           rw[if_neg h20]
           have d3:sub l 2 4=[x2,x3]:=by subst e;rfl
           have d4:sub l 4 6=[x4,x5]:=by subst e;rfl
           have d5:sub l 6 8=[x6,x7]:=by subst e;rfl
           have d6:sub l 8 9=[x8]:=by subst e;rfl
           have d7:sub l 9 10=[x9]:=by subst e;rfl
           have d9:sub l 12 16=[x12,x13,x14,x15]:=by subst e;rfl
           have d10:sub l 16 20=[x16,x17,x18,x19]:=by subst e;rfl
           have d11:sub l 20 (num [x2,x3])=r.take (num [x2,x3]-20):=by
            have hd:l.drop 20=r:=by subst e;rfl
            rw[←hd,sub,List.drop_take]
           rw[d1,d3,d4,d5,d6,d7,d9,d10,d11]
theorem xN (l a3 r:List UInt8) (b0 b1 b2 b3 b4 b5 c0 c1 c2 c3 c4 c5:UInt8) (e:l=(([b0,b1,b2,b3,b4,b5]++[c0,c1,c2,c3,c4,c5])++a3)++r) (l3:a3.length=2):
 aI l=if num a3<1536 then(Ff,3)else if 1500<r.length then(Ff,7)else(⟨(b0,b1,b2,b3,b4,b5),(c0,c1,c2,c3,c4,c5),num a3,r⟩,0):=by
 have h14:¬l.length<14:=by rw[e];simp[l3]
 match a3,l3 with
 |[x0,x1],_=>
  unfold aI
  rw[if_neg h14,kE,kE]
  subst e
  rfl
end Go.Proofs.YtcbkaiakdhiloaaGreatDoor
namespace Go.Proofs.YtcbkaiakdhiloaaGreatDoor
theorem Ai (id:Nat) (ttl pr:UInt8) (fi ti n:Nat):fB (eF id ttl pr fi ti n (fB (eF id ttl pr fi ti n 0)))=0:=by
 unfold eF
 rw[show big 2 0=[0,0] by decide]
 exact Co _ _ (by simp[Eo,aG])
theorem DX {a b:List UInt8} {n:Nat} (h:a.length=n):sub (a++b) 0 n=a:=by
 subst h;simp[sub]
theorem rS (id:Nat) (ttl pr:UInt8) (fi ti:Nat) (ld r:List UInt8) (hid:id<65536) (hfi:fi<4294967296) (hti:ti<4294967296) (ht:ttl.toNat≠0) (hl:ld.length≤1480):
 aO (fK id ttl pr fi ti ld++r)=(⟨id,ttl.toNat,pr.toNat,fi,ti,ld⟩,0):=by
 have hz:=Ai id ttl pr fi ti ld.length
 have hlen:=gC id ttl pr fi ti ld.length (fB (eF id ttl pr fi ti ld.length 0))
 have hs:sub (fK id ttl pr fi ti ld++r) 0 20=eF id ttl pr fi ti ld.length (fB (eF id ttl pr fi ti ld.length 0)):=by
  unfold fK;rw[List.append_assoc];exact DX hlen
 have hln:(fK id ttl pr fi ti ld++r).length=20+ld.length+r.length:=by unfold fK;simp[hlen];omega
 rw[D6 (fK id ttl pr fi ti ld++r) [69] [0] (big 2 (20+ld.length)) (big 2 id) [64,0] [ttl] [pr] (big 2 (fB (eF id ttl pr fi ti ld.length 0))) (big 4 fi) (big 4 ti) (ld++r)
  (by unfold fK eF Eo Dx;simp[List.append_assoc]) rfl rfl (aG _ _) (aG _ _) rfl rfl rfl (aG _ _) (aG _ _) (aG _ _),hs,hz,hln,
  nO 2 _ (by omega),nO 2 _ (by omega),nO 4 _ (by omega),nO 4 _ (by omega)]
 have e1:num [69]=69:=by decide
 have e2:num [64,0]=16384:=by decide
 have e3:num [ttl]=ttl.toNat:=by simp[num]
 have e4:num [pr]=pr.toNat:=by simp[num]
 rw[e1,e2,e3,e4,if_neg (by omega),if_neg (by omega),if_neg (by omega),if_neg (by omega),if_neg (by omega),if_neg (by omega),if_neg (by omega)]
 rw[show 20+ld.length-20=ld.length by omega,List.take_left' rfl]
end Go.Proofs.YtcbkaiakdhiloaaGreatDoor
namespace Go.Proofs.YtcbkaiakdhiloaaGreatDoor
theorem rU (tm fm:Mac) (ty:Nat) (ld:List UInt8):(jT tm fm ty ld).length=14+ld.length:=by
 unfold jT;simp[aG,eE];omega
def uQ (ld:List UInt8):List UInt8:=ld++List.replicate (60-(14+ld.length)) 0
theorem iE (tm fm:Mac) (ty:Nat) (ld:List UInt8) (h1:1536≤ty) (h2:ty<65536) (hl:ld.length≤1500):
 aI (kF tm fm ty ld)=(⟨tm,fm,ty,uQ ld⟩,0):=by
 obtain⟨b0,b1,b2,b3,b4,b5⟩:=tm
 obtain⟨c0,c1,c2,c3,c4,c5⟩:=fm
 have hb:=rU (b0,b1,b2,b3,b4,b5) (c0,c1,c2,c3,c4,c5) ty ld
 unfold kF
 rw[hb]
 rw[xN _ (big 2 ty) (uQ ld) b0 b1 b2 b3 b4 b5 c0 c1 c2 c3 c4 c5 (by unfold jT uQ eE;simp[List.append_assoc]) (aG _ _),nO 2 _ (by omega),if_neg (by omega),if_neg (by unfold uQ;simp;omega)]
end Go.Proofs.YtcbkaiakdhiloaaGreatDoor
namespace Go.Proofs.YtcbkaiakdhiloaaGreatDoor
open Go.RowKit Go.Proofs
theorem Dz:∀n x,big n (x%256^n)=big n x
 |0,_=>rfl
 |n+1,x=>by
  have h1:x%256^(n+1)/256=x/256%256^n:=by rw[Nat.pow_succ,Nat.mul_comm,Nat.mod_mul_right_div_self]
  have h2:UInt8.ofNat (x%256^(n+1))=UInt8.ofNat x:=by
   apply UInt8.toNat_inj.1
   simp only[UInt8.toNat_ofNat']
   rw[Nat.pow_succ,Nat.mul_comm]
   exact Nat.mod_mul_right_mod _ _ _
  unfold big
  rw[h1,h2,Dz n]
def Dk (A:Nat→Prop) (p:List UInt8):Prop:=p.length≤1500∧∀r,(aO (p++r)).2=0∧A (aO (p++r)).1.fm
def CD (A:Nat→Prop) (f:List UInt8):Prop:=(aI f).2=0∧(aI f).1.fm=cH∧((aI f).1.ty=2048→(aO (aI f).1.by').2=0∧A (aO (aI f).1.by').1.fm)
section
variable {A B:Nat→Prop} {s t u:St}
theorem Dk.mono {p:List UInt8} (h:Dk A p) (hAB:∀x,A x→B x):Dk B p:=⟨h.1,fun r=>⟨(h.2 r).1,hAB _ (h.2 r).2⟩⟩
theorem CD.ip (d:Mac) {p:List UInt8} (h:Dk A p):CD A (bV d cH 2048 p).1:=by
 unfold bV
 rw[if_neg (by decide),if_neg (by have:=h.1;omega)]
 unfold CD
 rw[iE _ _ _ _ (by decide) (by decide) h.1]
 exact⟨rfl,rfl,fun _=>h.2 _⟩
theorem CD.arp (d:Mac) (op:Nat) (fm:Mac) (fi:Nat) (tm:Mac) (ti:Nat):CD A (bV d cH 2054 (iV op fm fi tm ti).1).1:=by
 have hl:(iV op fm fi tm ti).1.length≤1500:=by unfold iV;split<;>simp[gS,aG,eE]
 unfold bV
 rw[if_neg (by decide),if_neg (by omega)]
 unfold CD
 rw[iE _ _ _ _ (by decide) (by decide) hl]
 exact⟨rfl,rfl,fun h=>by cases h⟩
structure yQ (A:Nat→Prop) (s:St):Prop where
 card:s.c.card=cH
 tx:∀f∈s.tx,CD A f
 wt:∀e∈s.cache,e.waits=[]∨Dk A e.waits
def Ad (A:Nat→Prop) (s:St):Prop:=A s.address∧s.address<4294967296
theorem xM (h:Ad A s) (d fm port:Nat) (ld:List UInt8):Dk A (s.packet d fm port ld):=by
 refine⟨iF ..,fun r=> ?_⟩
 have hl:=oX fm port s.address d ld
 unfold St.packet Br
 rw[if_neg (by decide),if_neg (by omega)]
 generalize(mE fm port s.address d ld).1=x at*
 have e:fK (s.id%65536) 64 17 s.address d x=fK (s.id%65536) 64 17 s.address (d%4294967296) x:=by
  unfold fK eF Dx
  rw[show(4294967296:Nat)=256^4 from rfl,Dz]
 dsimp only
 rw[e,rS _ _ _ _ _ _ _ (Nat.mod_lt _ (by decide)) h.2 (Nat.mod_lt _ (by decide)) (by decide) hl]
 exact⟨rfl,h.1⟩
structure Sd (A:Nat→Prop) (s t:St):Prop where
 fine:yQ A s→yQ A t
 c:t.c=s.c
 now:t.now=s.now
 lease:t.lease=s.lease
 addr:t.addr=s.addr
 phase:t.phase=s.phase
 image:t.image=s.image
theorem Sd.adr (h:Sd A s t):t.address=s.address:=by unfold St.address;rw[h.lease,h.addr]
theorem Sd.ad (h:Sd A s t) (k:Ad A s):Ad A t:=by unfold Ad;rw[h.adr];exact k
theorem Sd.refl:Sd A s s:=⟨id,rfl,rfl,rfl,rfl,rfl,rfl⟩
theorem Sd.trans (h:Sd A s t) (k:Sd A t u):Sd A s u:=⟨fun x=>k.fine (h.fine x),k.c.trans h.c,k.now.trans h.now,k.lease.trans h.lease,k.addr.trans h.addr,k.phase.trans h.phase,k.image.trans h.image⟩
theorem yQ.of (h:yQ A s) (hc:t.c=s.c) (hx:t.tx=s.tx) (hk:∀e∈t.cache,e.waits=[]∨Dk A e.waits):yQ A t:=⟨by rw[hc];exact h.card,by rw[hx];exact h.tx,hk⟩
theorem DB (d:Mac) (k:Nat) (l:List UInt8) (h:s.c.card=cH→CD A (bV d s.c.card k l).1):Sd A s (s.send d k l):=by
 unfold St.send
 split
 ·exact⟨fun f=>⟨f.card,f.tx,f.wt⟩,rfl,rfl,rfl,rfl,rfl,rfl⟩
 ·refine⟨fun f=>⟨f.card,fun x hx=> ?_,f.wt⟩,rfl,rfl,rfl,rfl,rfl,rfl⟩
  rcases List.mem_append.1 hx with hx|hx
  ·exact f.tx x hx
  ·obtain rfl:=List.mem_singleton.1 hx
   exact h f.card
theorem HA (d:Mac) {p:List UInt8} (h:Dk A p):Sd A s (s.send d 2048 p):=DB _ _ _ fun e=>by rw[e];exact .ip d h
theorem GO (op:Nat) (d w:Mac) (fm ip:Nat):Sd A s (s.arp op d w fm ip):=DB _ _ _ fun e=>by rw[e];exact .arp ..
theorem ED (fm ip:Nat):Sd A s (s.ask fm ip):=GO ..
theorem E8:Sd A s s.took:=⟨fun f=>⟨f.card,f.tx,f.wt⟩,rfl,rfl,rfl,rfl,rfl,rfl⟩
theorem EY (h:Ad A s) (d fm port:Nat) (l:List UInt8):Sd A s (s.udp d fm port l):=by
 have hp:=xM h d fm port l
 unfold St.udp
 dsimp only
 split
 ·refine Sd.trans (t:={s.took with cache:=enter s.cache ⟨s.hop d,rF,false,wrap64 (s.now+2),1,s.packet d fm port l⟩}) ?_ (ED _ _)
  refine⟨fun f=>f.of rfl rfl fun e he=> ?_,rfl,rfl,rfl,rfl,rfl,rfl⟩
  rcases mA he with rfl|he
  ·exact .inr hp
  ·exact f.wt e he
 ·split
  ·exact E8.trans (HA _ hp)
  ·refine⟨fun f=>f.of rfl rfl fun e he=> ?_,rfl,rfl,rfl,rfl,rfl,rfl⟩
   rcases kI he with he|⟨y,hy,rfl⟩
   ·exact f.wt e he
   ·exact .inr hp
theorem yS (h:Ad A s) (k:UInt8) (a:Bool) (os:List bK):Sd A s (s.say k a os):=by
 unfold St.say
 split
 ·exact EY h ..
 ·exact E8.trans (HA _ (xM h ..))
theorem uA (h:Ad A s):Sd A s s.asks:=by unfold St.asks;split<;>exact yS h ..
theorem Au (h:Ad A s):Sd A s s.tell:=EY h ..
theorem lQ (h:Ad A s) (p c:Nat) (l:List UInt8):Sd A s (s.wrong p c l):=EY h ..
theorem FA (m:oL):Sd A s (s.waits m):=⟨fun f=>⟨f.card,f.tx,f.wt⟩,rfl,rfl,rfl,rfl,rfl,rfl⟩
theorem EZ (h:Ad A s):Sd A s s.got:=by
 unfold St.got
 have h1:Sd A s {s.waits ⟨4,(s.next+65535)%65536,[],[],[]⟩with came:=0}:=⟨fun f=>⟨f.card,f.tx,f.wt⟩,rfl,rfl,rfl,rfl,rfl,rfl⟩
 exact h1.trans (Au (h1.ad h))
theorem zX (h:yQ A s) (ip:Nat):cQ s.cache ip=[]∨Dk A (cQ s.cache ip):=by
 unfold cQ
 split
 ·exact .inl rfl
 ·next e he=>exact h.wt e (gM he).1
theorem Fs (a:zS) (m:Bool):Sd A s (s.learn a m):=by
 have h1:Sd A s {s with cache:=fQ s.cache a.fi a.fm m s.now}:=by
  refine⟨fun f=>f.of rfl rfl fun e he=> ?_,rfl,rfl,rfl,rfl,rfl,rfl⟩
  dsimp only at he
  unfold fQ at he
  split at he
  ·split at he
   ·rcases mA he with rfl|he
    ·exact .inl rfl
    ·exact f.wt e he
   ·exact f.wt e he
  ·rcases kI he with he|⟨y,hy,rfl⟩
   ·exact f.wt e he
   ·exact .inl rfl
 rw[vB]
 split
 ·exact h1
 ·next hn=>
  refine⟨fun f=>(HA _ ((zX f _).resolve_left hn)).fine (h1.fine f),?_,?_,?_,?_,?_,?_⟩
  all_goals(unfold St.send;split<;>rfl)
theorem D1:∀(l:List Nat) (s:St),Sd A s (l.foldl (fun t ip=>t.ask t.address ip) s)
 |[],_=> .refl
 |ip::r,s=>(ED _ _).trans (D1 r _)
theorem Fo:Sd A s s.neighbours:=by
 unfold St.neighbours
 refine Sd.trans (t:={s with cache:=s.cache.filterMap (St.keepE s.now)}) ?_ (D1 _ _)
 refine⟨fun f=>f.of rfl rfl fun e he=> ?_,rfl,rfl,rfl,rfl,rfl,rfl⟩
 obtain⟨x,hx,hk⟩:=List.mem_filterMap.1 he
 unfold St.keepE at hk
 split at hk
 ·cases hk;exact f.wt _ hx
 ·split at hk
  ·cases hk
  ·cases hk;exact f.wt x hx
def St.Dig (s:St):Prop:=s.phase=3→sha s.image=s.c.digest
structure Mv (A:Nat→Prop) (s t:St):Prop where
 fine:yQ A s→yQ A t
 c:t.c=s.c
 now:t.now=s.now
 adr:t.cache=[]∨t.address=s.address∨s.address=0
 dig:s.Dig→t.Dig
theorem Sd.mv (h:Sd A s t):Mv A s t:=⟨h.fine,h.c,h.now,.inr (.inl h.adr),fun d hp=>by rw[h.image,h.c];exact d (h.phase▸hp)⟩
theorem Mv.after (h:Mv A t u) (k:Sd A s t):Mv A s u:=⟨fun f=>h.fine (k.fine f),h.c.trans k.c,h.now.trans k.now,by rw[←k.adr];exact h.adr,fun d=>h.dig (k.mv.dig d)⟩
theorem EC:Mv A s s.drop:=⟨fun f=>f.of rfl rfl (fun e he=>by cases he),rfl,rfl,.inl rfl,fun _ h=>by cases h⟩
theorem iQ:Mv A s s.fail:=by
 unfold St.fail
 dsimp only
 split
 ·exact⟨fun f=>f.of rfl rfl (fun e he=>by cases he),rfl,rfl,.inl rfl,fun _ h=>by cases h⟩
 ·exact⟨fun f=>f.of rfl rfl (fun e he=>by cases he),rfl,rfl,.inl rfl,fun _ h=>by cases h⟩
theorem IF (h:s.lease<4):s.address=0:=by unfold St.address;rw[if_neg (by omega)]
theorem ad0 (h:s.lease<4) (h0:A 0):Ad A s:=by unfold Ad;rw[IF h];exact⟨h0,by decide⟩
theorem Ch (v:St) (hx:v.tx=s.tx) (hc:v.c=s.c) (hk:v.cache=s.cache) (hn:v.now=s.now) (hp:v.phase=s.phase) (hi:v.image=s.image) (hA:s.address=0∨v.address=s.address) (k:Sd A v t):Mv A s t:=by
 refine⟨fun f=>k.fine (f.of hc hx (by rw[hk];exact f.wt)),k.c.trans hc,k.now.trans hn,?_,fun d h=>by rw[k.image,k.c,hi,hc];exact d (by rw[←hp,←k.phase];exact h)⟩
 rcases hA with h|h
 ·exact .inr (.inr h)
 ·exact .inr (.inl (k.adr.trans h))
theorem Eh (h0:A 0) (l:Nat) (hl:l<4) (hs:s.lease<4):Mv A s (s.goes l):=by
 unfold St.goes
 exact Ch {s with lease:=l,lsends:=1,lagain:=wrap64 (s.now+s.wait 0)} rfl rfl rfl rfl rfl rfl (.inl (IF hs)) (uA (ad0 hl h0))
theorem GD (s:St) (d:oI) (t:Nat):(s.times d t).tx=s.tx∧(s.times d t).cache=s.cache:=by unfold St.times;split<;>exact⟨rfl,rfl⟩
theorem CL (h0:A 0) (d:oI) (fm:Nat):Mv A s (s.granted d fm):=by
 unfold St.granted
 split
 ·exact Sd.refl.mv
 ·next time _=>
  split
  ·exact Sd.refl.mv
  next hw=>
  dsimp only
  obtain⟨v,hv⟩:∃v:St,({s with server:=fm,mask:=(St.number d.os 1).getD 4294967295,router:=(St.routerOf d.os).getD 0,source:=if d.next≠0 then d.next else fm}:St)=v:=⟨_,rfl⟩
  have e1:v.tx=s.tx∧v.cache=s.cache∧v.lease=s.lease∧v.addr=s.addr:=by rw[←hv];exact⟨rfl,rfl,rfl,rfl⟩
  have e2:gZ s v:=by rw[←hv];exact⟨rfl,rfl,rfl,rfl,rfl,rfl⟩
  have e6:v.now=s.now:=by rw[←hv]
  rw[hv]
  have e3:=GD v d time
  have e4:=pA v d time
  have e5:=bL v d time
  generalize v.times d time=x at*
  split
  ·next h2=>exact Ch {x with lease:=3,lagain:=wrap64 (s.now+2)} (e3.1.trans e1.1) (e5.c.trans e2.c) (e3.2.trans e1.2.1) (e4.2.2.trans e6) (e5.phase.trans e2.phase) (e5.image.trans e2.image) (.inl (IF (by omega))) (ED _ _)
  ·next h2=>
   refine Ch {x with lease:=4} (e3.1.trans e1.1) (e5.c.trans e2.c) (e3.2.trans e1.2.1) (e4.2.2.trans e6) (e5.phase.trans e2.phase) (e5.image.trans e2.image) (.inr ?_) Sd.refl
   unfold St.address
   dsimp only
   rw[if_pos (by decide),if_pos (show 4≤s.lease by omega),e4.2.1,e1.2.2.2]
theorem DA (h0:A 0) (d:oI):Mv A s (s.leased d):=by
 unfold St.leased
 split
 ·next k fm _ _=>
  split
  ·split
   ·next h=>
    have hg:Mv A {s with addr:=d.yours,server:=fm} (({s with addr:=d.yours,server:=fm}:St).goes 2):=Eh h0 2 (by decide) (by show s.lease<4;omega)
    have ha:=IF (s:=s) (by omega)
    exact⟨fun f=>hg.fine (f.of rfl rfl f.wt),hg.c,hg.now,.inr (.inr ha),fun x=>hg.dig x⟩
   ·exact Sd.refl.mv
  ·split
   ·split
    ·exact CL h0 ..
    ·exact Sd.refl.mv
   ·split
    ·split
     ·exact EC
     ·exact Sd.refl.mv
    ·exact Sd.refl.mv
 ·exact Sd.refl.mv
theorem oS (port:Nat):∀(l:List cP) (s:St),Ad A s→Mv A s (St.agree port l s)
 |[],s,h=>by
  have k:=EZ (A:=A) (s:={s with phase:=2,peer:=port}) h
  refine⟨fun f=>k.fine (f.of rfl rfl f.wt),k.c,k.now,.inr (.inl k.adr),fun d hp=> ?_⟩
  rw[show St.agree port [] s=({s with phase:=2,peer:=port}:St).got from rfl,k.phase]at hp
  cases hp
 |f::l,s,h=>by
  unfold St.agree
  split
  ·exact iQ.after (lQ h ..)
  ·next n hn=>
   split
   ·have k:=oS port l {s with block:=n} h
    exact⟨fun f=>k.fine (f.of rfl rfl f.wt),k.c,k.now,k.adr,fun d=>k.dig d⟩
   ·split
    ·have k:=oS port l {s with wind:=n} h
     exact⟨fun f=>k.fine (f.of rfl rfl f.wt),k.c,k.now,k.adr,fun d=>k.dig d⟩
    ·split
     ·split
      ·exact oS port l s h
      ·exact iQ.after (lQ h ..)
     ·exact iQ.after (lQ h ..)
theorem E2 (h:Ad A s) (t:oL) (hp:s.phase≠3):Mv A s (s.data t):=by
 unfold St.data
 split
 ·exact Sd.refl.mv
 split
 ·exact(EZ h).mv
 split
 ·exact iQ.after (lQ h ..)
 dsimp only
 obtain⟨v,hv⟩:∃v:St,({s with image:=s.image++t.data,next:=s.next+1,came:=wrap64 (s.came+1)}:St)=v:=⟨_,rfl⟩
 have e1:v.tx=s.tx∧v.cache=s.cache∧v.c=s.c∧v.now=s.now∧v.phase=s.phase∧v.address=s.address:=by rw[←hv];exact⟨rfl,rfl,rfl,rfl,rfl,rfl⟩
 have hv2:Ad A v:=by unfold Ad;rw[e1.2.2.2.2.2];exact h
 have hvn:∀{x:St},Sd A v x→Mv A s x:=fun k=>⟨fun f=>k.fine (f.of e1.2.2.1 e1.1 (by rw[e1.2.1];exact f.wt)),k.c.trans e1.2.2.1,k.now.trans e1.2.2.2.1,.inr (.inl (k.adr.trans e1.2.2.2.2.2)),fun _ h3=>absurd (by rw[←e1.2.2.2.2.1,←k.phase];exact h3) hp⟩
 have hg:=EZ hv2
 have hw:∀m,Sd A v (v.waits m):=FA
 subst hv
 split
 ·split
  ·exact hvn hg
  ·exact hvn (hw _)
 ·split
  ·next hd=>
   have k:=hvn hg
   refine⟨fun f=>(k.fine f).of rfl rfl (k.fine f).wt,k.c,k.now,k.adr,fun _ _=> ?_⟩
   refine Eq.trans (congrArg sha hg.image) (Eq.trans hd ?_)
   exact congrArg IZ.digest hg.c.symm
  ·have k:=hvn hg
   have kf:=iQ (A:=A) (s:=({s with image:=s.image++t.data,next:=s.next+1,came:=wrap64 (s.came+1)}:St).got)
   refine⟨fun f=>kf.fine (k.fine f),kf.c.trans k.c,kf.now.trans k.now,?_,fun _=> ?_⟩
   ·left;unfold St.fail;dsimp only;split<;>rfl
   ·unfold St.fail;dsimp only;split<;>intro h<;>cases h
theorem FZ (h:Ad A s) (port:Nat) (t:oL) (hp:s.phase≠3):Mv A s (s.loads port t):=by
 unfold St.loads
 split
 ·split
  ·exact Sd.refl.mv
  ·exact(lQ h ..).mv
 split
 ·exact iQ
 split
 ·split
  ·exact E2 h t hp
  ·exact Sd.refl.mv
 ·split
  ·split
   ·have k:=E2 (s:={s with phase:=2,peer:=port}) h t (by show 2≠3;decide)
    exact⟨fun f=>k.fine (f.of rfl rfl f.wt),k.c,k.now,k.adr,fun _=>k.dig (fun h=>by cases h)⟩
   ·exact Sd.refl.mv
  ·split
   ·exact oS port _ s h
   ·exact Sd.refl.mv
theorem Fg (h0:A 0) (h:Ad A s) (a:zS):Mv A s (s.arped a):=by
 unfold St.arped
 split
 ·exact iQ.after (yS h ..)
 ·dsimp only
  have ht:Sd A s (if a.fi≠0∧a.fi≠s.address then s.learn a (s.asked a)else s):=by
   split
   ·exact Fs ..
   ·exact .refl
  split
  ·exact(ht.trans (GO ..)).mv
  ·exact ht.mv
theorem Fv (h0:A 0) (h:Ad A s) (hv:s.over=false) (f:List UInt8):Mv A s (s.frameP f):=by
 have hp:s.phase≠3:=by unfold St.over at hv;simp at hv;exact hv.1
 unfold St.frameP
 split
 ·exact Sd.refl.mv
 split
 ·unfold St.arpP;split
  ·exact Fg h0 h _
  ·exact Sd.refl.mv
 split
 ·unfold St.dgramP
  split
  ·exact Sd.refl.mv
  split
  ·exact Sd.refl.mv
  split
  ·unfold St.leasedP;split
   ·exact DA h0 _
   ·exact Sd.refl.mv
  split
  ·unfold St.loadsP;split
   ·exact FZ h _ _ hp
   ·exact Sd.refl.mv
  ·exact Sd.refl.mv
 ·exact Sd.refl.mv
theorem Mv.fail (h:Mv A s u):Mv A s u.fail:=by
 have k:Mv A u u.fail:=iQ
 refine⟨fun f=>k.fine (h.fine f),k.c.trans h.c,k.now.trans h.now,?_,fun d=>k.dig (h.dig d)⟩
 left;unfold St.fail;dsimp only;split<;>rfl
theorem C2 (h0:A 0) (h:Ad A s):(s.lease=3∧s.leases=({s with lease:=4}:St).read)∨(Mv A s s.leases∧(s.leases.busy=false∨s.leases.address=s.address∨s.address=0)∧Ad A s.leases):=by
 have hre:Mv A s s∧(s.busy=false∨s.address=s.address∨s.address=0)∧Ad A s:=⟨Sd.refl.mv,.inr (.inl rfl),h⟩
 have hfa:Mv A s s.fail∧(s.fail.busy=false∨s.fail.address=s.address∨s.address=0)∧Ad A s.fail:=by
  refine⟨iQ,.inl ?_,ad0 ?_ h0⟩<;>(unfold St.fail;dsimp only;split<;>first|rfl|(show 0<4;decide))
 unfold St.leases
 split
 ·next e=>
  right
  obtain⟨x,hx⟩:∃x:St,({s with xid:=s.draw}:St)=x:=⟨_,rfl⟩
  have hg:Mv A x (x.goes 1):=Eh h0 1 (by decide) (by rw[←hx];show s.lease<4;omega)
  have hl:(x.goes 1).lease=1:=(uA (A:=A) (s:={x with lease:=1,lsends:=1,lagain:=wrap64 (x.now+x.wait 0)}) (ad0 (by show 1<4;decide) h0)).lease
  have ha:=IF (s:=s) (by omega)
  refine⟨?_,.inr (.inr ha),ad0 (by rw[hx,hl];decide) h0⟩
  rw[hx]
  subst hx
  exact⟨fun f=>hg.fine (f.of rfl rfl f.wt),hg.c,hg.now,.inr (.inr ha),fun d=>hg.dig d⟩
 split
 ·split
  ·exact .inr hre
  ·split
   ·exact .inr hfa
   ·next h12 _ _=>
    have hk:Ad A {s with lagain:=wrap64 (s.now+s.wait s.lsends),lsends:=s.lsends+1}:=h
    have ha:=IF (s:=s) (by omega)
    exact .inr ⟨Ch {s with lagain:=wrap64 (s.now+s.wait s.lsends),lsends:=s.lsends+1} rfl rfl rfl rfl rfl rfl (.inl ha) (uA hk),.inr (.inr ha),(uA hk).ad hk⟩
 split
 ·split
  ·exact .inr hre
  ·next e3 _=>exact .inl ⟨e3,rfl⟩
 next n0 n12 n3=>
 right
 split
 ·exact hre
 split
 ·exact⟨EC,.inl rfl,ad0 (by show 0<4;decide) h0⟩
 dsimp only
 obtain⟨l,hl⟩:∃l,(if s.t2≤s.now then 6 else if s.t1≤s.now∧s.lease=4 then 5 else s.lease)=l:=⟨_,rfl⟩
 have hl4:4≤l:=by rw[←hl];repeat' split
                  all_goals omega
 rw[hl]
 have ha:∀x:St,x.lease=l→x.addr=s.addr→x.address=s.address:=fun x e1 e2=>by unfold St.address;rw[e1,e2,if_pos hl4,if_pos (by omega)]
 split
 ·have e:=ha {s with lease:=l,lagain:=wrap64 (s.now+8)} rfl rfl
  have hk:Ad A {s with lease:=l,lagain:=wrap64 (s.now+8)}:=by unfold Ad;rw[e];exact h
  exact⟨Ch {s with lease:=l,lagain:=wrap64 (s.now+8)} rfl rfl rfl rfl rfl rfl (.inr e) (yS hk 3 (l==5) []),.inr (.inl ((yS hk 3 (l==5) []).adr.trans e)),(yS hk 3 (l==5) []).ad hk⟩
 ·have e:=ha {s with lease:=l} rfl rfl
  exact⟨Ch {s with lease:=l} rfl rfl rfl rfl rfl rfl (.inr e) Sd.refl,.inr (.inl e),by unfold Ad;rw[e];exact h⟩
theorem FQ (h:Ad A s) (hu:Mv A u s) (hb:s.busy=false∨s.address=u.address∨u.address=0):Mv A u s.again:=by
 unfold St.again
 split
 ·exact hu
 next hn=>
 split
 ·exact hu.fail
 ·have k:Sd A {s with tagain:=wrap64 (s.now+s.wait s.tsends),tsends:=s.tsends+1} _:=Au h
  have k2:Sd A s {s with tagain:=wrap64 (s.now+s.wait s.tsends),tsends:=s.tsends+1}:=⟨fun f=>f.of rfl rfl f.wt,rfl,rfl,rfl,rfl,rfl,rfl⟩
  have k:=k2.trans k
  refine⟨fun f=>k.fine (hu.fine f),k.c.trans hu.c,k.now.trans hu.now,?_,fun d=>k.mv.dig (hu.dig d)⟩
  rcases hb with hb|hb|hb
  ·exact absurd (.inl hb) hn
  ·exact .inr (.inl (k.adr.trans hb))
  ·exact .inr (.inr hb)
structure MvT (A:Nat→Prop) (s t:St):Prop where
 fine:yQ A s→yQ A t
 c:t.c=s.c
 now:t.now=s.now+1
 adr:t.cache=[]∨t.address=s.address∨s.address=0
 dig:s.Dig→t.Dig
theorem Di (s:St) (h:Ad A s):(yQ A s→yQ A s.read)∧s.read.c=s.c∧s.read.now=s.now∧s.read.address=s.address∧s.read.phase=1∧s.read.tagain=wrap64 (s.now+s.wait 0):=by
 unfold St.read
 obtain⟨x,hx⟩:∃x:St,({s with phase:=1,port:=1024+s.draw%60000,peer:=0,block:=512,wind:=1,next:=1,came:=0,image:=[]}:St).waits ⟨1,0,s.c.name,[],[⟨St.bNm,dec s.c.block⟩,⟨St.wNm,dec s.c.window⟩,⟨St.tNm,[48]⟩]⟩=x:=⟨_,rfl⟩
 have e1:x.c=s.c∧x.now=s.now∧x.address=s.address∧x.phase=1∧x.tagain=wrap64 (s.now+s.wait 0)∧x.tx=s.tx∧x.cache=s.cache:=by rw[←hx];exact⟨rfl,rfl,rfl,rfl,rfl,rfl,rfl⟩
 have hk:Ad A x:=by unfold Ad;rw[e1.2.2.1];exact h
 have k:=Au hk
 rw[hx]
 refine⟨fun f=>k.fine (f.of e1.1 e1.2.2.2.2.2.1 (by rw[e1.2.2.2.2.2.2];exact f.wt)),k.c.trans e1.1,k.now.trans e1.2.1,k.adr.trans e1.2.2.1,k.phase.trans e1.2.2.2.1,?_⟩
 rw[←e1.2.2.2.2.1]
 unfold St.tell St.udp
 dsimp only
 split
 ·unfold St.ask St.arp St.send;split<;>rfl
 ·split
  ·unfold St.send;split<;>rfl
  ·rfl
theorem Io (h0:A 0) (h:Ad A s) (ha:s.addr<4294967296) (n0:0≤s.now) (n1:s.now<4611686018427387904) (d:Nat) (hA:A (s.tick d).address):MvT A s (s.tick d):=by
 have hw:wrap64 (s.now+1)=s.now+1:=IntWalk.wrap64_in _ ⟨by omega,by omega⟩
 unfold St.tick at hA⊢
 dsimp only at hA⊢
 rw[hw]at hA⊢
 obtain⟨x,hx⟩:∃x:St,({s with now:=s.now+1,draw:=d}:St)=x:=⟨_,rfl⟩
 have e1:x.tx=s.tx∧x.cache=s.cache∧x.c=s.c∧x.now=s.now+1∧x.phase=s.phase∧x.image=s.image∧x.address=s.address∧x.addr=s.addr∧x.lease=s.lease:=by rw[←hx];exact⟨rfl,rfl,rfl,rfl,rfl,rfl,rfl,rfl,rfl⟩
 rw[hx]at hA⊢
 have hf:yQ A s→yQ A x:=fun f=>f.of e1.2.2.1 e1.1 (by rw[e1.2.1];exact f.wt)
 have hd:s.Dig→x.Dig:=fun q hp=>by rw[e1.2.2.2.2.2.1,e1.2.2.1];exact q (by rw[←e1.2.2.2.2.1];exact hp)
 split
 ·exact⟨hf,e1.2.2.1,e1.2.2.2.1,.inr (.inl e1.2.2.2.2.2.2.1),hd⟩
 next hov=>
 rw[if_neg hov]at hA
 have hn:Sd A x x.neighbours:=Fo
 obtain⟨v,hv⟩:∃v,x.neighbours=v:=⟨_,rfl⟩
 rw[hv]at hA hn⊢
 have hva:v.address=s.address:=hn.adr.trans e1.2.2.2.2.2.2.1
 have hvA:Ad A v:=by unfold Ad;rw[hva];exact h
 have fin:∀{t:St},Mv A v t→MvT A s t:=fun k=>⟨fun f=>k.fine (hn.fine (hf f)),k.c.trans (hn.c.trans e1.2.2.1),k.now.trans (hn.now.trans e1.2.2.2.1),by rw[←hva];exact k.adr,fun q=>k.dig (hn.mv.dig (hd q))⟩
 rcases C2 h0 hvA with⟨hl,he⟩|⟨hm,hb,hk⟩
 rotate_left
 ·exact fin (FQ hk hm hb)
 ·have hr:=Di (A:=fun y=>y<4294967296) {v with lease:=4} (have h9:v.addr<4294967296:=(by rw[hn.addr,e1.2.2.2.2.2.2.2.1];exact ha);⟨h9,h9⟩)
  have hadr:({v with lease:=4}:St).address=v.addr:=rfl
  have hg:v.leases.again=v.leases:=by
   unfold St.again
   rw[if_pos]
   right
   rw[he,hr.2.2.1,hr.2.2.2.2.2]
   show v.now<wrap64 (v.now+(((2*2^0+v.draw%3:Nat):Int)-1))
   have:v.now=s.now+1:=hn.now.trans e1.2.2.2.1
   rw[IntWalk.wrap64_in _ ⟨by omega,by omega⟩]
   omega
  rw[hg,he]at hA
  rw[hg,he]
  rw[hr.2.2.2.1,hadr]at hA
  have hva2:v.addr<4294967296:=by rw[hn.addr,e1.2.2.2.2.2.2.2.1];exact ha
  have hr2:=Di (A:=A) {v with lease:=4} ⟨hA,hva2⟩
  have h00:s.address=0:=by rw[←hva];exact IF (by omega)
  exact⟨fun f=>hr2.1 ((hn.fine (hf f)).of rfl rfl (hn.fine (hf f)).wt),hr2.2.1.trans (hn.c.trans e1.2.2.1),hr2.2.2.1.trans (hn.now.trans e1.2.2.2.1),.inr (.inr h00),fun _ hp=>by rw[hr2.2.2.2.2.1]at hp;cases hp⟩
end
structure Cj (c:IZ) (k:Nat) (s:St):Prop where
 c:s.c=c
 rx:s.rx=[]
 tx:s.tx=[]
 now:s.now≤k
 dig:s.Dig
 rest:s.Rest
 wt:∀e∈s.cache,e.waits=[]∨Dk (fun x=>x=0∨x=s.address) e.waits
def lP (tk:Bool) (f:List UInt8) (s:St):St:=if tk then s.tick (f.length%4294967296)else if s.over then s else s.frameP f
def Gw (a b:Nat) (x:Nat):Prop:=x=0∨x=a∨x=b
theorem yW (s:St) (d:Nat):(s.tick d).rx=s.rx:=by
 have hf:∀t:St,t.fail.rx=t.rx:=fun t=>by unfold St.fail;dsimp only;split<;>rfl
 have hl:∀t:St,t.leases.rx=t.rx:=fun t=>by
  unfold St.leases
  split
  ·exact(mK _ _).rx
  split
  ·split
   ·rfl
   ·split
    ·exact hf _
    ·exact(qV _).rx
  split
  ·split
   ·rfl
   ·exact(jL _).rx
  split
  ·rfl
  split
  ·rfl
  dsimp only
  generalize(if t.t2≤t.now then 6 else if t.t1≤t.now∧t.lease=4 then 5 else t.lease)=l
  split
  ·exact(oU _ _ _ _).rx
  ·rfl
 have ha:∀t:St,t.again.rx=t.rx:=fun t=>by
  unfold St.again
  split
  ·rfl
  split
  ·exact hf _
  ·exact(jL _).rx
 unfold St.tick
 dsimp only
 split
 ·rfl
 ·rw[ha,hl,(tD _).rx]
theorem Ez {c:IZ} {k:Nat} {s:St} (hc:c.card=cH) (h:Cj c k s) (ok:s.Ok) (hk:k<4611686018427387904) (tk:Bool) (f:List UInt8):
 (∀o∈(lP tk f s).tx,CD (Gw s.address (lP tk f s).address) o)∧(s.over=true→(lP tk f s).tx=[]∧(lP tk f s).phase=s.phase∧(lP tk f s).image=s.image)∧Cj c (k+1) {lP tk f s with tx:=[]}:=by
 have ha:s.address<4294967296:=by unfold St.address;split;exact ok.addr;decide
 have n1:=h.now
 have hov:s.over=true→(lP tk f s).tx=[]∧(lP tk f s).phase=s.phase∧(lP tk f s).image=s.image:=by
  intro ho
  unfold lP
  cases tk
  ·rw[if_neg (by decide),if_pos ho];exact⟨h.tx,rfl,rfl⟩
  ·rw[if_pos rfl]
   have e:s.tick (f.length%4294967296)={s with now:=wrap64 (s.now+1),draw:=f.length%4294967296}:=if_pos ho
   rw[e]
   exact⟨h.tx,rfl,rfl⟩
 obtain⟨t,ht⟩:∃t,lP tk f s=t:=⟨_,rfl⟩
 have key:∀A:Nat→Prop,A 0→A s.address→A t.address→(yQ A s→yQ A t)∧t.c=s.c∧t.now≤s.now+1∧(t.cache=[]∨t.address=s.address∨s.address=0)∧(s.Dig→t.Dig)∧t.rx=s.rx∧t.Rest:=by
  intro A h0 h1 h2
  rw[←ht]at h2⊢
  unfold lP at h2⊢
  cases tk
  ·rw[if_neg (by decide)]at h2⊢
   split
   ·exact⟨id,rfl,by omega,.inr (.inl rfl),id,rfl,h.rest⟩
   ·next ho=>
    have m:=Fv h0 ⟨h1,ha⟩ (by simpa using ho) f
    exact⟨m.fine,m.c,by rw[m.now];omega,m.adr,m.dig,lT _ _,qW _ _ h.rest⟩
  ·rw[if_pos rfl]at h2⊢
   have m:=Io h0 ⟨h1,ha⟩ ok.addr ok.now0 (by omega) _ h2
   exact⟨m.fine,m.c,by rw[m.now];omega,m.adr,m.dig,yW _ _,EG _ _ h.rest⟩
 rw[ht]at hov⊢
 have fs:∀A:Nat→Prop,A 0→A s.address→yQ A s:=fun A h0 h1=>by
  refine⟨by rw[h.c];exact hc,by rw[h.tx];exact fun _ x=>absurd x List.not_mem_nil,fun e he=>(h.wt e he).imp id fun p=>p.mono fun x hx=> ?_⟩
  rcases hx with rfl|rfl
  ·exact h0
  ·exact h1
 refine⟨((key (Gw s.address t.address) (.inl rfl) (.inr (.inl rfl)) (.inr (.inr rfl))).1 (fs _ (.inl rfl) (.inr (.inl rfl)))).tx,hov,?_⟩
 obtain⟨_,kc,kn,ka,kd,kr,krest⟩:=key (fun _=>True) trivial trivial trivial
 refine⟨kc.trans h.c,kr.trans h.rx,rfl,by show t.now≤_;omega,kd h.dig,krest,?_⟩
 intro e he
 replace he:e∈t.cache:=he
 show e.waits=[]∨Dk (fun x=>x=0∨x=t.address) e.waits
 rcases ka with ka|ka|ka
 ·rw[ka]at he;cases he
 ·exact((key (fun x=>x=0∨x=t.address) (.inl rfl) (.inr ka.symm) (.inr rfl)).1 (fs _ (.inl rfl) (.inr ka.symm))).wt e he
 ·exact((key (fun x=>x=0∨x=t.address) (.inl rfl) (.inl ka) (.inr rfl)).1 (fs _ (.inl rfl) (.inl ka))).wt e he
end Go.Proofs.YtcbkaiakdhiloaaGreatDoor
namespace Go.Proofs.YtcbkaiakdhiloaaGreatDoor
open Go.RowKit Go.Proofs
attribute [local go_sem] aE aC aB aD
attribute [local simp] CR ipC ibq ibn eqN ltN leN eqL ltL gtL leL geL
def zZ (s:St):Array Value:= #[.int .i64 s.now,.int .i64 (s.lease:Int),.int .i64 (s.phase:Int),.int .u32 (s.address:Int),.int .i64 s.boots,.int .i64 (s.image.length:Int),.int .i64 s.lost,.int .i64 (s.cache.length:Int)]
attribute [-go_sem] run_eql_struct run_neq_struct run_equalIn_agg in
theorem Gz (gA gB:Nat) (vA:Option Addr) (vc:Nat) (out:List (List UInt8)) (s t:St) (v2 v7 v8 v10 v15 v49 v50 v51:Value) (w0:World) (hA:Bk w0 gA 45 (zZ s)) (hB:Bk w0 gB 45 (zZ t)) (hC:Ht w0) (hrow:SlR w0 noB 1 vA out.length (txV out)) (hlen:out.length≤16) (hok:∀o∈out,o.length≤4611686018427387904∧CD (Gw s.address t.address) o)
 (K:KT) (u:Nat→Value) (hK:∀u' w',Fr noB w0 w'→K .normal (F 202 u' [(2,v2),(7,v7),(8,v8),(10,v10),(13,.pointer (some ⟨gA,0,none⟩)),(14,.pointer (some ⟨gB,0,none⟩)),(15,v15),(49,v49),(50,v50),(51,v51)]) w'):
 cw Tryz.prog (eQ Tryz.f4 2) K (F 202 u [(2,v2),(7,v7),(8,v8),(10,v10),(13,.pointer (some ⟨gA,0,none⟩)),(14,.pointer (some ⟨gB,0,none⟩)),(15,v15),(49,v49),(50,v50),(51,v51),(104,.slice vA out.length vc),(105,.int .i64 (out.length:Int)),(106,.int .i64 0)]) w0:=by
 refine cW ?_
 refine W ?_
 refine cL (fun i=>out.length-i) (fun(i:Nat)=>[(2,v2),(7,v7),(8,v8),(10,v10),(13,.pointer (some ⟨gA,0,none⟩)),(14,.pointer (some ⟨gB,0,none⟩)),(15,v15),(49,v49),(50,v50),(51,v51),(104,.slice vA out.length vc),(105,.int .i64 (out.length:Int)),(106,.int .i64 (i:Int))])
  (fun i w'=>i≤out.length∧Fr noB w0 w') 0 (mt (p:=True) trivial).1 ⟨Nat.zero_le _,Fr.refl _ _⟩ ?_
 rintro i u w ⟨hi,f⟩
 by_cases hlt:i<out.length
 rotate_left
 ·refine W ?_
  exact mtK hK f
 obtain⟨ad,y,rfl,hy,hc⟩:=(hrow.keep f).at_ hlt
 obtain⟨fr,hfr⟩:∃fr,out[i]=fr:=⟨_,rfl⟩
 obtain rfl: .string (bs fr)=y:=by unfold txV at hy;rw[List.getElem?_map,List.getElem?_eq_getElem hlt,hfr]at hy;exact Option.some.inj hy
 obtain⟨hfl,hfo⟩:=hok fr (hfr▸List.getElem_mem hlt)
 clear hy hfr hok hrow
 replace hA:=hA.keep f id
 replace hB:=hB.keep f id
 replace hC:=zG.keep hC f id
 refine W ?_
 refine sC (mB fr w (by omega)) ?_
 intro w1 f1
 have hin:=jM fr
 unfold CD at hfo
 generalize aI fr=E at*
 obtain⟨⟨em,fm,ty,by'⟩,k⟩:=E
 dsimp only at hin hfo⊢
 obtain⟨rfl,rfl,hip⟩:=hfo
 refine W ?_
 refine sA ?_
 intro w2 hE f2
 refine W ?_
 refine sT ?_
 intro w3 hE f3
 replace f3:=f1.none (aZ f2 (Nat.le_refl _) f3)
 replace hA:=hA.keep f3 id
 replace hB:=hB.keep f3 id
 replace hC:=zG.keep hC f3 id
 replace f:=f.none f3
 generalize w1.heap.size=ge at*
 clear f1 f2 f3 hfl
 refine W ?_
 refine sC (tQ by' w3 (by omega)) ?_
 intro w4 f4
 generalize aO by'=P at*
 obtain⟨⟨pi,ttl,pr,pf,pt,pb⟩,k2⟩:=P
 dsimp only at hip⊢
 refine W ?_
 refine sA ?_
 intro w5 hP f5
 refine W ?_
 refine sT ?_
 intro w6 hP f6
 replace f6:=f4.none (aZ f5 (Nat.le_refl _) f6)
 replace hA:=hA.keep f6 id
 replace hB:=hB.keep f6 id
 replace hE:=hE.keep f6 id
 replace hC:=zG.keep hC f6 id
 replace f:=f.none f6
 generalize w4.heap.size=gp at*
 clear f4 f5 f6
 have c0:=hC.2 0 _ rfl
 have c1:=hC.2 1 _ rfl
 have c2:=hC.2 2 _ rfl
 have c3:=hC.2 3 _ rfl
 have c4:=hC.2 4 _ rfl
 have c5:=hC.2 5 _ rfl
 have hM:∀w,(binOp .neq 28 (.agg #[.int .u8 2,.int .u8 0,.int .u8 0,.int .u8 0,.int .u8 0,.int .u8 42]) (.agg #[.int .u8 2,.int .u8 0,.int .u8 0,.int .u8 0,.int .u8 0,.int .u8 42])).run Tryz.prog w= .ok (.bool (decide (cH≠cH))) w:=jP cH cH
 rw[show decide (cH≠cH)=false from decide_eq_false (fun h=>h rfl)]at hM
 have hGd:=fO
 unfold zZ at hA hB
 unfold cH at hE
 have i1:IntKind.i64.wrap ((i:Int)+1)=((i+1:Nat):Int):=(IntWalk.i64_in _ (by omega)).trans (by omega)
 by_cases hty:ty=2048
 rotate_left
 ·refine W ?_
  exact⟨i+1,(mt (p:=True) trivial).1,⟨by omega,f⟩,by omega⟩
 subst hty
 obtain⟨rfl,hpf⟩:=hip rfl
 unfold Gw at hpf
 clear hip hin
 generalize s.address=a1 at*
 generalize t.address=a2 at*
 by_cases e0:pf=0
 ·subst e0
  refine W ?_
  exact⟨i+1,(mt (p:=True) trivial).1,⟨by omega,f⟩,by omega⟩
 by_cases e1:pf=a1
 ·subst e1
  clear hpf
  refine W ?_
  exact⟨i+1,(mt (p:=True) trivial).1,⟨by omega,f⟩,by omega⟩
 obtain rfl:pf=a2:=by omega
 clear hpf
 refine W ?_
 exact⟨i+1,(mt (p:=True) trivial).1,⟨by omega,f⟩,by omega⟩
end Go.Proofs.YtcbkaiakdhiloaaGreatDoor
