/- Parts of the walk; written by programs, merged. -/
import Derived.Test.YtcbkaiakdhiloacGreatDoorShelf
import Derived.Test.YtcbkaiakdhiloacGreatDoorRaa
import Derived.Test.YtcbkaiakdhiloacGreatDoorRab
import Derived.Test.YtcbkaiakdhiloacGreatDoorRac
import Derived.Test.YtcbkaiakdhiloacGreatDoorRad
import Derived.Test.YtcbkaiakdhiloacGreatDoorRae
import Derived.Test.YtcbkaiakdhiloacGreatDoorRaf
import Derived.Test.YtcbkaiakdhiloacGreatDoorRag
import Derived.Test.YtcbkaiakdhiloacGreatDoorRah
import Derived.Test.YtcbkaiakdhiloacGreatDoorRai
import Derived.Test.YtcbkaiakdhiloacGreatDoorRaj
import Derived.Test.YtcbkaiakdhiloacGreatDoorRak
import Derived.Test.YtcbkaiakdhiloacGreatDoorRal
import Derived.Test.YtcbkaiakdhiloacGreatDoorRam
import Derived.Test.YtcbkaiakdhiloacGreatDoorRan
import Derived.Test.YtcbkaiakdhiloacGreatDoorRao
import Derived.Test.YtcbkaiakdhiloacGreatDoorRap
import Derived.Test.YtcbkaiakdhiloacGreatDoorRaq
import Derived.Test.YtcbkaiakdhiloacGreatDoorRar
import Derived.Test.YtcbkaiakdhiloacGreatDoorRas
import Derived.Test.YtcbkaiakdhiloacGreatDoorRat
import Derived.Test.YtcbkaiakdhiloacGreatDoorRau
import Derived.Test.YtcbkaiakdhiloacGreatDoorRav
import Derived.Test.YtcbkaiakdhiloacGreatDoorRaw
import Derived.Test.YtcbkaiakdhiloacGreatDoorRax
import Derived.Test.YtcbkaiakdhiloacGreatDoorRay
import Derived.Lib.ConvBytes
import Derived.Deep.Slices
import Derived.OpenShut
set_option linter.unusedSimpArgs false
set_option linter.unusedVariables false
set_option maxRecDepth 20000
set_option maxHeartbeats 8000000
namespace Go.Proofs.YtcbkaiakdhiloacGreatDoor
open Go.RowKit Go.Proofs
attribute [local go_sem] aG aD aC aE
theorem bootImageL (L:Lay) (s:St) (w:World) (h:aA w L s):
 Calls Tryz.prog 59 #[.pointer (some ⟨L.p,0,none⟩)] w (bH L s (.tuple #[.string (bs (if s.phase=3 then s.image else [])),.bool (decide (s.phase=3))]) w):=by
 have c33:=h.g33
 by_cases hp:s.phase=3
 ·rw[if_pos hp,decide_eq_true hp]
  rw[hp]at c33
  have c44:=h.g44
  have hcv:=JB L s w h
  go_enter Tryz.func59,Tryz.ntmps59
  go_wp2_with fail
  go_ret2
  exact⟨rfl,h,Fr.refl _ _⟩
 ·rw[if_neg hp,decide_eq_false hp]
  have b3:((s.phase:Int) !=3)=true:=by simp;omega
  go_enter Tryz.func59,Tryz.ntmps59
  go_wp2_with fail
  go_ret2
  exact⟨rfl,h,Fr.refl _ _⟩
end Go.Proofs.YtcbkaiakdhiloacGreatDoor
namespace Go.Proofs.YtcbkaiakdhiloacGreatDoor
open Go.RowKit Go.Proofs
attribute [local go_sem] aG aD aC aE
attribute [local simp] ibq ibn eqN ltN leN eqL ltL gtL leL geL
section
variable {Y Z:Nat→Prop} {p:Nat} {s s':St} {w w':World} {r:Value} {e:Ending} {L:Lay}
end
section
variable {Y:Nat→Prop} {p:Nat} {s:St} {w:World}
theorem keepImageX (h:MX Y p s w):Calls Tryz.prog 59 #[.pointer (some ⟨p,0,Option.none⟩)] w (Dv Y p s w (.tuple #[.string (bs (if s.phase=3 then s.image else [])),.bool (decide (s.phase=3))])):=by
 obtain⟨L,rfl,hB,hY⟩:=h
 exact(bootImageL L s w hB).mono fun e w' hp=>MX.two hY hp.two
end
end Go.Proofs.YtcbkaiakdhiloacGreatDoor
namespace Go.Proofs.YtcbkaiakdhiloacGreatDoor
open Go.RowKit Go.Proofs
def St.look (s:St):MB:=⟨s.now,s.lease,s.phase,s.address,s.boots,s.image.length,s.lost,s.cache.length⟩
namespace CQ
def news (g:CQ) (l:MB):Bool:=decide (l.lease≠g.was.lease)||decide (l.phase≠g.was.phase)||decide (l.bytes≠g.was.bytes)||decide (l.cached≠g.was.cached)
def seen (g:CQ) (l:MB):CQ:=if g.news l then⟨g.loss,g.n+1,0,l⟩else⟨g.loss,g.n+1,g.lost,g.was⟩
def hit (g:CQ):Bool:=decide (0<g.loss.length)&&decide ((g.loss.getD (g.n%g.loss.length) 0).tmod 3=0)&&decide (g.lost<2)
def gone (g:CQ) (s:St):CQ×Bool:=
 let g:=g.seen s.look
 if g.hit then(⟨g.loss,g.n,g.lost+1,g.was⟩,true)else(g,false)
end CQ
def bComes (twice:Nat):List (List UInt8)→St→CQ→Option (St×CQ)
 |[],s,g=>some (s,g)
 |a::l,s,g=>
  if g.n<4611686018427387904∧g.lost≤4 then
   let x:=g.gone s
   if x.2 then bComes twice l s x.1
   else if(s.put a).2 then
    let s:=(s.put a).1
    let s:=if 0<twice∧x.1.n%twice=0 then(s.put a).1 else s
    if s.calm then
     let y:=lM 2 s 0
     if y.2<1 then none else bComes twice l y.1 x.1
    else none
   else none
  else none
def bGoes (twice:Nat):List (List UInt8)→St→aK→CQ→Option (St×aK×CQ)
 |[],s,h,g=>some (s,h,g)
 |f::r,s,h,g=>
  if f.length≤1048576∧h.sent+h.window≤2097152∧qC f=true∧g.n<4611686018427387904∧g.lost≤4 then
   let a:=h.answer f
   if a.2.2=true∧a.2.1.length≤1048576 then
    let x:=g.gone s
    if x.2 then bGoes twice r s a.1 x.1
    else match bComes twice a.2.1 s x.1 with
     |none=>none
     |some (s,g)=>bGoes twice r s a.1 g
   else none
  else none
def bTurns (twice:Nat):Nat→St→aK→CQ→Option (St×aK×CQ)
 |0,_,_,_=>none
 |k+1,s,h,g=>
  if s.tx.length≤16 then
   match s.tx with
   |[]=>some (s,h,g)
   |f::r=>match bGoes twice (f::r) {s with tx:=[]} h g with
    |none=>none
    |some (s,h,g)=>bTurns twice k s h g
  else none
def bTicks (twice k:Nat):Nat→Nat→St→aK→CQ→Option (St×aK×Bool)
 |0,_,s,h,_=>some (s,h,false)
 |m+1,t,s,h,g=>
  if s.now<4611686018427387904∧t<1000000000000000000 then
   match bTurns twice k (s.tick (7*t%4294967296)) {h with now:=((t+1:Nat):Int)} g with
   |none=>none
   |some (s,h,g)=>if s.phase=3∨s.phase=4 then some (s,h,decide (s.phase=3))else bTicks twice k m (t+1) s h g
  else none
end Go.Proofs.YtcbkaiakdhiloacGreatDoor
namespace Go.Proofs.YtcbkaiakdhiloacGreatDoor
open Go.RowKit Go.Proofs
attribute [local go_sem] aG aD aC aE
attribute [local simp] ibq ibn eqN ltN leN eqL ltL gtL leL geL
theorem K6.keep {w w':World} {g cap:Nat} {A:Option Addr} {d:CQ} {S:Nat→Prop} (h:K6 w g A cap d) (hf:Fr S w w') (hg:¬S g) (hA:∀a,A=some a→¬S a.block):K6 w' g A cap d:=by
 refine⟨h.bk.keep hf hg,⟨h.row.1,fun hn=> ?_⟩,h.len⟩
 obtain⟨ad,e,hb,h1,hc⟩:=h.row.2 hn
 refine⟨ad,e,Nat.lt_of_lt_of_le hb hf.size,h1,fun j u hu=>(hf.cell ?_ ?_).trans (hc j u hu)⟩
 ·rw[Aj];exact hb
 ·rw[Aj];exact hA ad e
theorem K6.none {w w':World} {g cap:Nat} {A:Option Addr} {d:CQ} (h:K6 w g A cap d) (hf:Fr noB w w'):K6 w' g A cap d:=h.keep hf id fun _ _=>id
theorem luckGone {Y:Nat→Prop} (p g:Nat) (A:Option Addr) (cap:Nat) (s:St) (d:CQ) (w:World) (hM:MX Y p s w) (hL:K6 w g A cap d) (hY:Y g) (hG:¬glB g) (hn:d.n<4611686018427387904) (hlo:d.lost≤4):
 Calls Tryz.prog 58 #[.pointer (some ⟨g,0,none⟩),.pointer (some ⟨p,0,none⟩)] w fun e w'=>e= .returned (.bool (d.gone s).2)∧K6 w' g A cap (d.gone s).1∧Fr (aI g) w w':=by
 obtain⟨r,hr⟩:∃r,d.gone s=r:=⟨_,rfl⟩
 rw[hr]
 unfold CQ.gone at hr
 dsimp only at hr
 have hB:=hL.bk
 have hgl:=hB.lt
 have hrow:=hL.row
 have hlen:=hL.len
 obtain⟨x,hx⟩:∃x,d.seen s.look=x:=⟨_,rfl⟩
 rw[hx]at hr
 obtain⟨loss,n,lost,⟨vnow,vl,vp,va,vb,vby,vlo,vc⟩⟩:=d
 dsimp only at hB hn hlo hrow hlen
 obtain⟨n1,hn1⟩:∃n1,n+1=n1:=⟨_,rfl⟩
 have eN:IntKind.i64.wrap ((n:Int)+1)=(n1:Int):=(IntWalk.i64_in _ (by omega)).trans (by omega)
 unfold CQ.seen at hx
 dsimp only at hx
 rw[hn1]at hx
 have hnb:n1≤4611686018427387904:=by omega
 clear hL
 refine en Tryz.func58 Tryz.ntmps58 ?_
 refine W ?_
 refine sK #[.slice A loss.length cap,.int .i64 (n1:Int),.int .i64 (lost:Int),.int .i64 vnow,.int .i64 (vl:Int),.int .i64 (vp:Int),.int .u32 (va:Int),.int .i64 vb,.int .i64 (vby:Int),.int .i64 vlo,.int .i64 (vc:Int)] hB ?_
 intro w1 hB f
 replace hrow:=hrow.keep f
 replace hM:=hM.keep f (fun b e=>by obtain rfl:b=g:=e;exact hY) (fun b hb e=>by obtain rfl:b=g:=e;exact hG hb)
 clear hn1 eN hn
 refine V ?_
 refine cS ?_
 refine cM [0,1,4] [] (fun w'=>K6 w' g A cap x∧Fr (aI g) w w') ?_ ?_
 ·have hc:=mU hM
  unfold FH at hc
  unfold St.look CQ.news at hx
  dsimp only at hx
  obtain⟨bl,hbl⟩:∃b,b=(decide (s.lease≠vl)||decide (s.phase≠vp)||decide (s.image.length≠vby)||decide (s.cache.length≠vc)):=⟨_,rfl⟩
  rw[←hbl]at hx
  generalize s.now=l0 at*
  generalize s.lease=l1 at*
  generalize s.phase=l2 at*
  generalize s.address=l3 at*
  generalize s.boots=l4 at*
  generalize s.image.length=l5 at*
  generalize s.lost=l6 at*
  generalize s.cache.length=l7 at*
  refine W ?_
  refine sC hc ?_
  intro w2 f2
  clear hc hr
  refine W ?_
  refine sA ?_
  intro w3 hE f3
  refine W ?_
  refine sT ?_
  intro w4 hE f4
  replace f4:=f2.none (bP f3 (Nat.le_refl _) f4)
  have hne:w2.heap.size≠g:=by have:=f.size;have:=f2.size;omega
  generalize w2.heap.size=gl at*
  replace hB:=hB.keep f4 id
  replace hrow:=hrow.keep (f4.of_no _)
  replace f:=f.none f4
  clear f2 f3 f4 hM
  refine V ?_
  refine cS ?_
  refine cM [0,1,4,5] [(52,.bool bl)] (fun w'=>Fr noB w4 w') ?_ ?_
  ·refine dI (An hB hE) [] (up 38 0) (h:= ?_)
   rintro w5 ⟨hB,hE⟩ f5
   clear hx
   by_cases e1:l1=vl
   rotate_left
   ·obtain rfl:bl=true:=by rw[hbl];simp[e1]
    clear hbl
    refine D ?_
    refine tN ?_
    exact mt f5
   by_cases e2:l2=vp
   rotate_left
   ·obtain rfl:bl=true:=by rw[hbl];simp[e2]
    clear hbl
    subst e1
    refine D ?_
    refine tN ?_
    exact mt f5
   by_cases e3:l5=vby
   rotate_left
   ·obtain rfl:bl=true:=by rw[hbl];simp[e3]
    clear hbl
    subst e1 e2
    refine D ?_
    refine tN ?_
    exact mt f5
   by_cases e4:l7=vc
   rotate_left
   ·obtain rfl:bl=true:=by rw[hbl];simp[e4]
    clear hbl
    subst e1 e2 e3
    refine D ?_
    refine tN ?_
    exact mt f5
   ·obtain rfl:bl=false:=by rw[hbl];simp[e1,e2,e3,e4]
    clear hbl
    subst e1 e2 e3 e4
    refine D ?_
    refine tN ?_
    exact mt f5
  rintro u w5 f5
  clear hbl
  replace hB:=hB.keep f5 id
  replace hE:=hE.keep f5 id
  replace hrow:=hrow.keep (f5.of_no _)
  replace f:=f.none f5
  cases bl
  ·refine W ?_
   subst hx
   exact mt ⟨⟨hB,hrow,hlen⟩,f⟩
  ·refine W ?_
   refine sKm #[.slice A loss.length cap,.int .i64 (n1:Int),.int .i64 (lost:Int),.int .i64 l0,.int .i64 (l1:Int),.int .i64 (l2:Int),.int .u32 (l3:Int),.int .i64 l4,.int .i64 (l5:Int),.int .i64 l6,.int .i64 (l7:Int)] hB ?_
   intro w6 hB f6
   refine W ?_
   refine sK #[.slice A loss.length cap,.int .i64 (n1:Int),.int .i64 0,.int .i64 l0,.int .i64 (l1:Int),.int .i64 (l2:Int),.int .u32 (l3:Int),.int .i64 l4,.int .i64 (l5:Int),.int .i64 l6,.int .i64 (l7:Int)] hB ?_
   intro w7 hB f7
   replace f6:=f6.trans f7
   refine W ?_
   subst hx
   exact mt ⟨⟨hB,hrow.keep f6,hlen⟩,f.trans f6⟩
 rintro u w2 ⟨hL,f⟩
 have hn2:x.n≤4611686018427387904:=by rw[←hx];split<;>exact hnb
 have hl2:x.lost≤4:=by rw[←hx];split<;>dsimp only<;>omega
 clear hx hB hM hrow hlen hnb hlo
 have hB:=hL.bk
 have hrow:=hL.row
 have hlen:=hL.len
 obtain⟨loss,n,lost,was⟩:=x
 dsimp only at hB hrow hlen hn2 hl2
 clear hL
 unfold CQ.hit at hr
 dsimp only at hr
 obtain⟨b,hb⟩:∃b,b=(decide (0<loss.length)&&decide ((loss.getD (n%loss.length) 0).tmod 3=0)&&decide (lost<2)):=⟨_,rfl⟩
 rw[←hb]at hr
 refine cS (cS ?_)
 refine cM [0,1,4] [(92,.bool b)] (fun w'=>Fr noB w2 w') ?_ ?_
 ·clear hr
  by_cases h0:loss.length=0
  ·obtain rfl:b=false:=by rw[hb];simp[h0]
   clear hb
   refine dI hB [] (up 33 0) (h:= ?_)
   intro w3 hB f3
   refine D ?_
   refine tN ?_
   exact mt f3
  ·obtain⟨k,hk⟩:∃k,n%loss.length=k:=⟨_,rfl⟩
   have hkl:k<loss.length:=by rw[←hk];exact Nat.mod_lt _ (by omega)
   obtain⟨ad,y,rfl,hy,hc⟩:=hrow.at_ hkl
   obtain⟨v,hv⟩:∃v,loss[k]? =some v:=⟨_,List.getElem?_eq_getElem hkl⟩
   obtain rfl: .int .i64 v=y:=by unfold Nz at hy;rw[List.getElem?_map,hv]at hy;exact Option.some.inj hy
   have hgd:loss.getD k 0=v:=by rw[List.getD_eq_getElem?_getD,hv];rfl
   rw[hk,hgd]at hb
   have eT:(n:Int).tmod (loss.length:Int)=(k:Int):=by rw[Int.tmod_eq_emod_of_nonneg (by omega),←hk];rfl
   have hb1:b=(decide (v.tmod 3=0)&&decide (lost<2)):=by rw[hb,decide_eq_true (show 0<loss.length by omega)];rfl
   clear hb hk hy hv hgd hrow
   generalize loss.length=m at*
   have hm0:0<m:=by omega
   refine dI (An hB hc) [] (up 33 0) (h:= ?_)
   rintro w3 ⟨hB,hc⟩ f3
   by_cases e1:v.tmod 3=0
   rotate_left
   ·obtain rfl:b=false:=by rw[hb1];simp[e1]
    clear hb1
    refine D ?_
    refine dQ (v:= .int .i64 v) ?_ ?_
    ·intro w' hS
     have hc:=hS.2
     go_simp
    refine D ?_
    refine tN ?_
    exact mt f3
   by_cases e2:lost<2
   ·obtain rfl:b=true:=by rw[hb1];simp[e1,e2]
    clear hb1
    refine D ?_
    refine dQ (v:= .int .i64 v) ?_ ?_
    ·intro w' hS
     have hc:=hS.2
     go_simp
    refine D ?_
    refine tN ?_
    exact mt f3
   ·obtain rfl:b=false:=by rw[hb1];simp[e1,e2]
    clear hb1
    refine D ?_
    refine dQ (v:= .int .i64 v) ?_ ?_
    ·intro w' hS
     have hc:=hS.2
     go_simp
    refine D ?_
    refine tN ?_
    exact mt f3
 rintro u w3 f3
 replace hB:=hB.keep f3 id
 replace hrow:=hrow.keep (f3.of_no _)
 replace f:=f.none f3
 clear hb
 have hl1:IntKind.i64.wrap ((lost:Int)+1)=((lost+1:Nat):Int):=(IntWalk.i64_in _ (by omega)).trans (by omega)
 refine cC (fun e=> ?_) fun e=> ?_
 ·rw[if_pos e]at hr
  clear e
  refine W ?_
  refine sK #[.slice A loss.length cap,.int .i64 (n:Int),.int .i64 ((lost+1:Nat):Int),.int .i64 was.now,.int .i64 (was.lease:Int),.int .i64 (was.phase:Int),.int .u32 (was.address:Int),.int .i64 was.boots,.int .i64 (was.bytes:Int),.int .i64 was.lost,.int .i64 (was.cached:Int)] hB ?_
  intro w4 hB f4
  refine W ?_
  subst hr
  exact⟨rfl,⟨hB,hrow.keep f4,hlen⟩,f.trans f4⟩
 ·rw[if_neg (by simp[e])]at hr
  clear e
  refine cK (tN ?_)
  refine W ?_
  subst hr
  exact⟨rfl,⟨hB,hrow,hlen⟩,f⟩
end Go.Proofs.YtcbkaiakdhiloacGreatDoor
namespace Go.Proofs.YtcbkaiakdhiloacGreatDoor
open Go.RowKit Go.Proofs
section
variable {x c':Code} {P:Program} {K:Act→World→Prop} {Q:Exit→Act→World→Prop} {n:Nat} {u:Nat→Value} {l:List (Nat×Value)} {w:World}
theorem cBl {lI lO:List (Nat×Value)} (Φ:World→Prop) (hb:∀(K:KT) (u:Nat→Value),(∀u' w',Φ w'→K .normal (F n u' lO) w')→cw P c' K (F n u lI) w) (h2:∀u' w',Φ w'→K (F n u' lO) w') (hc:c'=x:=by conv=>lhs;whnf) (h:∀x∈lI,gx u l x.1=x.2:=by(repeat' (first|exact List.forall_mem_nil _|refine List.forall_mem_cons.2 ⟨?_,?_⟩));all_goals first|rfl|(go_simp<;>fail)):cw P x (Exit.then K Q) (F n u l) w:=by
 subst hc
 obtain⟨u1,e⟩:=Lj h
 rw[e]
 exact hb _ u1 fun u' w' hp=>h2 u' w' hp
end
end Go.Proofs.YtcbkaiakdhiloacGreatDoor
namespace Go.Proofs.YtcbkaiakdhiloacGreatDoor
open Go.RowKit Go.Proofs
attribute [local go_sem] aG aD aC aE
attribute [local simp] gW ibq ibn eqN ltN leN eqL ltL gtL leL geL
theorem FY {f:List UInt8} (h:qC f=true):I6 f:=by
 unfold qC at h
 simp only[Bool.or_eq_true,Bool.and_eq_true,decide_eq_true_eq]at h
 intro ht nm hnm
 rcases h with h|h
 ·exact absurd ht h
 ·rcases hnm with rfl|rfl
  ·exact⟨h.1.1.1,h.1.1.2⟩
  ·exact⟨h.1.2,h.2⟩
structure BFqq (Y:Nat→Prop) (q g:Nat) (A:Option Addr):Prop where
 yq:Y q
 yg:Y g
 qg:q≠g
 gq:¬glB q
 gg:¬glB g
 kg:¬glK g
 gk:∀b,glK b→Y b
 a:∀x,A=some x→Y x.block∧x.block≠q
theorem BFqq.more {Y Z:Nat→Prop} {q g:Nat} {A:Option Addr} (h:BFqq Y q g A) (hZ:∀b,Y b→Z b):BFqq Z q g A:=
 ⟨hZ _ h.yq,hZ _ h.yg,h.qg,h.gq,h.gg,h.kg,fun b hb=>hZ _ (h.gk b hb),fun x hx=>⟨hZ _ (h.a x hx).1,(h.a x hx).2⟩⟩
theorem turns_tx {tw k:Nat} {s:St} {h:aK} {d:CQ} {x:St×aK×CQ} (hy:bTurns tw k s h d=some x):s.tx.length≤16:=by
 cases k with
 |zero=>exact absurd hy nofun
 |succ k=>
  unfold bTurns at hy
  split at hy
  ·assumption
  ·cases hy
theorem txAs_self {s:St} (h:s.tx=[]):s.txAs []=s:=by
 unfold St.txAs
 rw[←h]
def Ni (Y:Nat→Prop) (v:Value) (b:Nat):Prop:=Y b∨JE v b
structure BK (Y:Nat→Prop) (p q g:Nat) (A:Option Addr) (cap:Nat) (s:St) (h:aK) (d:CQ) (w:World):Prop where
 m:MX Y p s w
 hh:HAt w q h
 l:K6 w g A cap d
section
variable {Y Z:Nat→Prop} {p q g cap:Nat} {A:Option Addr} {s s':St} {h h':aK} {d d':CQ} {w w':World}
theorem BK.none (k:BK Y p q g A cap s h d w) (f:Fr noB w w'):BK Y p q g A cap s h d w':=⟨k.m.none f,k.hh.none f,k.l.none f⟩
theorem BK.mach (k:BK Y p q g A cap s h d w) (F:BFqq Y q g A) (m:MX Y p s' w') (f:Fr (DI Y) w w'):BK Y p q g A cap s' h d w':=
 ⟨m,⟨k.hh.bk.keep f fun x=>x F.yq,k.hh.gl.keep f fun b hb x=>x (F.gk b hb),k.hh.gq,k.hh.ok⟩,k.l.keep f (fun x=>x F.yg) fun a ha x=>x (F.a a ha).1⟩
theorem BK.host (k:BK Y p q g A cap s h d w) (F:BFqq Y q g A) (m:HAt w' q h') (f:Fr (aI q) w w'):BK Y p q g A cap s h' d w':=
 ⟨k.m.keep f (fun b e=>by obtain rfl:b=q:=e;exact F.yq) (fun b hb e=>by obtain rfl:b=q:=e;exact F.gq hb),m,k.l.keep f (fun e=>F.qg (by have e':g=q:=e;exact e'.symm)) fun a ha e=>(F.a a ha).2 e⟩
theorem BK.luck (k:BK Y p q g A cap s h d w) (F:BFqq Y q g A) (m:K6 w' g A cap d') (f:Fr (aI g) w w'):BK Y p q g A cap s h d' w':=
 ⟨k.m.keep f (fun b e=>by obtain rfl:b=g:=e;exact F.yg) (fun b hb e=>by obtain rfl:b=g:=e;exact F.gg hb),⟨k.hh.bk.keep f fun e=>F.qg e,k.hh.gl.keep f fun b hb e=>by obtain rfl:b=g:=e;exact F.kg hb,k.hh.gq,k.hh.ok⟩,m⟩
theorem BK.row {v:Value} (k:BK Y p q g A cap s h d w) (m:MX (fun b=>Y b∨JE v b) p s w):BK (Ni Y v) p q g A cap s h d w:=⟨m,k.hh,k.l⟩
end
instance (Y:Nat→Prop) (p q g cap:Nat) (A:Option Addr) (s:St) (h:aK) (d:CQ):Kp0 fun w=>BK Y p q g A cap s h d w:=⟨fun _ _ k f=>k.none f⟩
def actB (Y:Nat→Prop) (q g:Nat) (b:Nat):Prop:=¬Y b∨b=q∨b=g
theorem gone_n (d:CQ) (s:St):(d.gone s).1.n=d.n+1:=by
 unfold CQ.gone CQ.seen
 dsimp only
 repeat' split
 all_goals rfl
theorem bootsComes {Y:Nat→Prop} (p q g:Nat) (A vA:Option Addr) (cap vc tw:Nat) (v26 v27 v47 v48 v49:Value) (l:List (List UInt8)) (s:St) (h:aK) (d:CQ) (x:St×CQ) (w:World) (B:BK Y p q g A cap s h d w) (F0qq:BFqq Y q g A) (hrow:SlR w (actB Y q g) 1 vA l.length (txV l)) (hll:l.length≤1048576) (htw:tw≤4611686018427387904) (hx:bComes tw l s d=some x)
 (K:KT) (u:Nat→Value) (hK:∀u' w',BK Y p q g A cap x.1 h x.2 w'∧Fr (actB Y q g) w w'→K .normal (F 108 u' [(0,.pointer (some ⟨p,0,none⟩)),(1,.pointer (some ⟨q,0,none⟩)),(3,.int .i64 (tw:Int)),(11,.pointer (some ⟨g,0,none⟩)),(26,v26),(27,v27),(47,v47),(48,v48),(49,v49)]) w'):
 cw Tryz.prog (fR Tryz.f27 6) K (F 108 u [(0,.pointer (some ⟨p,0,none⟩)),(1,.pointer (some ⟨q,0,none⟩)),(3,.int .i64 (tw:Int)),(11,.pointer (some ⟨g,0,none⟩)),(26,v26),(27,v27),(47,v47),(48,v48),(49,v49),(64,.slice vA l.length vc),(65,.int .i64 (l.length:Int)),(66,.int .i64 0)]) w:=by
 refine cW ?_
 refine W ?_
 refine cL (fun i=>l.length-i.1) (fun(i:Nat×St×CQ)=>[(0,.pointer (some ⟨p,0,none⟩)),(1,.pointer (some ⟨q,0,none⟩)),(3,.int .i64 (tw:Int)),(11,.pointer (some ⟨g,0,none⟩)),(26,v26),(27,v27),(47,v47),(48,v48),(49,v49),(64,.slice vA l.length vc),(65,.int .i64 (l.length:Int)),(66,.int .i64 (i.1:Int))])
  (fun i w'=>i.1≤l.length∧BK Y p q g A cap i.2.1 h i.2.2 w'∧SlR w' (actB Y q g) 1 vA l.length (txV l)∧Fr (actB Y q g) w w'∧bComes tw (l.drop i.1) i.2.1 i.2.2=some x)
  (0,s,d) (mt (p:=True) trivial).1 ⟨Nat.zero_le _,B,hrow,Fr.refl _ _,hx⟩ ?_
 clear B hrow hx
 rintro⟨i,s,d⟩ u w1 ⟨hi,B,hrow,f,hx⟩
 dsimp only at hi B hx⊢
 by_cases hlt:i<l.length
 rotate_left
 ·rw[List.drop_of_length_le (by omega)]at hx
  obtain rfl:=Option.some.inj hx
  refine W ?_
  exact mtK hK ⟨B,f⟩
 obtain⟨ad,y,rfl,hy,hc⟩:=hrow.at_ hlt
 rw[List.drop_eq_getElem_cons hlt]at hx
 obtain⟨a,ha⟩:∃a,l[i]=a:=⟨_,rfl⟩
 rw[ha]at hx
 obtain rfl: .string (bs a)=y:=by unfold txV at hy;rw[List.getElem?_map,List.getElem?_eq_getElem hlt,ha]at hy;exact Option.some.inj hy
 unfold bComes at hx
 split at hx
 rotate_left
 ·cases hx
 rename_i hck
 obtain⟨hdn,hdl⟩:=hck
 clear hy ha
 have i1:IntKind.i64.wrap ((i:Int)+1)=((i+1:Nat):Int):=(IntWalk.i64_in _ (by omega)).trans (by omega)
 have hlg:=luckGone p g A cap s d w1 B.m B.l F0qq.yg F0qq.gg hdn hdl
 refine W ?_
 refine sC hlg ?_
 rintro w2 ⟨hL,f2⟩
 clear hlg hc
 have hdn4:(d.gone s).1.n≤4611686018427387904:=by rw[gone_n];omega
 generalize d.gone s=z at*
 obtain⟨d4,gn⟩:=z
 dsimp only at hx hL hdn4⊢
 replace B:=B.luck F0qq hL f2
 replace hrow:=hrow.keep (f2.mono fun b _ e=> .inr (.inr e))
 replace f:=f.trans (f2.mono fun b _ e=> .inr (.inr e))
 clear hL f2
 cases gn
 rotate_left
 ·rw[if_pos rfl]at hx
  refine W ?_
  exact⟨(i+1,s,d4),(mt (p:=True) trivial).1,⟨hlt,B,hrow,f,hx⟩,by dsimp only;omega⟩
 rw[if_neg nofun]at hx
 split at hx
 rotate_left
 ·cases hx
 rename_i hput
 have hcp:=Gt a B.m
 rw[hput]at hcp
 refine W ?_
 refine sX hcp ?_
 rintro e w3 ⟨rfl,hM,f3⟩
 refine⟨_,rfl,?_⟩
 clear hcp hput
 generalize(s.put a).1=s3 at*
 replace B:=B.mach F0qq hM f3
 replace hrow:=hrow.keep (f3.mono fun b _ e=> .inl e)
 replace f:=f.trans (f3.mono fun b _ e=> .inl e)
 clear hM f3
 have hB:=B.l.bk
 obtain⟨s4,hs4⟩:∃s4,(if 0<tw∧d4.n%tw=0 then(s3.put a).1 else s3)=s4:=⟨_,rfl⟩
 rw[hs4]at hx
 refine V ?_
 refine cF (h:= ?_)
 refine cK (tN ?_)
 refine cS ?_
 refine cM [0,1,3,11,26,27,47,48,49,64,65,66] [] (fun w'=>BK Y p q g A cap s4 h d4 w'∧SlR w' (actB Y q g) 1 (some ad) l.length (txV l)∧Fr (actB Y q g) w w') ?_ ?_
 ·by_cases h1:0<tw
  ·have h0:¬tw=0:=by omega
   have eT:(d4.n:Int).tmod (tw:Int)=((d4.n%tw:Nat):Int):=by rw[Int.tmod_eq_emod_of_nonneg (by omega)];rfl
   by_cases h2:d4.n%tw=0
   ·rw[h2]at eT
    rw[if_pos ⟨h1,h2⟩]at hs4
    clear h2
    refine W ?_
    refine W ?_
    refine sX (Gt a B.m) ?_
    rintro e w4 ⟨rfl,hM,f4⟩
    refine⟨_,rfl,?_⟩
    rw[hs4]at hM
    refine W ?_
    exact mt ⟨B.mach F0qq hM f4,hrow.keep (f4.mono fun b _ e=> .inl e),f.trans (f4.mono fun b _ e=> .inl e)⟩
   ·rw[if_neg fun x=>h2 x.2]at hs4
    subst hs4
    generalize d4.n%tw=z at*
    refine W ?_
    exact mt ⟨B,hrow,f⟩
  ·rw[if_neg fun x=>h1 x.1]at hs4
   subst hs4
   refine W ?_
   exact mt ⟨B,hrow,f⟩
 clear B hrow f hB
 rintro u w4 ⟨B,hrow,f⟩
 split at hx
 rotate_left
 ·cases hx
 rename_i hcalm
 have hcp:=E9 2 B.m (by decide) (St.calm_rest hcalm).1 (St.calm_rest hcalm).2
 rw[show(2:Int).toNat=2 from rfl]at hcp
 generalize lM 2 s4 0=y at*
 obtain⟨s5,ky⟩:=y
 dsimp only at hx hcp
 split at hx
 ·cases hx
 rename_i hk
 refine W ?_
 refine sX hcp ?_
 rintro e w5 ⟨rfl,hM,f5⟩
 refine⟨_,rfl,?_⟩
 clear hcp
 replace B:=B.mach F0qq hM f5
 replace hrow:=hrow.keep (f5.mono fun b _ e=> .inl e)
 replace f:=f.trans (f5.mono fun b _ e=> .inl e)
 refine W ?_
 exact⟨(i+1,s5,d4),(mt (p:=True) trivial).1,⟨hlt,B,hrow,f,hx⟩,by dsimp only;omega⟩
end Go.Proofs.YtcbkaiakdhiloacGreatDoor
namespace Go.Proofs.YtcbkaiakdhiloacGreatDoor
open Go.RowKit Go.Proofs
attribute [local go_sem] aG aD aC aE
attribute [local simp] ibq ibn eqN ltN leN eqL ltL gtL leL geL
theorem bootsGoes {Y:Nat→Prop} (p q g:Nat) (A vA:Option Addr) (cap vc tw:Nat) (v26 v27:Value) (out:List (List UInt8)) (s:St) (h:aK) (d:CQ) (x:St×aK×CQ) (w7:World) (G:BFqq Y q g A) (B:BK (Ni Y (.slice vA out.length vc)) p q g A cap s h d w7) (hov:w7.ownsRow 0 9 1 (.slice vA out.length vc) out.length (txV out)) (hap:∀b,JE (.slice vA out.length vc) b→¬Y b) (hol:out.length≤16) (htw:tw≤4611686018427387904) (hg:bGoes tw out s h d=some x)
 (K:KT) (u:Nat→Value) (hK:∀u' w',BK Y p q g A cap x.1 x.2.1 x.2.2 w'∧Fr (actB Y q g) w7 w'→K .normal (F 108 u' [(0,.pointer (some ⟨p,0,none⟩)),(1,.pointer (some ⟨q,0,none⟩)),(3,.int .i64 (tw:Int)),(11,.pointer (some ⟨g,0,none⟩)),(26,v26),(27,v27)]) w'):
 cw Tryz.prog (fR Tryz.f27 3) K (F 108 u [(0,.pointer (some ⟨p,0,none⟩)),(1,.pointer (some ⟨q,0,none⟩)),(3,.int .i64 (tw:Int)),(11,.pointer (some ⟨g,0,none⟩)),(26,v26),(27,v27),(13,.slice vA out.length vc)]) w7:=by
 refine cW ?_
 obtain⟨Y1,hY1⟩:∃Y1,Ni Y (.slice vA out.length vc)=Y1:=⟨_,rfl⟩
 have F1:BFqq Y1 q g A:=G.more fun b hb=>hY1▸ .inl hb
 have hsub:∀b,actB Y1 q g b→actB Y q g b:=fun b hb=>hb.imp (fun x hy=>x (hY1▸ .inl hy)) id
 have hrow:SlR w7 (actB Y1 q g) 1 vA out.length (txV out):=by
  refine⟨hov.1,fun hn=> ?_⟩
  obtain⟨ad,e,h1,_,h2⟩:=(mJ hov).2 hn
  have hr:JE (.slice vA out.length vc) ad.block:=by rw[e];rfl
  refine⟨ad,e,h1,?_,h2⟩
  rintro(h|h|h)
  ·exact h (hY1▸ .inr hr)
  ·exact hap _ hr (h▸G.yq)
  ·exact hap _ hr (h▸G.yg)
 have hM1:∀b,Y b→Y1 b:=fun b hb=>hY1▸ .inl hb
 rw[hY1]at B
 clear hov hap hY1
 refine W ?_
 refine cL (fun i=>out.length-i.1) (fun(i:Nat×St×aK×CQ)=>[(0,.pointer (some ⟨p,0,none⟩)),(1,.pointer (some ⟨q,0,none⟩)),(3,.int .i64 (tw:Int)),(11,.pointer (some ⟨g,0,none⟩)),(26,v26),(27,v27),(47,.slice vA out.length vc),(48,.int .i64 (out.length:Int)),(49,.int .i64 (i.1:Int))])
  (fun i w'=>i.1≤out.length∧BK Y1 p q g A cap i.2.1 i.2.2.1 i.2.2.2 w'∧SlR w' (actB Y1 q g) 1 vA out.length (txV out)∧Fr (actB Y1 q g) w7 w'∧bGoes tw (out.drop i.1) i.2.1 i.2.2.1 i.2.2.2=some x)
  (0,s,h,d) (mt (p:=True) trivial).1 ⟨Nat.zero_le _,B,hrow,Fr.refl _ _,hg⟩ ?_
 clear B hrow hg
 rintro⟨i,s,h,d⟩ u w8 ⟨hi,B,hrow,f8,hg⟩
 dsimp only at hi B hg⊢
 by_cases hlt:i<out.length
 rotate_left
 ·rw[List.drop_of_length_le (by omega)]at hg
  obtain rfl:=Option.some.inj hg
  refine W ?_
  exact mtK hK ⟨⟨B.m.mono hM1,B.hh,B.l⟩,f8.mono fun b _ hb=>hsub b hb⟩
 obtain⟨ad,y,rfl,hy,hc⟩:=hrow.at_ hlt
 rw[List.drop_eq_getElem_cons hlt]at hg
 obtain⟨fr,hfr⟩:∃fr,out[i]=fr:=⟨_,rfl⟩
 rw[hfr]at hg
 obtain rfl: .string (bs fr)=y:=by unfold txV at hy;rw[List.getElem?_map,List.getElem?_eq_getElem hlt,hfr]at hy;exact Option.some.inj hy
 unfold bGoes at hg
 split at hg
 rotate_left
 ·cases hg
 rename_i hck
 obtain⟨hfl,hsn,hnum,hdn,hdl⟩:=hck
 have hca:=Dw q h fr w8 B.hh hfl hsn (FY hnum)
 generalize h.answer fr=a at*
 obtain⟨h4,l,ok⟩:=a
 dsimp only at hg hca
 split at hg
 rotate_left
 ·cases hg
 rename_i hok
 obtain⟨rfl,hll⟩:=hok
 clear hy hfr hnum hsn hfl
 refine W ?_
 refine sX hca ?_
 rintro e w9 ⟨v2,rfl,hov2,hH,f9⟩
 refine⟨_,rfl,?_⟩
 clear hca
 have hap2:∀b,JE v2 b→¬Y1 b:=fun b hb hy=>by have:=(hov2.lt b hb).1;have:=B.m.lt b hy;omega
 have hb2:∀b,JE v2 b→w8.heap.size≤b∧b<w9.heap.size:=fun b hb=>hov2.lt b hb
 have hM2:MX (Ni Y1 v2) p s w9:=B.m.add f9 (fun b e=>by obtain rfl:b=q:=e;exact F1.yq) (fun b hb e=>by obtain rfl:b=q:=e;exact F1.gq hb) fun b hb=>hb.imp id fun h=>hb2 b h
 replace B:=B.host F1 hH f9
 replace hrow:=hrow.keep (f9.mono fun b _ e=> .inr (.inl e))
 replace f8:=f8.trans (f9.mono fun b _ e=> .inr (.inl e))
 clear hH f9 hb2
 refine W ?_
 refine sC (luckGone p g A cap s d w9 B.m B.l F1.yg F1.gg hdn hdl) ?_
 rintro w10 ⟨hL,f10⟩
 generalize d.gone s=z at*
 obtain⟨d4,gn⟩:=z
 dsimp only at hg hL⊢
 replace B:=B.luck F1 hL f10
 replace hM2:=hM2.keep f10 (fun b e=>by obtain rfl:b=g:=e;exact .inl F1.yg) (fun b hb e=>by obtain rfl:b=g:=e;exact F1.gg hb)
 replace hrow:=hrow.keep (f10.mono fun b _ e=> .inr (.inr e))
 replace f8:=f8.trans (f10.mono fun b _ e=> .inr (.inr e))
 replace hov2:=zH hov2 f10 fun b hb e=>hap2 b hb (by obtain rfl:b=g:=e;exact F1.yg)
 clear hL f10
 have i1:IntKind.i64.wrap ((i:Int)+1)=((i+1:Nat):Int):=(IntWalk.i64_in _ (by omega)).trans (by omega)
 cases gn
 rotate_left
 ·rw[if_pos rfl]at hg
  refine W ?_
  exact⟨(i+1,s,h4,d4),(mt (p:=True) trivial).1,⟨hlt,B,hrow,f8,hg⟩,by dsimp only;omega⟩
 rw[if_neg nofun]at hg
 split at hg
 ·cases hg
 rename_i s5 d5 hcm
 have F2qq:BFqq (Ni Y1 v2) q g A:=F1.more fun b hb=> .inl hb
 have B2:BK (Ni Y1 v2) p q g A cap s h4 d4 w10:=⟨hM2,B.hh,B.l⟩
 obtain⟨lA,lc,rfl,hlA⟩:=eS hov2
 have hrow2:SlR w10 (actB (Ni Y1 (.slice lA l.length lc)) q g) 1 lA l.length (txV l):=by
  refine⟨hov2.1,fun hn=> ?_⟩
  obtain⟨ad,e,h1,_,h2⟩:=(mJ hov2).2 hn
  have hr:JE (.slice lA l.length lc) ad.block:=by rw[e];rfl
  refine⟨ad,e,h1,?_,h2⟩
  rintro(h|h|h)
  ·exact h (.inr hr)
  ·exact hap2 _ hr (h▸F1.yq)
  ·exact hap2 _ hr (h▸F1.yg)
 clear hov2 hap2 hM2
 refine V ?_
 refine cF (h:= ?_)
 refine cK (tN ?_)
 refine cZ ?_
 refine W ?_
 refine uZ ?_
 refine cBk _ (fun K u hK=>bootsComes p q g A lA cap lc tw v26 v27 (.slice (some ad) out.length vc) (.int .i64 (out.length:Int)) (.int .i64 (i:Int)) l s h4 d4 (s5,d5) w10 B2 F2qq hrow2 hll htw hcm K u hK) ?_
 rintro u w11 ⟨B3,f11⟩
 refine W ?_
 exact⟨(i+1,s5,h4,d5),(mt (p:=True) trivial).1,⟨hlt,⟨B3.m.mono fun b hb=> .inl hb,B3.hh,B3.l⟩,hrow.keep (f11.mono fun b _ hb=>hb.imp (fun x hy=>x (.inl hy)) id),f8.trans (f11.mono fun b _ hb=>hb.imp (fun x hy=>x (.inl hy)) id),hg⟩,by dsimp only;omega⟩
end Go.Proofs.YtcbkaiakdhiloacGreatDoor
namespace Go.Proofs.YtcbkaiakdhiloacGreatDoor
open Go.RowKit Go.Proofs
attribute [local go_sem] aG aD aC aE
attribute [local simp] ibq ibn eqN ltN leN eqL ltL gtL leL geL
theorem bootsTurns {Y:Nat→Prop} (p q g:Nat) (A:Option Addr) (cap tw k:Nat) (v v26 v27:Value) (s:St) (h:aK) (d:CQ) (x:St×aK×CQ) (w6:World) (F0qq:BFqq Y q g A) (B:BK (Ni Y v) p q g A cap (s.txAs []) h d w6) (hov:w6.ownsRow 0 9 1 v s.tx.length (txV s.tx)) (hap:∀b,JE v b→¬Y b) (htw:tw≤4611686018427387904) (hy:bTurns tw k s h d=some x)
 (K:KT) (u:Nat→Value) (hK:∀u' w',BK Y p q g A cap x.1 x.2.1 x.2.2 w'∧Fr (actB Y q g) w6 w'→K .normal (F 108 u' [(0,.pointer (some ⟨p,0,none⟩)),(1,.pointer (some ⟨q,0,none⟩)),(3,.int .i64 (tw:Int)),(11,.pointer (some ⟨g,0,none⟩)),(26,v26),(27,v27)]) w'):
 cw Tryz.prog (fR Tryz.f27 2) K (F 108 u [(0,.pointer (some ⟨p,0,none⟩)),(1,.pointer (some ⟨q,0,none⟩)),(3,.int .i64 (tw:Int)),(11,.pointer (some ⟨g,0,none⟩)),(13,v),(26,v26),(27,v27)]) w6:=by
 refine cW ?_
 refine W ?_
 refine cL (fun i=>i.1) (fun(i:Nat×St×aK×CQ×Value)=>[(0,.pointer (some ⟨p,0,none⟩)),(1,.pointer (some ⟨q,0,none⟩)),(3,.int .i64 (tw:Int)),(11,.pointer (some ⟨g,0,none⟩)),(13,i.2.2.2.2),(26,v26),(27,v27)])
  (fun i w'=>BK (Ni Y i.2.2.2.2) p q g A cap (i.2.1.txAs []) i.2.2.1 i.2.2.2.1 w'∧w'.ownsRow 0 9 1 i.2.2.2.2 i.2.1.tx.length (txV i.2.1.tx)∧(∀b,JE i.2.2.2.2 b→¬Y b)∧Fr (actB Y q g) w6 w'∧bTurns tw i.1 i.2.1 i.2.2.1 i.2.2.2.1=some x)
  (k,s,h,d,v) (mt (p:=True) trivial).1 ⟨B,hov,hap,Fr.refl _ _,hy⟩ ?_
 clear B hov hap hy
 rintro⟨k,s,h,d,v⟩ u w7 ⟨B,hov,hap,f,hy⟩
 dsimp only at B hov hap hy⊢
 cases k with
 |zero=>exact absurd hy nofun
 |succ k=>
 unfold bTurns at hy
 split at hy
 rotate_left
 ·cases hy
 rename_i htl
 obtain⟨vA,vc,rfl,hvA⟩:=eS hov
 rcases hs:s.tx with _|⟨y,ys⟩
 ·rw[hs]at hy
  obtain rfl:=Option.some.inj hy
  rw[txAs_self hs]at B
  refine W ?_
  exact mtK hK ⟨⟨B.m.mono fun b hb=> .inl hb,B.hh,B.l⟩,f⟩
 ·have hpos:0<s.tx.length:=by rw[hs];exact Nat.succ_pos _
  rw[hs]at hy
  dsimp only at hy
  rw[←hs]at hy⊢
  clear hs y ys
  generalize s.tx=out at*
  replace B:BK (Ni Y (.slice vA out.length vc)) p q g A cap {s with tx:=[]} h d w7:=B
  generalize({s with tx:=[]}:St)=s at*
  obtain⟨y,hg⟩:∃y,bGoes tw out s h d=y:=⟨_,rfl⟩
  rw[hg]at hy
  rcases y with _|⟨s3,h3,d3⟩
  ·cases hy
  dsimp only at hy
  refine cZ ?_
  refine W ?_
  refine uZ ?_
  refine cS ?_
  refine cBl _ (fun K u hK=>bootsGoes p q g A vA cap vc tw v26 v27 out s h d (s3,h3,d3) w7 F0qq B hov hap htl htw hg K u hK) ?_
  clear B hov hap hg
  rintro u w8 ⟨B,f8⟩
  replace f:=f.trans f8
  dsimp only at B
  refine W ?_
  refine sX (uI B.m (turns_tx hy)) ?_
  rintro e w9 ⟨v,rfl,hov,hM,f9⟩
  refine⟨_,rfl,?_⟩
  have hap:∀b,JE v b→¬Y b:=fun b hb hy=>by have:=(hov.lt b hb).1;have:=B.m.lt b hy;omega
  replace B:=(B.mach F0qq (hM.mono fun b hb=> .inl hb) f9).row hM
  replace f:=f.trans (f9.mono fun b _ e=> .inl e)
  replace hov:w9.ownsRow 0 9 1 v s3.tx.length (txV s3.tx):=⟨hov.1,hov.2.imp id fun⟨g,c,cur,h1,h2,h3⟩=>⟨g,c,cur,h1,Nat.zero_le _,h3⟩⟩
  refine W ?_
  exact⟨(k,s3,h3,d3,v),(mt (p:=True) trivial).1,⟨B,hov,hap,f,hy⟩,Nat.lt_succ_self _⟩
end Go.Proofs.YtcbkaiakdhiloacGreatDoor
namespace Go.Proofs.YtcbkaiakdhiloacGreatDoor
open Go.RowKit Go.Proofs
def luckKeep (loss:List Int) (s:St):CQ:=⟨loss,0,0,s.look⟩
end Go.Proofs.YtcbkaiakdhiloacGreatDoor
namespace Go.Proofs.YtcbkaiakdhiloacGreatDoor
open Go.RowKit Go.Proofs
theorem F7 (l:List UInt8) (hl:l.length≤100000000000) (w:World) (hRk:RU w 5 rD) (hRb:RU w 3 h0.list):
 Calls Tryz.prog 33 #[.string (bs l)] w fun e w'=>e= .returned (.string (bs (sha l)))∧Fr noB w w':=by
 go_enter Tryz.func33,Tryz.ntmps33
 have hfa:Fr noB w (w.alloc (.cells #[.string (bs l)] 9)):=(Fr.refl _ _).alloc _
 have hcall:=Fo l hl w.heap.size 1 (w.alloc (.cells #[.string (bs l)] 9)) ((Bk.new w _ _).cell 0) (by rw[pH];omega) (hRk.keep hfa id) (hRb.keep hfa id)
 clear hRk hRb
 obtain⟨o,ho⟩:∃o,o=sha l:=⟨_,rfl⟩
 rw[←ho]
 have hol:o.length=32:=by rw[ho];rfl
 rw[←ho]at hcall
 clear ho
 have hsz32:(Tryz.prog.info? 143).map (·.size)=some 32:=by kernel_rfl
 have h32:((u8s o).toArray).size=32:=by simp[u8s,hol]
 have hone:((u8s o).toArray).all (·.oneCell')=true:=by rw[Array.all_eq_true];intro k hk;exact jE o _ (by simp)
 obtain⟨cb,hcb⟩:∃z,z=(u8s o).toArray:=⟨_,rfl⟩
 rw[←hcb]at hcall h32 hone
 have HCB:=Lib.hid hcb
 clear hcb
 go_wp2_with (first
  |(go_at_call 69;refine hcall.mono ?_;rintro e w9 ⟨rfl,hf9⟩)
  |(refine aN rfl 143 (.tmp 3) (.tmp 6) rfl w9.heap.size 143 (u8s (List.replicate 32 0)).toArray cb rfl rfl (Bk.new w9 _ _) (by rw[h32];rfl) (by rw[hsz32,h32]) hone ?_;intro w10 hx10 hf10;have hcv:=jA (P:=Tryz.prog) w10 102 9 5 Tryz.underlying102 Tryz.underlying5 Tryz.underlying9 noB (some ⟨w9.heap.size,0,none⟩) 32 32 o (by have h:=SlR.of_bk (S:=noB) (n:=32) (size:=1) hx10 id h32;rw[HCB.out]at h;exact h) (.inr ⟨_,_,rfl⟩)))
 go_ret
 exact⟨rfl,((hfa.trans hf9).alloc _).trans' hf10 fun b hb h=>by
  unfold aI at h
  have:=(hfa.trans hf9).size
  omega⟩
end Go.Proofs.YtcbkaiakdhiloacGreatDoor
namespace Go.Proofs.YtcbkaiakdhiloacGreatDoor
open Go.RowKit Go.Proofs
attribute [local go_sem] aG aD aC aE
attribute [local simp] JV ibq ibn eqN ltN leN eqL ltL gtL leL geL
def oK (s:List UInt8) (b wd:Int):lU:=⟨aL,[107,101,114,110,101,108],600000,sha s,b,wd,16,16⟩
def LY (w:World):Prop:=Fq w 0 #[.int .u8 2,.int .u8 0,.int .u8 0,.int .u8 0,.int .u8 0,.int .u8 42]
instance (g:Nat) (cs:Array Value):Kp0 fun w=>Fq w g cs:=⟨fun _ _ h f=>Fq.keep h f id⟩
instance:Kp0 fun w=>Glb w:=⟨fun _ _ h f=>h.keep f fun _ _=>id⟩
theorem CG (s:List UInt8) (b wd:Int) (w:World) (hs:s.length≤100000000000) (hG:Glb w) (hC:LY w):
 Calls Tryz.prog 11 #[.string (bs s),.int .i64 b,.int .i64 wd] w fun e w'=>e= .returned (.agg (JV (oK s b wd)))∧Fr noB w w':=by
 refine en Tryz.func11 Tryz.ntmps11 ?_
 refine W ?_
 refine sA ?_
 intro w1 hB f1
 replace hG:=hG.keep f1 fun _ _=>id
 replace hC:=Fq.keep hC f1 id
 refine W ?_
 refine dI (An hB (An hG hC)) [6] [1,3,4,0,2,5,6] (h:= ?_)
 rintro w2 hS f2
 have c0:=hS.2.2.2 0 _ rfl
 refine D ?_
 refine dQ (v:= .agg #[.int .u8 2,.int .u8 0,.int .u8 0,.int .u8 0,.int .u8 0,.int .u8 42]) ?_ ?_
 ·intro w' hS
  have k:=hS.2.2
  have c0:=k.2 0 _ rfl
  have c1:=k.2 1 _ rfl
  have c2:=k.2 2 _ rfl
  have c3:=k.2 3 _ rfl
  have c4:=k.2 4 _ rfl
  have c5:=k.2 5 _ rfl
  go_simp
 refine D ?_
 refine dQc (F7 s hs w2 hS.2.1.rounds hS.2.1.begin) hS ?_
 intro w3 f3 hS
 have hB:=hS.1
 obtain⟨hx,hh⟩:∃x,sha s=x:=⟨_,rfl⟩
 unfold oK
 rw[hh]
 refine D ?_
 refine dZ2 (h:= ?_)
 intro w4 hB f4
 refine⟨nofun,?_⟩
 refine D ?_
 refine W ?_
 exact bodyPost_ret (results_cell_row rfl _ _ _ 28 _ (0,0) _ (by rw[Dm];rfl) hB Tryz.underlying28 rfl (by kernel_rfl)) (by rw[Dm];rfl) ⟨rfl,bP ((f1.none f2).none f3) (Nat.le_refl _) f4⟩
theorem GO (c:lU) (w:World) (hG:Glb w) (hc:c.Ok):Calls Tryz.prog 12 #[.agg (JV c)] w fun e w'=>∃p,e= .returned (.tuple #[.pointer (some ⟨p,0,none⟩),.int .i64 0])∧MX (fun b=>b<w.heap.size) p (AG c) w'∧Fr noB w w':=
 (Gf c w hG).mono fun e w' h=>by
  obtain⟨L,he,hB,ho,hF⟩:=h.1 hc
  exact⟨L.p,he,⟨L,rfl,hB,fun b hb=>⟨Nat.lt_of_lt_of_le hb hF.size,fun hx=>by have:=ho b hx;omega⟩⟩,hF⟩
theorem lookF2 (a b c d e f g h:Int) (w:World):(Instr.field 40 (.agg #[.int .i64 a,.int .i64 b,.int .i64 c,.int .u32 d,.int .i64 e,.int .i64 f,.int .i64 g,.int .i64 h]) 2).run Tryz.prog w= .ok (.int .i64 c) w:=by kernel_rfl
end Go.Proofs.YtcbkaiakdhiloacGreatDoor
namespace Go.Proofs.YtcbkaiakdhiloacGreatDoor
open Go.RowKit Go.Proofs
attribute [local go_sem] aG aD aC aE
attribute [local simp] gW ibq ibn eqN ltN leN eqL ltL gtL leL geL
theorem keepBoots {Y0:Nat→Prop} (p q:Nat) (A:Option Addr) (cap:Nat) (loss:List Int) (tw nt k:Nat) (s:St) (h:aK) (w:World) (r:St×aK×Bool) (hM:MX Y0 p s w) (hH:HAt w q h) (hA:SlR w (aI q) 1 A loss.length (Nz loss)) (hAY:∀x,A=some x→Y0 x.block∧x.block≠q) (hll:loss.length≤1048576) (hY:Y0 q) (hq:¬glB q) (hk:∀b,glK b→Y0 b) (htw:tw≤4611686018427387904) (hnt:nt≤4611686018427387904)
 (hr:bTicks tw k nt 0 s h ⟨loss,0,0,s.look⟩=some r):
 Calls Tryz.prog 27 #[.pointer (some ⟨p,0,none⟩),.pointer (some ⟨q,0,none⟩),.slice A loss.length cap,.int .i64 (tw:Int),.int .i64 (nt:Int)] w fun e w'=>e= .returned (.bool r.2.2)∧MX Y0 p r.1 w'∧HAt w' q r.2.1∧Fr (fun b=>¬Y0 b∨b=q) w w':=by
 refine en Tryz.func27 Tryz.ntmps27 ?_
 refine W ?_
 have hc:=mU hM
 unfold FH at hc
 refine sC hc ?_
 intro w1 f1
 clear hc
 refine W ?_
 refine sA ?_
 intro w2 hg f2
 have hgl:w.heap.size≤w1.heap.size:=f1.size
 have hgl2:=hg.lt
 replace f2:=f1.none f2
 have hM2:=hM.none f2
 have hgq:q≠w1.heap.size:=by have:=hM.lt q hY;omega
 have hgG:¬glB w1.heap.size:=fun hb=>by have:=zG hM.gb _ hb;omega
 have hgK:¬glK w1.heap.size:=fun hb=>by have:=hM.lt _ (hk _ hb);omega
 have hgA:∀x,A=some x→x.block≠w1.heap.size:=fun x hx e=>by have:=hM.lt _ (hAY x hx).1;omega
 have hgm:∀b,Y0 b→b≠w1.heap.size:=fun b hb e=>by have:=hM.lt _ hb;omega
 have hgn:∀b,b=w1.heap.size→w.heap.size≤b:=fun b e=>by omega
 obtain⟨g,hgg⟩:∃g,w1.heap.size=g:=⟨_,rfl⟩
 rw[hgg]at hg hgq hgG hgK hgA hgm hgn hgl2 hgl
 obtain⟨Y,hYe⟩:∃Y:Nat→Prop,Y=fun b=>Y0 b∨b=g:=⟨_,rfl⟩
 have F:BFqq Y q g A:=by
  subst hYe
  exact⟨.inl hY,.inr rfl,hgq,hq,hgG,hgK,fun b hb=> .inl (hk b hb),fun x hx=>⟨.inl (hAY x hx).1,(hAY x hx).2⟩⟩
 have B:BK Y p q g A cap s h ⟨loss,0,0,s.look⟩ w2:=by
  refine⟨?_,hH.none f2,⟨hg,?_,hll⟩⟩
  ·subst hYe
   refine hM.add f2 (fun _ x=>x.elim) (fun _ _ x=>x) ?_
   rintro b (hb|hb)
   ·exact .inl hb
   ·exact .inr ⟨hgn b hb,by rw[hb];exact hgl2⟩
  ·refine(hA.keep (f2.of_no _)).2|>fun z=>⟨hA.1,fun hn=> ?_⟩
   obtain⟨ad,e,h1,_,h2⟩:=z hn
   exact⟨ad,e,h1,fun x=>hgA ad e x,h2⟩
 have hYY:∀b,Y0 b→Y b:=fun b hb=>by rw[hYe];exact .inl hb
 have hgF:∀b,actB Y q g b→b<w.heap.size→¬Y0 b∨b=q:=by
  rintro b (h|h|h) hl
  ·exact .inl fun x=>h (hYY b x)
  ·exact .inr h
  ·exact absurd (hgn b h) (by omega)
 replace f2:Fr (actB Y q g) w w2:=f2.of_no _
 generalize(⟨loss,0,0,s.look⟩:CQ)=d at*
 clear hM2 hg hA hAY hll hM hH hgA hgm hgn
 rw[hgg]
 refine W ?_
 refine cL (fun i=>nt-i.1) (fun(i:Nat×St×aK×CQ)=>[(0,.pointer (some ⟨p,0,none⟩)),(1,.pointer (some ⟨q,0,none⟩)),(3,.int .i64 (tw:Int)),(11,.pointer (some ⟨g,0,none⟩)),(26,.int .i64 (nt:Int)),(27,.int .i64 (i.1:Int))])
  (fun i w'=>i.1≤nt∧BK Y p q g A cap i.2.1 i.2.2.1 i.2.2.2 w'∧Fr (actB Y q g) w w'∧bTicks tw k (nt-i.1) i.1 i.2.1 i.2.2.1 i.2.2.2=some r)
  (0,s,h,d) (mt (p:=True) trivial).1 ⟨Nat.zero_le _,B,f2,hr⟩ ?_
 clear B f2 hr
 rintro⟨t,s,h,d⟩ u w3 ⟨ht,B,f,hr⟩
 dsimp only at ht B hr⊢
 by_cases hlt:t<nt
 rotate_left
 ·rw[show nt-t=0 by omega]at hr
  obtain rfl:=Option.some.inj hr
  refine W ?_
  exact⟨rfl,B.m.mono hYY,B.hh,f.mono fun b hb hl=>hgF b hl hb⟩
 obtain⟨m,hm⟩:∃m,nt-t=m+1:=⟨nt-t-1,by omega⟩
 rw[hm]at hr
 unfold bTicks at hr
 split at hr
 rotate_left
 ·cases hr
 rename_i hok
 obtain⟨hnow,ht18⟩:=hok
 obtain⟨y,hy⟩:∃y,bTurns tw k (s.tick (7*t%4294967296)) {h with now:=((t+1:Nat):Int)} d=y:=⟨_,rfl⟩
 rw[hy]at hr
 rcases y with _|⟨s2,h2,d2⟩
 ·cases hr
 dsimp only at hr
 have e1:IntKind.i64.wrap ((t:Int)+1)=((t+1:Nat):Int):=(IntWalk.i64_in _ (by omega)).trans (by omega)
 have e7:IntKind.i64.wrap (7*(t:Int))=((7*t:Nat):Int):=(IntWalk.i64_in _ (by omega)).trans (by omega)
 have e8:IntKind.u32.wrap ((7*t:Nat):Int)=((7*t%4294967296:Nat):Int):=by rw[IntKind.wrap_u32];omega
 have hdr:7*t%4294967296<4294967296:=Nat.mod_lt _ (by decide)
 generalize 7*t%4294967296=dr at*
 generalize 7*t=t7 at*
 obtain⟨t1,ht1⟩:∃t1,t+1=t1:=⟨_,rfl⟩
 rw[ht1]at e1 hy hr
 have HT:=Lib.hid (And.intro ht1 hm)
 clear ht1 hm
 have hB:=B.hh.bk
 refine W ?_
 refine sK (gW {h with now:=(t1:Int)}) hB ?_
 intro w4 hB f4
 replace B:=B.host F (B.hh.put hB f4 {B.hh.ok with}) f4
 replace f:=f.trans (f4.mono fun b _ e=> .inr (.inl e))
 clear hB f4
 refine W ?_
 refine sX (DP dr B.m hnow hdr) ?_
 rintro e w5 ⟨rfl,hM,f5⟩
 refine⟨_,rfl,?_⟩
 replace B:=B.mach F hM f5
 replace f:=f.trans (f5.mono fun b _ e=> .inl e)
 clear hM f5 e7 e8
 refine V ?_
 refine cS ?_
 refine cM [0,1,3,11,26,27] [] (fun w'=>BK Y p q g A cap s2 h2 d2 w'∧Fr (actB Y q g) w w') ?_ ?_
 ·clear hr e1 HT hnow ht18 hdr
  generalize s.tick dr=s at*
  obtain⟨h',hh⟩:∃h',({h with now:=(t1:Int)}:aK)=h':=⟨_,rfl⟩
  rw[hh]at hy B
  clear hh
  have htl:=turns_tx hy
  refine cZ ?_
  refine W ?_
  refine sX (uI B.m htl) ?_
  rintro e w6 ⟨v,rfl,hov,hM,f6⟩
  refine⟨_,rfl,?_⟩
  have B0qq:=B
  replace B:=(B.mach F (hM.mono fun b hb=> .inl hb) f6).row hM
  replace f:=f.trans (f6.mono fun b _ e=> .inl e)
  have hap:∀b,JE v b→¬Y b:=fun b hb hy=>by have:=(hov.lt b hb).1;have:=B0qq.m.lt b hy;omega
  clear hM f6 htl B0qq
  replace hov:w6.ownsRow 0 9 1 v s.tx.length (txV s.tx):=⟨hov.1,hov.2.imp id fun⟨g,c,cur,h1,h2,h3⟩=>⟨g,c,cur,h1,Nat.zero_le _,h3⟩⟩
  refine W ?_
  refine uZ ?_
  refine cBk _ (fun K u hK=>bootsTurns p q g A cap tw k v (.int .i64 (nt:Int)) (.int .i64 (t:Int)) s h' d (s2,h2,d2) w6 F B hov hap htw hy K u hK) ?_
  rintro u w7 ⟨B,f7⟩
  refine tN ?_
  exact mt ⟨B,f.trans f7⟩
 clear B f hy
 rintro u w6 ⟨B,f⟩
 have hc:=mU B.m
 unfold FH at hc
 refine W ?_
 refine sC hc ?_
 intro w7 f7
 replace B:=B.none f7
 replace f:=f.none f7
 clear f7 hc
 have hfd:=fun w=>lookF2 s2.now (s2.lease:Int) (s2.phase:Int) (s2.address:Int) s2.boots (s2.image.length:Int) s2.lost (s2.cache.length:Int) w
 obtain⟨ph,hph⟩:∃ph,s2.phase=ph:=⟨_,rfl⟩
 rw[hph]at hr hfd
 rw[hph]
 refine W ?_
 clear hfd
 by_cases h3:ph=3
 ·subst h3
  rw[if_pos (.inl rfl)]at hr
  obtain rfl:=Option.some.inj hr
  refine W ?_
  exact⟨rfl,B.m.mono hYY,B.hh,f.mono fun b hb hl=>hgF b hl hb⟩
 by_cases h4:ph=4
 ·subst h4
  rw[if_pos (.inr rfl)]at hr
  obtain rfl:=Option.some.inj hr
  refine W ?_
  exact⟨rfl,B.m.mono hYY,B.hh,f.mono fun b hb hl=>hgF b hl hb⟩
 ·rw[if_neg (by simp[h3,h4])]at hr
  refine W ?_
  have hT:=HT.out
  have e:nt-t1=m:=by omega
  exact⟨(t1,s2,h2,d2),(mt (p:=True) trivial).1,⟨by dsimp only;omega,B,f,by dsimp only;rw[e];exact hr⟩,by dsimp only;omega⟩
end Go.Proofs.YtcbkaiakdhiloacGreatDoor
namespace Go.Proofs.YtcbkaiakdhiloacGreatDoor
open Go.RowKit Go.Proofs
attribute [local go_sem] aG aD aC aE
attribute [local simp] gW ibq ibn eqN ltN leN eqL ltL gtL leL geL
theorem keepGot {Y:Nat→Prop} (p:Nat) (x:List UInt8) (s:St) (w:World) (hM:MX Y p s w):Calls Tryz.prog 28 #[.pointer (some ⟨p,0,none⟩),.string (bs x)] w fun e w'=>e= .returned (.bool (decide (s.phase=3∧s.image=x)))∧MX Y p s w'∧Fr (DI Y) w w':=by
 refine en Tryz.func28 Tryz.ntmps28 ?_
 refine W ?_
 have hc:=keepImageX hM
 by_cases hp:s.phase=3
 rotate_left
 ·rw[if_neg hp,decide_eq_false hp]at hc
  refine sX hc ?_
  rintro e w1 ⟨rfl,hM,f⟩
  refine⟨_,rfl,?_⟩
  refine W ?_
  exact⟨by rw[decide_eq_false fun h=>hp h.1],hM,f⟩
 rw[if_pos hp,decide_eq_true hp]at hc
 refine sX hc ?_
 rintro e w1 ⟨rfl,hM,f⟩
 refine⟨_,rfl,?_⟩
 have hc2:=mU hM
 unfold FH at hc2
 clear hc
 by_cases hi:s.image=x
 rotate_left
 ·have hb:(s.image==x)=false:=by simpa using hi
  refine W ?_
  exact⟨by rw[decide_eq_false fun h=>hi h.2],hM,f⟩
 ·subst hi
  have hfd:=fun w=>lookF2 s.now (s.lease:Int) (s.phase:Int) (s.address:Int) s.boots (s.image.length:Int) s.lost (s.cache.length:Int) w
  rw[decide_eq_true (show s.phase=3∧s.image=s.image from⟨hp,rfl⟩)]
  have hpb:decide (s.phase=3)=true:=decide_eq_true hp
  generalize s.phase=ph at*
  clear hp
  refine W ?_
  refine sC hc2 ?_
  intro w2 f2
  refine W ?_
  exact⟨rfl,hM.none f2,f.none f2⟩
theorem DA (x:List UInt8) (b wd:Int) (h1:8≤b) (h2:b≤1024) (h3:1≤wd) (h4:wd≤8):(oK x b wd).Ok:=by
 refine⟨⟨by show 1≤6;decide,by show 6≤20;decide,rfl⟩,(show([107,101,114,110,101,108]:List UInt8).all eR=true by decide),?_,by show aL≠iS;decide,by show aL.1.toNat%2≠1;decide⟩
 refine⟨⟨?_,?_⟩,⟨h1,h2⟩,⟨h3,h4⟩,⟨?_,?_⟩,?_,?_⟩<;>simp[oK]
end Go.Proofs.YtcbkaiakdhiloacGreatDoor
namespace Go.Proofs.YtcbkaiakdhiloacGreatDoor
open Go.RowKit Go.Proofs
attribute [local go_sem] aG aD aC
attribute [local simp] ibq ibn eqN ltN leN eqL ltL gtL leL geL
theorem u8info:(Tryz.prog.info? 5).map (fun i=>(i.zero,i.size,i.bytes))=some (some (.int .u8 0),1,1):=by kernel_rfl
theorem u8wrap_ex (x:Int):∃y:UInt8,IntKind.u8.wrap x=(y.toNat:Int):=by
 refine⟨UInt8.ofNat (x%256).toNat,?_⟩
 rw[IntKind.wrap_u8',UInt8.toNat_ofNat']
 omega
theorem u8set {w:World} {g k:Nat} {t:TypeId} {l:List UInt8} {x:Int} (h:Bk w g t ((u8s l).toArray.setIfInBounds k (.int .u8 (IntKind.u8.wrap x)))):∃y,Bk w g t (u8s (l.set k y)).toArray:=by
 obtain⟨y,hy⟩:=u8wrap_ex x
 refine⟨y,?_⟩
 rw[hy]at h
 have e:(u8s l).toArray.setIfInBounds k (.int .u8 (y.toNat:Int))=(u8s (l.set k y)).toArray:=by simp[u8s,List.map_set,u8v]
 rwa [e]at h
theorem keepBytesX (n:Nat) (sd:Int) (w:World) (hn:n≤1000000):
 Calls Tryz.prog 24 #[.int .i64 (n:Int),.int .i64 sd] w fun e w'=>∃l:List UInt8,e= .returned (.string (bs l))∧l.length=n∧Fr noB w w':=by
 obtain⟨inf,hi,hz,hs,hb⟩:=info_parts u8info
 have hmk:=tM (P:=Tryz.prog) 102 5 inf Tryz.underlying102 hi hz hs hb n (by omega) w
 clear hi hz hs hb
 refine en Tryz.func24 Tryz.ntmps24 ?_
 refine W ?_
 refine sA ?_
 intro w1 hB f1
 obtain⟨g,hg⟩:∃g,w.heap.size=g:=⟨_,rfl⟩
 have e0:Array.replicate n (Value.int .u8 0)=(u8s (List.replicate n 0)).toArray:=by simp[u8s,u8v]
 rw[hg,e0]at hB
 rw[hg]
 have hgn:∀b,b<w.heap.size→b≠g:=fun b h e=>by omega
 clear hmk e0 hg
 refine W ?_
 refine cL (fun i=>n-i.1) (fun(i:Nat×List UInt8)=>[(1,.int .i64 sd),(5,.slice (some ⟨g,0,none⟩) n n),(10,.int .i64 (n:Int)),(11,.int .i64 (i.1:Int))])
  (fun i w'=>i.1≤n∧i.2.length=n∧Bk w' g 5 (u8s i.2).toArray∧Fr noB w w')
  (0,List.replicate n 0) (mt (p:=True) trivial).1 ⟨Nat.zero_le _,List.length_replicate,hB,f1⟩ ?_
 clear hB f1
 rintro⟨k,l⟩ u w2 ⟨hk,hl,hB,f⟩
 dsimp only at hk hl hB⊢
 by_cases hlt:k<n
 rotate_left
 ·have hcv:=jA (P:=Tryz.prog) w2 102 9 5 Tryz.underlying102 Tryz.underlying5 Tryz.underlying9 noB (some ⟨g,0,none⟩) n n l (SlR.of_bk (S:=noB) (n:=n) (size:=1) hB id (by simp[u8s,hl])) (.inr ⟨_,_,rfl⟩)
  clear hB
  refine W ?_
  exact⟨l,rfl,hl,f⟩
 ·have i1:IntKind.i64.wrap ((k:Int)+1)=((k+1:Nat):Int):=(IntWalk.i64_in _ (by omega)).trans (by omega)
  have hcell:∃z,w2.cell? ⟨g,k,none⟩=some z:=⟨_,by rw[hB.cell k];exact Array.getElem?_eq_getElem (by simp[u8s,hl];exact hlt)⟩
  obtain⟨z,hcell⟩:=hcell
  refine W ?_
  refine sK _ hB ?_
  intro w3 hB f3
  obtain⟨y,hB⟩:=u8set hB
  refine W ?_
  exact⟨(k+1,l.set k y),(mt (p:=True) trivial).1,⟨hlt,by dsimp only;rw[List.length_set];exact hl,hB,f.trans' f3 fun b hb e=>absurd e (hgn b hb)⟩,by dsimp only;omega⟩
end Go.Proofs.YtcbkaiakdhiloacGreatDoor
namespace Go.Proofs.YtcbkaiakdhiloacGreatDoor
open Go.RowKit Go.Proofs
theorem Ej (l a1 a2 a3 a4 a5 a6 a7 a8 a9 a10 r:List UInt8) (e:l=(((((((((a1++a2)++a3)++a4)++a5)++a6)++a7)++a8)++a9)++a10)++r)
 (l1:a1.length=1) (l2:a2.length=1) (l3:a3.length=2) (l4:a4.length=2) (l5:a5.length=2) (l6:a6.length=1) (l7:a7.length=1) (l8:a8.length=2) (l9:a9.length=4) (l10:a10.length=4):
 aW l=if num a1/16≠4∨num a1%16<5 then(ip0,2)
 else if 5<num a1%16 then(ip0,4)
 else if num a3<20 then(ip0,2)
 else if l.length<num a3 then(ip0,1)
 else if eV (sub l 0 20)≠0 then(ip0,6)
 else if 32768≤num a5∨num a6=0 then(ip0,2)
 else if num a5%16384≠0 then(ip0,5)
 else(⟨num a4,num a6,num a7,num a9,num a10,r.take (num a3-20)⟩,0):=by
 have h20:¬l.length<20:=by rw[e];simp[l1,l2,l3,l4,l5,l6,l7,l8,l9,l10];omega
 have d1:sub l 0 1=a1:=by rw[e];simp[sub,List.append_assoc,←l1]
 match a1,l1 with
 |[x0],_=>match a2,l2 with
  |[x1],_=>match a3,l3 with
   |[x2,x3],_=>match a4,l4 with
    |[x4,x5],_=>match a5,l5 with
     |[x6,x7],_=>match a6,l6 with
      |[x8],_=>match a7,l7 with
       |[x9],_=>match a8,l8 with
        |[x10,x11],_=>match a9,l9 with
         |[x12,x13,x14,x15],_=>match a10,l10 with
          |[x16,x17,x18,x19],_=>
           unfold aW
           rw[if_neg h20]
           have d3:sub l 2 4=[x2,x3]:=by subst e;rfl
           have d4:sub l 4 6=[x4,x5]:=by subst e;rfl
           have d5:sub l 6 8=[x6,x7]:=by subst e;rfl
           have d6:sub l 8 9=[x8]:=by subst e;rfl
           have d7:sub l 9 10=[x9]:=by subst e;rfl
           have d9:sub l 12 16=[x12,x13,x14,x15]:=by subst e;rfl
           have d10:sub l 16 20=[x16,x17,x18,x19]:=by subst e;rfl
           have d11:sub l 20 (num [x2,x3])=r.take (num [x2,x3]-20):=by
            have hd:l.drop 20=r:=by subst e;rfl
            rw[←hd,sub,List.drop_take]
           rw[d1,d3,d4,d5,d6,d7,d9,d10,d11]
theorem C4 (l a1 a2 a3 a4 r:List UInt8) (fi ti:Nat) (e:l=(((a1++a2)++a3)++a4)++r) (l1:a1.length=2) (l2:a2.length=2) (l3:a3.length=2) (l4:a4.length=2):
 bA l fi ti=if num a3<8 then(DS,2)
 else if l.length<num a3 then(DS,1)
 else if num a4≠0∧eV (cU fi ti (num a3)++sub l 0 (num a3))≠0 then(DS,6)
 else(⟨num a1,num a2,r.take (num a3-8)⟩,0):=by
 have h8:¬l.length<8:=by rw[e];simp[l1,l2,l3,l4];omega
 match a1,l1 with
 |[x0,x1],_=>match a2,l2 with
  |[x2,x3],_=>match a3,l3 with
   |[x4,x5],_=>match a4,l4 with
    |[x6,x7],_=>
     unfold bA
     rw[if_neg h8]
     have d1:sub l 0 2=[x0,x1]:=by subst e;rfl
     have d2:sub l 2 4=[x2,x3]:=by subst e;rfl
     have d3:sub l 4 6=[x4,x5]:=by subst e;rfl
     have d4:sub l 6 8=[x6,x7]:=by subst e;rfl
     have d5:sub l 8 (num [x4,x5])=r.take (num [x4,x5]-8):=by
      have hd:l.drop 8=r:=by subst e;rfl
      rw[←hd,sub,List.drop_take]
     rw[d1,d2,d3,d4,d5]
theorem CK (l a1 a2 a4 a6 r:List UInt8) (b0 b1 b2 b3 b4 b5 c0 c1 c2 c3 c4 c5:UInt8) (e:l=(((((a1++a2)++[b0,b1,b2,b3,b4,b5])++a4)++[c0,c1,c2,c3,c4,c5])++a6)++r)
 (l1:a1.length=6) (l2:a2.length=2) (l4:a4.length=4) (l6:a6.length=4):
 bE l=if a1=[0,1,8,0,6,4]∧(num a2=1∨num a2=2)then(⟨num a2,(b0,b1,b2,b3,b4,b5),num a4,(c0,c1,c2,c3,c4,c5),num a6⟩,0)else(IS,2):=by
 have h28:¬l.length<28:=by rw[e];simp[l1,l2,l4,l6];omega
 have d0:sub l 0 6=a1:=by rw[e];simp[sub,List.append_assoc,←l1]
 match a1,l1 with
 |[x0,x1,x2,x3,x4,x5],_=>
  match a2,l2 with
  |[y0,y1],_=>
   match a4,l4 with
   |[z0,z1,z2,z3],_=>
    match a6,l6 with
    |[t0,t1,t2,t3],_=>
     unfold bE
     rw[if_neg h28,d0]
     subst e
     rfl
theorem Ag (l a3 r:List UInt8) (b0 b1 b2 b3 b4 b5 c0 c1 c2 c3 c4 c5:UInt8) (e:l=(([b0,b1,b2,b3,b4,b5]++[c0,c1,c2,c3,c4,c5])++a3)++r) (l3:a3.length=2):
 aJ l=if num a3<1536 then(GK,3)else if 1500<r.length then(GK,7)else(⟨(b0,b1,b2,b3,b4,b5),(c0,c1,c2,c3,c4,c5),num a3,r⟩,0):=by
 have h14:¬l.length<14:=by rw[e];simp[l3]
 match a3,l3 with
 |[x0,x1],_=>
  unfold aJ
  rw[if_neg h14,kV,kV]
  subst e
  rfl
end Go.Proofs.YtcbkaiakdhiloacGreatDoor
namespace Go.Proofs.YtcbkaiakdhiloacGreatDoor
theorem AS (id:Nat) (ttl pr:UInt8) (fi ti n:Nat):eV (fC id ttl pr fi ti n (eV (fC id ttl pr fi ti n 0)))=0:=by
 unfold fC
 rw[show big 2 0=[0,0] by decide]
 exact uQ _ _ (by simp[ED,aB])
theorem yX {a b:List UInt8} {n:Nat} (h:a.length=n):sub (a++b) 0 n=a:=by
 subst h;simp[sub]
theorem sY (id:Nat) (ttl pr:UInt8) (fi ti:Nat) (ld r:List UInt8) (hid:id<65536) (hfi:fi<4294967296) (hti:ti<4294967296) (ht:ttl.toNat≠0) (hl:ld.length≤1480):
 aW (fG id ttl pr fi ti ld++r)=(⟨id,ttl.toNat,pr.toNat,fi,ti,ld⟩,0):=by
 have hz:=AS id ttl pr fi ti ld.length
 have hlen:=eZ id ttl pr fi ti ld.length (eV (fC id ttl pr fi ti ld.length 0))
 have hs:sub (fG id ttl pr fi ti ld++r) 0 20=fC id ttl pr fi ti ld.length (eV (fC id ttl pr fi ti ld.length 0)):=by
  unfold fG;rw[List.append_assoc];exact yX hlen
 have hln:(fG id ttl pr fi ti ld++r).length=20+ld.length+r.length:=by unfold fG;simp[hlen];omega
 rw[Ej (fG id ttl pr fi ti ld++r) [69] [0] (big 2 (20+ld.length)) (big 2 id) [64,0] [ttl] [pr] (big 2 (eV (fC id ttl pr fi ti ld.length 0))) (big 4 fi) (big 4 ti) (ld++r)
  (by unfold fG fC ED Gp;simp[List.append_assoc]) rfl rfl (aB _ _) (aB _ _) rfl rfl rfl (aB _ _) (aB _ _) (aB _ _),hs,hz,hln,
  cA 2 _ (by omega),cA 2 _ (by omega),cA 4 _ (by omega),cA 4 _ (by omega)]
 have e1:num [69]=69:=by decide
 have e2:num [64,0]=16384:=by decide
 have e3:num [ttl]=ttl.toNat:=by simp[num]
 have e4:num [pr]=pr.toNat:=by simp[num]
 rw[e1,e2,e3,e4,if_neg (by omega),if_neg (by omega),if_neg (by omega),if_neg (by omega),if_neg (by omega),if_neg (by omega),if_neg (by omega)]
 rw[show 20+ld.length-20=ld.length by omega,List.take_left' rfl]
theorem G9 (fm tp fi ti:Nat) (ld:List UInt8):eV (cU fi ti (8+ld.length)++cG fm tp ld (gC fm tp fi ti ld))=0:=by
 have he:(cU fi ti (8+ld.length)++GA fm tp (8+ld.length)).length%2=0:=by simp[cU,GA,aB]
 have e:∀s,cU fi ti (8+ld.length)++cG fm tp ld s=(cU fi ti (8+ld.length)++GA fm tp (8+ld.length))++big 2 s++ld:=by
  intro s;unfold cG;simp[List.append_assoc]
 rw[e]
 unfold gC
 split
 ·rename_i h
  exact AA _ _ he (by unfold jN at h;exact h)
 ·unfold jN;exact uQ _ _ he
theorem pX (fm tp fi ti:Nat) (ld r:List UInt8) (hfm:fm<65536) (htp:tp<65536) (hl:ld.length≤1480):
 bA (cG fm tp ld (gC fm tp fi ti ld)++r) fi ti=(⟨fm,tp,ld⟩,0):=by
 have hsl:=yN fm tp fi ti ld
 have hln:(cG fm tp ld (gC fm tp fi ti ld)++r).length=8+ld.length+r.length:=by rw[List.length_append,fZ]
 rw[C4 (cG fm tp ld (gC fm tp fi ti ld)++r) (big 2 fm) (big 2 tp) (big 2 (8+ld.length)) (big 2 (gC fm tp fi ti ld)) (ld++r) fi ti
  (by unfold cG GA;simp[List.append_assoc]) (aB _ _) (aB _ _) (aB _ _) (aB _ _),hln,
  cA 2 _ (by omega),cA 2 _ (by omega),cA 2 _ (by omega),cA 2 _ (by omega),yX (fZ _ _ _ _),G9]
 rw[if_neg (by omega),if_neg (by omega),if_neg (by simp),show 8+ld.length-8=ld.length by omega,List.take_left' rfl]
end Go.Proofs.YtcbkaiakdhiloacGreatDoor
