/- Parts of the walk; written by programs, merged. -/
import Derived.Test.YtcbkaiakdhiloacGreatDoorRax
set_option linter.unusedSimpArgs false
set_option linter.unusedVariables false
set_option maxRecDepth 20000
set_option maxHeartbeats 8000000
namespace Go.Proofs.YtcbkaiakdhiloacGreatDoor
open Go.RowKit Go.Proofs
attribute [local go_sem] aG aD aC aE gK
attribute [local simp] gW Da Bl ipC Dn tL ibq ibn eqN ltN leN eqL ltL gtL leL geL
def Ix (s:List UInt8):tK:=
 let p:=(aW (aJ s).1.by').1
 (aM (bA p.by' p.fm p.«to»).1.ld).1
def I6 (s:List UInt8):Prop:=(aJ s).1.ty=2048→∀nm,nm=St.bNm∨nm=St.wNm→0≤cH nm (Ix s).fs∧cH nm (Ix s).fs≤70000
attribute [-go_sem] run_eql_struct run_neq_struct run_equalIn_agg in
theorem Dw (q:Nat) (h:aK) (s:List UInt8) (w:World) (hA:HAt w q h) (hs:s.length≤1048576) (hsn:h.sent+h.window≤2097152) (hn:I6 s):
 Calls Tryz.prog 26 #[.pointer (some ⟨q,0,none⟩),.string (bs s)] w fun e w'=>∃v,e= .returned (.tuple #[v,.bool (h.answer s).2.2])∧w'.ownsRow w.heap.size 9 1 v (h.answer s).2.1.length (txV (h.answer s).2.1)∧HAt w' q (h.answer s).1∧Fr (aI q) w w':=by
 obtain⟨r,hr⟩:∃r,h.answer s=r:=⟨_,rfl⟩
 rw[hr]
 unfold aK.answer at hr
 unfold I6 Ix at hn
 dsimp only at hr hn
 have hql:=hA.bk.lt
 refine en Tryz.func26 Tryz.ntmps26 ?_
 refine W ?_
 refine sC (nD s w (by omega)) ?_
 intro w1 f1
 have hin:=kH s
 generalize aJ s=E at*
 obtain⟨⟨em,fm,ty,by'⟩,k⟩:=E
 dsimp only at hr hin hn⊢
 refine W ?_
 refine sA ?_
 intro w2 hE f2
 refine W ?_
 refine sT ?_
 intro w3 hE f3
 replace f3:=bP f2 (Nat.le_refl _) f3
 have f:=f1.none f3
 replace hA:=hA.none f
 have hq1:w.heap.size≤w1.heap.size:=f1.size
 have hw3:w.heap.size≤w3.heap.size:=f.size
 generalize w1.heap.size=ge at*
 clear f1 f2 f3
 have hok:=hA.ok
 have c0:=hA.gl.card.2 0 _ rfl
 have c1:=hA.gl.card.2 1 _ rfl
 have c2:=hA.gl.card.2 2 _ rfl
 have c3:=hA.gl.card.2 3 _ rfl
 have c4:=hA.gl.card.2 4 _ rfl
 have c5:=hA.gl.card.2 5 _ rfl
 refine V ?_
 refine cS (cS ?_)
 obtain⟨b,hb⟩:∃b,b=decide (k≠0∨fm≠aL∨s.length<60):=⟨_,rfl⟩
 refine cM [0,1,4,5,6] [(35,.bool b)] (fun w'=>w3=w') ?_ ?_
 ·have hM:∀w,(binOp .neq 26 (.agg (xF fm)) (.agg #[.int .u8 2,.int .u8 0,.int .u8 0,.int .u8 0,.int .u8 0,.int .u8 42])).run Tryz.prog w= .ok (.bool (decide (fm≠aL))) w:=mH fm aL
  have hGd:=iA
  unfold xF at hM
  obtain⟨c,hc⟩:∃c,c=decide (fm≠aL):=⟨_,rfl⟩
  obtain⟨c',hc'⟩:∃c,c=decide (s.length<60):=⟨_,rfl⟩
  replace hb:b=decide (k≠0∨c=true∨c'=true):=by rw[hb,hc,hc'];simp
  simp only[←hc]at hM
  clear hc hr hn
  by_cases a1:k=0
  rotate_left
  ·obtain rfl:b=true:=by rw[hb];simp[a1]
   clear hb hc'
   refine W ?_
   exact mt rfl
  subst a1
  cases c
  rotate_left
  ·obtain rfl:b=true:=by rw[hb];simp
   clear hb hc'
   refine W ?_
   exact mt rfl
  ·obtain rfl:b=c':=by rw[hb];simp
   clear hb
   by_cases a2:s.length<60
   ·obtain rfl:b=true:=by rw[hc'];simp[a2]
    clear hc'
    refine W ?_
    exact mt rfl
   ·obtain rfl:b=false:=by rw[hc'];simp[a2]
    clear hc'
    refine W ?_
    exact mt rfl
 rintro u _ rfl
 refine cC (fun e=> ?_) fun e=> ?_
 ·rw[if_pos (of_decide_eq_true (hb.symm.trans e))]at hr
  clear hb
  refine W ?_
  subst hr
  exact⟨_,rfl,⟨rfl,.inl ⟨rfl,rfl⟩⟩,hA,f.of_no _⟩
 rw[if_neg (of_decide_eq_false (hb.symm.trans e))]at hr
 clear hb e
 refine cK (tN ?_)
 refine cZ ?_
 refine W ?_
 by_cases h1:ty=2054
 ·subst h1
  rw[if_pos rfl]at hr
  refine W ?_
  refine sC (AO by' _ (by omega)) ?_
  intro w4 f4
  have hin2:=tP by'
  generalize bE by'=a at*
  obtain⟨⟨op,am,fi,tm,ti⟩,k2⟩:=a
  dsimp only at hr hin2⊢
  refine W ?_
  refine sA ?_
  intro w5 hR f5
  refine W ?_
  refine sT ?_
  intro w6 hR f6
  replace f6:=bP f5 (Nat.le_refl _) f6
  replace f6:=f4.none f6
  replace hA:=hA.none f6
  replace f:=f.none f6
  clear hE
  have hg1:w.heap.size≤w4.heap.size:=Nat.le_trans hw3 f4.size
  generalize w4.heap.size=ga at*
  clear f4 f5 f6 c0 c1 c2 c3 c4 c5
  have c0:=hA.gl.card.2 0 _ rfl
  have c1:=hA.gl.card.2 1 _ rfl
  have c2:=hA.gl.card.2 2 _ rfl
  have c3:=hA.gl.card.2 3 _ rfl
  have c4:=hA.gl.card.2 4 _ rfl
  have c5:=hA.gl.card.2 5 _ rfl
  refine V ?_
  refine cS (cS ?_)
  obtain⟨b,hb⟩:∃b,b=decide (k2≠0∨op≠1∨am≠aL):=⟨_,rfl⟩
  refine cM [0,1,4,5,8] [(57,.bool b)] (fun w'=>w6=w') ?_ ?_
  ·have hM:∀w,(binOp .neq 26 (.agg (xF am)) (.agg #[.int .u8 2,.int .u8 0,.int .u8 0,.int .u8 0,.int .u8 0,.int .u8 42])).run Tryz.prog w= .ok (.bool (decide (am≠aL))) w:=mH am aL
   have hGd:=iA
   unfold xF at hM
   obtain⟨c,hc⟩:∃c,c=decide (am≠aL):=⟨_,rfl⟩
   replace hb:b=decide (k2≠0∨op≠1∨c=true):=by rw[hb,hc];simp
   simp only[←hc]at hM
   clear hc hr hn
   by_cases a1:k2=0
   rotate_left
   ·obtain rfl:b=true:=by rw[hb];simp[a1]
    clear hb
    refine W ?_
    exact mt rfl
   subst a1
   by_cases a2:op=1
   rotate_left
   ·obtain rfl:b=true:=by rw[hb];simp[a2]
    clear hb
    refine W ?_
    exact mt rfl
   ·subst a2
    obtain rfl:b=c:=by rw[hb];simp
    clear hb
    refine W ?_
    exact mt rfl
  rintro u _ rfl
  refine cC (fun e=> ?_) fun e=> ?_
  ·rw[if_pos (of_decide_eq_true (hb.symm.trans e))]at hr
   clear hb
   refine W ?_
   subst hr
   exact⟨_,rfl,⟨rfl,.inl ⟨rfl,rfl⟩⟩,hA,f.of_no _⟩
  rw[if_neg (of_decide_eq_false (hb.symm.trans e))]at hr
  clear hb e
  unfold aK.arp at hr
  dsimp only at hr
  refine cK (tN ?_)
  refine cZ ?_
  refine W ?_
  by_cases h2:ti=aS
  ·rw[if_pos h2]at hr
   obtain rfl:ti=167772215:=h2
   refine W ?_
   refine dI (An hR hA) [] (up 5 0) (h:= ?_)
   rintro w7 ⟨hR,hA⟩ f7
   replace f:=f.none f7
   refine D ?_
   refine W ?_
   subst hr
   exact⟨_,rfl,⟨rfl,.inl ⟨rfl,rfl⟩⟩,hA,f.of_no _⟩
  rw[if_neg h2]at hr
  have h2:¬ti=167772215:=h2
  have hf1:=hin2.2.1
  have hf2:=hin2.2.2
  have d0:=hA.gl.other.2 0 _ rfl
  have d1:=hA.gl.other.2 1 _ rfl
  have d2:=hA.gl.other.2 2 _ rfl
  have d3:=hA.gl.other.2 3 _ rfl
  have d4:=hA.gl.other.2 4 _ rfl
  have d5:=hA.gl.other.2 5 _ rfl
  refine W ?_
  refine uZ ?_
  refine W ?_
  refine sC (zS 2 ti fi 2 0 0 0 0 7 2 0 0 0 0 42 _ (by decide) hf2 hf1) ?_
  intro w7 f7
  have hpl:=xW 2 (2,0,0,0,0,7) ti (2,0,0,0,0,42) fi
  replace hr:(h,[(aT (2,0,0,0,0,42) (2,0,0,0,0,7) 2054 (gQ 2 (2,0,0,0,0,7) ti (2,0,0,0,0,42) fi).1).1],decide (fi=167772215)&&(decide (ti=167772161)||decide (ti=h.next)))=r:=hr
  generalize gQ 2 (2,0,0,0,0,7) ti (2,0,0,0,0,42) fi=p1 at*
  clear c0 c1 c2 c3 c4 c5 d0 d1 d2 d3 d4 d5
  replace hR:=hR.keep f7 id
  replace hA:=hA.none f7
  replace f:=f.none f7
  have c0:=hA.gl.card.2 0 _ rfl
  have c1:=hA.gl.card.2 1 _ rfl
  have c2:=hA.gl.card.2 2 _ rfl
  have c3:=hA.gl.card.2 3 _ rfl
  have c4:=hA.gl.card.2 4 _ rfl
  have c5:=hA.gl.card.2 5 _ rfl
  have d0:=hA.gl.other.2 0 _ rfl
  have d1:=hA.gl.other.2 1 _ rfl
  have d2:=hA.gl.other.2 2 _ rfl
  have d3:=hA.gl.other.2 3 _ rfl
  have d4:=hA.gl.other.2 4 _ rfl
  have d5:=hA.gl.other.2 5 _ rfl
  refine W ?_
  refine sC (lQ 2054 p1.1 2 0 0 0 0 42 2 0 0 0 0 7 _ (by decide) (by omega)) ?_
  intro w8 f8
  generalize aT (2,0,0,0,0,42) (2,0,0,0,0,7) 2054 p1.1=p2 at*
  clear c0 c1 c2 c3 c4 c5 d0 d1 d2 d3 d4 d5
  replace hR:=hR.keep f8 id
  replace hA:=hA.none f8
  replace f:=f.none f8
  have hB:=hA.bk
  refine W ?_
  refine dI (An hB (An hR (An hA f))) [] [0,2,3,4,5,6,7,8,9,10,11,12,13,14,15,16,17,18,1,19,20] (h:= ?_)
  intro w9 hS _
  have hB:=hS.1
  have hR:=hS.2.1
  have hf9:=hS.2.2.2.size
  subst hr
  clear hn
  by_cases e1:fi=167772215<;>by_cases e2:ti=167772161<;>refine D ?_<;>(refine dA2 (cs:= #[.string (bs p2.1)]) inferInstance hS ?_;intro w10 hS hE f10;refine D ?_;refine W ?_;refine⟨_,?_,BH hE hf9 rfl rfl (show 1≤maxLen by decide),hS.2.2.1,hS.2.2.2.of_no _⟩;simp[e1,e2])
 rw[if_neg h1]at hr
 refine W ?_
 refine uZ ?_
 refine W ?_
 refine sC (tZ by' _ (by omega)) ?_
 intro w4 f4
 have hin2:=rX by'
 generalize aW by'=a at*
 obtain⟨⟨ip,ttl,pr,pf,pt,pb⟩,k2⟩:=a
 dsimp only at hr hin2 hn⊢
 refine W ?_
 refine sA ?_
 intro w5 hP f5
 refine W ?_
 refine sT ?_
 intro w6 hP f6
 replace f6:=bP f5 (Nat.le_refl _) f6
 replace f6:=f4.none f6
 replace hA:=hA.none f6
 replace hE:=hE.keep f6 id
 replace f:=f.none f6
 generalize w4.heap.size=gp at*
 clear f4 f5 f6 c0 c1 c2 c3 c4 c5
 have hpf:=hin2.1
 have hpt:=hin2.2.1
 have hpr:=hin2.2.2.1
 refine V ?_
 refine W ?_
 refine sC (rP pb pf pt _ hpf hpt (by omega)) ?_
 intro w7 f7
 have hin3:=vD pb pf pt
 generalize bA pb pf pt=a at*
 obtain⟨⟨uf,ut,ul⟩,k3⟩:=a
 dsimp only at hr hin3 hn⊢
 refine W ?_
 refine sA ?_
 intro w8 hU f8
 refine W ?_
 refine sT ?_
 intro w9 hU f9
 replace f9:=bP f8 (Nat.le_refl _) f9
 replace f9:=f7.none f9
 replace hA:=hA.none f9
 replace hE:=hE.keep f9 fun x=>x
 replace hP:=hP.keep f9 fun x=>x
 replace f:=f.none f9
 generalize w7.heap.size=gu at*
 clear f7 f8 f9
 refine V ?_
 refine cS (cS ?_)
 obtain⟨b,hb⟩:∃b,b=decide (ty≠2048∨k2≠0∨k3≠0∨pr≠17):=⟨_,rfl⟩
 refine cM [0,4,5,14,15] [(133,.bool b)] (fun w'=>w9=w') ?_ ?_
 ·clear hr hn
  by_cases a0:ty=2048
  rotate_left
  ·obtain rfl:b=true:=by rw[hb];simp[a0]
   clear hb
   refine W ?_
   exact mt rfl
  subst a0
  by_cases a1:k2=0
  rotate_left
  ·obtain rfl:b=true:=by rw[hb];simp[a1]
   clear hb
   refine W ?_
   exact mt rfl
  subst a1
  by_cases a2:k3=0
  rotate_left
  ·obtain rfl:b=true:=by rw[hb];simp[a2]
   clear hb
   refine W ?_
   exact mt rfl
  subst a2
  by_cases a3:pr=17
  rotate_left
  ·obtain rfl:b=true:=by rw[hb];simp[a3]
   clear hb
   refine W ?_
   exact mt rfl
  ·subst a3
   obtain rfl:b=false:=by rw[hb];simp
   clear hb
   refine W ?_
   exact mt rfl
 rintro u _ rfl
 refine cC (fun e=> ?_) fun e=> ?_
 ·rw[if_pos (of_decide_eq_true (hb.symm.trans e))]at hr
  clear hb
  refine W ?_
  subst hr
  exact⟨_,rfl,⟨rfl,.inl ⟨rfl,rfl⟩⟩,hA,f.of_no _⟩
 have hno:=of_decide_eq_false (hb.symm.trans e)
 rw[if_neg hno]at hr
 have hty:ty=2048:=Decidable.byContradiction fun x=>hno (.inl x)
 replace hn:=hn hty
 clear hb e hno hE
 refine cK (tN ?_)
 refine cZ ?_
 refine W ?_
 by_cases h2:ut=67
 ·subst h2
  rw[if_pos rfl]at hr
  refine W ?_
  have hc:=G4 q h uf 67 ul w9 hA hin3.1 (by omega)
  rw[hr]at hc
  refine sX hc ?_
  rintro e w10 ⟨v,rfl,hov,hA,f10⟩
  refine⟨_,rfl,?_⟩
  refine W ?_
  exact⟨_,rfl,⟨hov.1,hov.2.imp id fun⟨g,c,cur,h1,h2,h3⟩=>⟨g,c,cur,h1,Nat.le_trans f.size h2,h3⟩⟩,hA,(f.of_no _).trans f10⟩
 rw[if_neg h2]at hr
 refine W ?_
 refine uZ ?_
 refine W ?_
 refine sX (yI ul _ (by omega) hA.gl.tabs) ?_
 rintro e w10 ⟨⟨⟨A,cap,rfl,hS⟩,f10⟩,hwt⟩
 refine⟨_,rfl,?_⟩
 have hin4:=pW ul
 have hw9:w.heap.size≤w9.heap.size:=f.size
 replace hS:=hS.sub (T:=aI q) (fun b _ e=>by have e':b=q:=e;show b<w9.heap.size;omega)
 generalize aM ul=a at*
 obtain⟨⟨op,bk,tx,dt,fs⟩,k4⟩:=a
 dsimp only at hr hin4 hwt hS hn⊢
 replace hA:=hA.none f10
 replace hP:=hP.keep f10 fun x=>x
 replace hU:=hU.keep f10 fun x=>x
 replace f:=f.none f10
 refine W ?_
 refine sA ?_
 intro w11 hM f11
 refine W ?_
 refine sT ?_
 intro w12 hM f12
 replace f12:=bP f11 (Nat.le_refl _) f12
 replace hA:=hA.none f12
 replace hP:=hP.keep f12 fun x=>x
 replace hU:=hU.keep f12 fun x=>x
 replace hS:=hS.keep (f12.of_no _)
 replace f:=f.none f12
 generalize w10.heap.size=gm at*
 clear f10 f11 f12
 have hB:=hA.bk
 refine V ?_
 refine cS (cS ?_)
 obtain⟨b,hb⟩:∃b,b=decide (k4≠0∨pf≠aS∨pt≠h.next):=⟨_,rfl⟩
 refine cM [0,4,5,15,17] [(163,.bool b)] (fun w'=>Fr noB w12 w') ?_ ?_
 ·replace hb:b=decide (k4≠0∨pf≠167772215∨pt≠h.next):=hb
  refine dI (An hB hP) [] (up 16 0) (h:= ?_)
  rintro w13 ⟨hB,hP⟩ f13
  clear hr hn
  by_cases a1:k4=0
  rotate_left
  ·obtain rfl:b=true:=by rw[hb];simp[a1]
   clear hb
   refine D ?_
   refine tN ?_
   exact mt f13
  subst a1
  by_cases a2:pf=167772215
  rotate_left
  ·obtain rfl:b=true:=by rw[hb];simp[a2]
   clear hb
   refine D ?_
   refine tN ?_
   exact mt f13
  subst a2
  by_cases a3:pt=h.next
  rotate_left
  ·obtain rfl:b=true:=by rw[hb];simp[a3]
   clear hb
   refine D ?_
   refine tN ?_
   exact mt f13
  ·subst a3
   obtain rfl:b=false:=by rw[hb];simp
   clear hb
   refine D ?_
   refine tN ?_
   exact mt f13
 rintro u w13 f13
 replace hA:=hA.none f13
 replace hU:=hU.keep f13 fun x=>x
 replace hM:=hM.keep f13 fun x=>x
 replace hS:=hS.keep (f13.of_no _)
 replace f:=f.none f13
 refine cC (fun e=> ?_) fun e=> ?_
 ·rw[if_pos (of_decide_eq_true (hb.symm.trans e))]at hr
  clear hb
  refine W ?_
  subst hr
  exact⟨_,rfl,⟨rfl,.inl ⟨rfl,rfl⟩⟩,hA,f.of_no _⟩
 rw[if_neg (of_decide_eq_false (hb.symm.trans e))]at hr
 clear hb e
 refine cK (tN ?_)
 refine cZ ?_
 refine W ?_
 have hc:=Gu q h uf ut ul ⟨op,bk,tx,dt,fs⟩ A cap w13 hA hin3.1 hin4.2.1 hS (by dsimp only;omega) (hn _ (.inl rfl)) (hn _ (.inr rfl)) hsn
 rw[hr]at hc
 refine sX hc ?_
 rintro e w14 ⟨v,rfl,hov,hA,f14⟩
 refine⟨_,rfl,?_⟩
 refine W ?_
 refine uZ ?_
 refine W ?_
 exact⟨_,rfl,⟨hov.1,hov.2.imp id fun⟨g,c,cur,h1,h2,h3⟩=>⟨g,c,cur,h1,Nat.le_trans f.size h2,h3⟩⟩,hA,(f.of_no _).trans f14⟩
end Go.Proofs.YtcbkaiakdhiloacGreatDoor
