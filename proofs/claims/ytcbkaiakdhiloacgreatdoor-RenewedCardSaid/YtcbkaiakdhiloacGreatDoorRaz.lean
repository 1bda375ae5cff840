/- Parts of the walk; written by programs, merged. -/
import Derived.Test.YtcbkaiakdhiloacGreatDoorRay
set_option linter.unusedSimpArgs false
set_option linter.unusedVariables false
set_option maxRecDepth 20000
set_option maxHeartbeats 8000000
namespace Go.Proofs.YtcbkaiakdhiloacGreatDoor
open Go.RowKit Go.Proofs
attribute [local go_sem] aG aD aC aE
attribute [local simp] gW ibq ibn eqN ltN leN eqL ltL gtL leL geL
theorem FY {f:List UInt8} (h:qC f=true):I6 f:=by
 unfold qC at h
 simp only[Bool.or_eq_true,Bool.and_eq_true,decide_eq_true_eq]at h
 intro ht nm hnm
 rcases h with h|h
 ·exact absurd ht h
 ·rcases hnm with rfl|rfl
  ·exact⟨h.1.1.1,h.1.1.2⟩
  ·exact⟨h.1.2,h.2⟩
def Ni (Y:Nat→Prop) (v:Value) (b:Nat):Prop:=Y b∨JE v b
structure BK (Y:Nat→Prop) (p q g:Nat) (A:Option Addr) (cap:Nat) (s:St) (h:aK) (d:CQ) (w:World):Prop where
 m:MX Y p s w
 hh:HAt w q h
 l:K6 w g A cap d
section
variable {Y Z:Nat→Prop} {p q g cap:Nat} {A:Option Addr} {s s':St} {h h':aK} {d d':CQ} {w w':World}
end
end Go.Proofs.YtcbkaiakdhiloacGreatDoor
namespace Go.Proofs.YtcbkaiakdhiloacGreatDoor
open Go.RowKit Go.Proofs
attribute [local go_sem] aG aD gK aE
def pG (c:Int) (n:Nat):Nat:=((if c<0 then-(c+1)else c)%(n:Int)).toNat
theorem BE (c:Int) (n:Nat) (h:0<n):pG c n<n:=by
 unfold pG
 have h1:=Int.emod_lt_of_pos (if c<0 then-(c+1)else c) (by omega:(0:Int)<(n:Int))
 have h2:=Int.emod_nonneg (if c<0 then-(c+1)else c) (by omega:(n:Int)≠0)
 omega
theorem Es (c:Int) (n:Nat) (h:0<n):((pG c n:Nat):Int)=(if c<0 then-(c+1)else c)%(n:Int):=by
 unfold pG
 exact Int.toNat_of_nonneg (Int.emod_nonneg _ (by omega))
theorem KR (c:Int) (n:Nat) (w:World) (h:0<n) (hn:n≤4611686018427387904) (h0: -9223372036854775808≤c) (h1:c≤9223372036854775807):
 Calls Tryz.prog 23 #[.int .i64 c,.int .i64 n] w fun e w'=>e= .returned (.int .i64 (pG c n:Nat))∧w=w':=by
 have hp:=Lib.hid (Es c n h)
 have hz:((n:Int)==0)=false:=by simp;omega
 by_cases hc:c<0
 ·have e1:IntKind.i64.wrap (c+1)=c+1:=IntWalk.i64_in _ (by omega)
  have e2:IntKind.i64.wrap (-(c+1))= -(c+1):=IntWalk.i64_in _ (by omega)
  have hp2:Hid (((pG c n:Nat):Int)=(-(c+1))%(n:Int)):=by unfold Hid;rw[hp.out,if_pos hc]
  obtain⟨d,hd⟩:∃d:Int,d= -(c+1):=⟨_,rfl⟩
  have d0:0≤d:=by omega
  have d1:d≤9223372036854775807:=by omega
  have Hd:=Lib.hid hd
  go_enter Tryz.func23,Tryz.ntmps23
  have hd':=hd.symm
  clear hd
  go_wp2_with fail
  go_ret
  refine⟨?_,rfl⟩
  rw[hp2.out,←Hd.out]
  try rfl
 ·have hp2:Hid (((pG c n:Nat):Int)=c%(n:Int)):=by unfold Hid;rw[hp.out,if_neg hc]
  have c0:0≤c:=by omega
  clear hc
  go_enter Tryz.func23,Tryz.ntmps23
  go_wp2_with fail
  go_ret
  refine⟨?_,rfl⟩
  rw[hp2.out]
  try rfl
theorem Kz (c:Int) (n k:Nat) (w:World) (hk:k=pG c n) (h:0<n) (hn:n≤4611686018427387904) (h0: -9223372036854775808≤c) (h1:c≤9223372036854775807):
 Calls Tryz.prog 23 #[.int .i64 c,.int .i64 n] w fun e w'=>e= .returned (.int .i64 (k:Int))∧w'=w:=by
 subst hk;exact(KR c n w h hn h0 h1).mono fun e w' h=>⟨h.1,h.2.symm⟩
end Go.Proofs.YtcbkaiakdhiloacGreatDoor
namespace Go.Proofs.YtcbkaiakdhiloacGreatDoor
open Go.RowKit Go.Proofs
attribute [local go_sem] aG aD aC aE
attribute [local simp] Da ipC Dn ibq ibn eqN ltN leN eqL ltL gtL leL geL
section
variable {x c':Code} {P:Program} {n:Nat} {u:Nat→Value} {l:List (Nat×Value)} {w:World}
theorem MU {α:Type} {lI:List (Nat×Value)} {lO:α→List (Nat×Value)} {K:KT} (Φ:α→World→Prop) (hb:∀(K:KT) (u:Nat→Value),(∀g u' w',Φ g w'→K .normal (F n u' (lO g)) w')→cw P c' K (F n u lI) w) (h2:∀g u' w',Φ g w'→K .normal (F n u' (lO g)) w') (hc:c'=x:=by conv=>lhs;whnf) (h:∀x∈lI,gx u l x.1=x.2:=by(repeat' (first|exact List.forall_mem_nil _|refine List.forall_mem_cons.2 ⟨?_,?_⟩));all_goals first|rfl|(go_simp<;>fail)):cw P x K (F n u l) w:=by
 subst hc
 obtain⟨u1,e⟩:=Lj h
 rw[e]
 exact hb _ u1 fun g u' w' hp=>h2 g u' w' hp
end
theorem Do (g off m cap:Nat) (h1:1≤m) (h2:m≤cap) (w:World):(Instr.slice 73 (.slice (some ⟨g,off,none⟩) m cap) (some (.int .i64 1)) none none).run Tryz.prog w= .ok (.slice (some (if cap-1=0 then⟨g,off,none⟩else⟨g,off+1,none⟩)) (m-1) (cap-1)) w:=by
 have e:=run_slice_l (P:=Tryz.prog) w 73 (some ⟨g,off,none⟩) m cap (by kernel_rfl) .i64 1 (by decide) (by omega)
 rw[e]
 have hs:(sizeOf (Tryz.prog.elem 73)).run Tryz.prog w= .ok 1 w:=by kernel_rfl
 rw[hs]
 show Result.ok (sliced _ 1 m cap 1) w=_
 unfold sliced
 by_cases hc:cap=1
 ·subst hc;rfl
 ·rw[if_neg hc,if_neg (by omega)]
  rfl
theorem G7 {Y:Nat→Prop} (p q t n a:Nat) (an:Int) (A:Option Addr) (cap:Nat) (f:List UInt8) (out:List (List UInt8)) (d:RnD) (x:RnD×List (List UInt8)) (w0:World) (G:RF Y q) (B:RK Y p q A cap (f::out) d.s d.h w0) (ht:t≤1000000) (hn:n≤1000000) (ha:a=pG an 5) (ha0: -9223372036854775808≤an) (ha1:an≤9223372036854775807) (hx:iE n a t f d out=some x)
 (K:KT) (u:Nat→Value) (hK:∀(g:Option Addr×Nat) u' w',RK Y p q g.1 g.2 x.2 x.1.s x.1.h w'∧Fr (fun b=>¬Y b∨b=q) w0 w'→K .normal (F 215 u' [(1,.int .i64 an),(5,.int .i64 (n:Int)),(6,.pointer (some ⟨p,0,none⟩)),(8,.pointer (some ⟨q,0,none⟩)),(9,.int .i64 (x.1.bound:Int)),(10,.int .i64 (x.1.asked:Int)),(11,.int .i64 (x.1.slow:Int)),(12,.int .i64 (t:Int)),(13,.slice g.1 x.2.length g.2)]) w'):
 cw Tryz.prog (fR Tryz.f7 3) K (F 215 u [(1,.int .i64 an),(5,.int .i64 (n:Int)),(6,.pointer (some ⟨p,0,none⟩)),(8,.pointer (some ⟨q,0,none⟩)),(9,.int .i64 (d.bound:Int)),(10,.int .i64 (d.asked:Int)),(11,.int .i64 (d.slow:Int)),(12,.int .i64 (t:Int)),(13,.slice A (out.length+1) cap)]) w0:=by
 refine cW ?_
 obtain⟨s,h,bd,ak,sl⟩:=d
 dsimp only at B hx⊢
 unfold iE at hx
 dsimp only at hx
 split at hx
 rotate_left
 ·cases hx
 rename_i hck
 obtain⟨hfl,hsn,hnum,hak,hsl,hbd⟩:=hck
 have hca:=Dw q h f w0 B.hh hfl hsn (FY hnum)
 generalize h.answer f=r at*
 obtain⟨h4,l,ok⟩:=r
 dsimp only at hx hca
 split at hx
 rotate_left
 ·cases hx
 rename_i hok
 obtain⟨rfl,hll⟩:=hok
 have hoff:=B.off
 rw[show txV (f::out)= .string (bs f)::txV out from rfl]at hoff
 obtain⟨g,off,rfl,hc,hlc⟩:=hoff.head
 have htl:=hoff.tail
 rw[show(txV out).length=out.length by simp[txV]]at hlc
 have hsl:=Do g off (out.length+1) cap (by omega) hlc
 rw[Nat.add_sub_cancel]at hsl
 obtain⟨A2,hA2⟩:∃A2:Addr,(if cap-1=0 then(⟨g,off,none⟩:Addr)else⟨g,off+1,none⟩)=A2:=⟨_,rfl⟩
 have hb2:A2.block=g:=by rw[←hA2];split<;>rfl
 rw[hA2]at htl hsl
 obtain⟨c2,hc2⟩:∃c2,cap-1=c2:=⟨_,rfl⟩
 rw[hc2]at htl hsl
 have hoA:∀b,aY Y (some A2) b→aY Y (some ⟨g,off,none⟩) b:=fun b hb=>hb.imp id fun⟨a,e,h⟩=>⟨_,rfl,by cases e;rw[←h];exact hb2.symm⟩
 have B2:RK Y p q (some A2) c2 out s h w0:=⟨B.m.mono hoA,B.hh,htl,fun a e y=>by cases e;rw[hb2]at y;exact B.ap _ rfl y⟩
 clear B htl hoff hlc hA2 hc2 hb2 hoA
 obtain⟨m1,hm1⟩:∃m1,out.length+1=m1:=⟨_,rfl⟩
 rw[hm1]at hsl⊢
 have h0m:0<m1:=by omega
 clear hm1
 refine W ?_
 refine sX hca ?_
 rintro e w1 ⟨v2,rfl,hov,hH,f1⟩
 refine⟨_,rfl,?_⟩
 clear hca hsl hsn
 obtain⟨Y1,hY1⟩:∃Y1,Ni Y v2=Y1:=⟨_,rfl⟩
 have hYY:∀b,Y b→Y1 b:=fun b hb=>hY1▸ .inl hb
 have G1:RF Y1 q:=⟨hYY _ G.yq,G.gq,fun b hb=>hYY _ (G.gk b hb),fun b hb=>hYY _ (G.gb b hb)⟩
 have hA2l:=(B2.off.lt A2 rfl).2
 have B:RK Y1 p q (some A2) c2 out s h4 w1:=by
  have B3:=B2.host G hH f1
  refine⟨?_,hH,B3.off,fun a e y=> ?_⟩
  ·refine B2.m.add f1 (fun b e=>by obtain rfl:b=q:=e;exact .inl G.yq) (fun b hb e=>by obtain rfl:b=q:=e;exact G.gq hb) fun b hb=> ?_
   rcases hb with hb|hb
   ·rw[←hY1]at hb
    exact hb.imp .inl fun hr=>hov.lt b hr
   ·exact .inl (.inr hb)
  ·cases e
   rw[←hY1]at y
   rcases y with y|y
   ·exact B2.ap _ rfl y
   ·have:=(hov.lt _ y).1;omega
 obtain⟨vA,vc,rfl,_⟩:=eS hov
 have hl:SlR w1 (DI Y1) 1 vA l.length (txV l):=by
  have hr:=mJ hov
  refine⟨hr.1,fun hn=> ?_⟩
  obtain⟨ad,e,h1,_,h2⟩:=hr.2 hn
  exact⟨ad,e,h1,fun x=>x (hY1▸ .inr (by rw[e];rfl)),h2⟩
 have f01:Fr (fun b=>¬Y b∨b=q) w0 w1:=f1.mono fun b _ e=> .inr e
 clear B2 hov hH f1 hA2l
 refine W ?_
 refine sC (nD f w1 (by omega)) ?_
 intro w2 f2
 have hin:=kH f
 obtain⟨⟨kd,pto⟩,hkd⟩:∃z,iV f=z:=⟨_,rfl⟩
 rw[hkd]at hx
 dsimp only at hx
 unfold iV at hkd
 dsimp only at hkd
 generalize aJ f=E at hkd hin⊢
 obtain⟨⟨em,fm,ty,by'⟩,k1⟩:=E
 dsimp only at hkd hin⊢
 refine W ?_
 refine sA ?_
 intro w3 hE f3
 refine W ?_
 refine sT ?_
 intro w4 hE f4
 replace f4:=f2.none (bP f3 (Nat.le_refl _) f4)
 replace B:=B.none f4
 replace hl:=hl.keep (f4.of_no _)
 replace f01:=f01.none f4
 generalize w2.heap.size=ge at*
 clear f2 f3 f4
 refine W ?_
 refine sC (tZ by' w4 (by omega)) ?_
 intro w5 f5
 have hin2:=rX by'
 generalize aW by'=P at hkd hin2⊢
 obtain⟨⟨pi,ttl,pr,pf,pt,pb⟩,k2⟩:=P
 dsimp only at hkd hin2⊢
 refine W ?_
 refine sA ?_
 intro w6 hP f6
 refine W ?_
 refine sT ?_
 intro w7 hP f7
 replace f7:=f5.none (bP f6 (Nat.le_refl _) f7)
 replace B:=B.none f7
 replace hl:=hl.keep (f7.of_no _)
 replace hE:=hE.keep f7 id
 replace f01:=f01.none f7
 generalize w5.heap.size=gp at*
 clear f5 f6 f7
 refine W ?_
 refine sC (rP pb pf pt w7 hin2.1 hin2.2.1 (by omega)) ?_
 intro w8 f8
 generalize bA pb pf pt=U at hkd⊢
 obtain⟨⟨uf,ut,ul⟩,k3⟩:=U
 dsimp only at hkd⊢
 injection hkd with hkd hpt
 subst hpt
 refine W ?_
 refine sA ?_
 intro w9 hU f9
 refine W ?_
 refine sT ?_
 intro w10 hU f10
 replace f10:=f8.none (bP f9 (Nat.le_refl _) f10)
 replace B:=B.none f10
 replace hl:=hl.keep (f10.of_no _)
 replace hE:=hE.keep f10 id
 replace hP:=hP.keep f10 id
 replace f01:=f01.none f10
 generalize w8.heap.size=gu at*
 clear f8 f9 f10 hin hin2
 refine V ?_
 refine cS ?_
 have e10:IntKind.i64.wrap ((ak:Int)+1)=((ak+1:Nat):Int):=(IntWalk.i64_in _ (by omega)).trans (by omega)
 have e11:IntKind.i64.wrap ((sl:Int)+1)=((sl+1:Nat):Int):=(IntWalk.i64_in _ (by omega)).trans (by omega)
 have hcont:∀u' w',Fr noB w10 w'→∀d':RnD,d'.s=s→d'.h=h4→x=(d',out)→K .normal (F 215 u' [(1,.int .i64 an),(5,.int .i64 (n:Int)),(6,.pointer (some ⟨p,0,none⟩)),(8,.pointer (some ⟨q,0,none⟩)),(9,.int .i64 (d'.bound:Int)),(10,.int .i64 (d'.asked:Int)),(11,.int .i64 (d'.slow:Int)),(12,.int .i64 (t:Int)),(13,.slice (some A2) out.length c2)]) w':=by
  intro u' w' f d' e1 e2 e3
  subst e3
  refine hK (some A2,c2) u' w' ⟨?_,f01.none f⟩
  have B1:=B.none f
  rw[←e1,←e2]at B1
  exact⟨B1.m.mono fun b hb=>hb.imp (hYY b) id,B1.hh,B1.off,fun a ha y=>B1.ap a ha (hYY _ y)⟩
 refine cY (fun(g:Nat×Nat×Nat)=>[(1,.int .i64 an),(5,.int .i64 (n:Int)),(6,.pointer (some ⟨p,0,none⟩)),(8,.pointer (some ⟨q,0,none⟩)),(9,.int .i64 (g.1:Int)),(10,.int .i64 (g.2.1:Int)),(11,.int .i64 (g.2.2:Int)),(12,.int .i64 (t:Int)),(13,.slice (some A2) out.length c2),(15,.slice vA l.length vc)]) (fun g w'=>fE t l ⟨s,h4,g.1,g.2.1,g.2.2⟩ out=some x∧Fr noB w10 w') ?_ ?_
 ·clear hK hl
  have hlk:=mU B.m
  unfold FH at hlk
  have hpk:=fun w'=>Kz an 5 a w' ha (by decide) (by decide) ha0 ha1
  clear ha
  by_cases c1:ty=2048∧k3=0
  rotate_left
  ·rw[if_neg c1]at hkd
   subst hkd
   rw[if_neg (by rintro⟨h,_⟩;cases h),if_neg (by decide)]at hx
   clear hcont hlk hpk
   by_cases c2:ty=2048
   ·have c3:¬k3=0:=fun h=>c1 ⟨c2,h⟩
    subst c2
    clear c1
    refine W ?_
    exact⟨(bd,ak,sl),(mt (p:=True) trivial).1,hx,Fr.refl _ _⟩
   ·clear c1
    refine W ?_
    exact⟨(bd,ak,sl),(mt (p:=True) trivial).1,hx,Fr.refl _ _⟩
  rw[if_pos c1]at hkd
  obtain⟨rfl,rfl⟩:=c1
  by_cases c2:ut=67
  rotate_left
  ·rw[if_neg c2]at hkd
   subst hkd
   rw[if_neg (by rintro⟨h,_⟩;cases h),if_pos rfl]at hx
   have eT:((sl+1:Nat):Int).tmod 3=(((sl+1)%3:Nat):Int):=by rw[Int.tmod_eq_emod_of_nonneg (by omega)];omega
   obtain⟨s1,hs1⟩:∃s1,sl+1=s1:=⟨_,rfl⟩
   rw[hs1]at eT e11 hx
   clear hlk hpk e10 hs1
   by_cases c3:s1%3=0
   ·rw[if_neg (by simp[c3])]at hx
    rw[c3]at eT
    clear hcont c3
    refine W ?_
    exact⟨(bd,ak,s1),(mt (p:=True) trivial).1,hx,Fr.refl _ _⟩
   ·rw[if_pos c3]at hx
    have hx':=(Option.some.inj hx).symm
    have hcont:=fun u' w' f=>hcont u' w' f ⟨s,h4,bd,ak,s1⟩ rfl rfl hx'
    generalize s1%3=m3 at*
    clear hx hx'
    refine W ?_
    exact mtK hcont (Fr.refl _ _)
  rw[if_pos c2]at hkd
  subst hkd c2
  obtain⟨ad,had⟩:∃ad,s.address=ad:=⟨_,rfl⟩
  rw[had]at hx hlk
  have hfd:=fun w=>Lc s.now (s.lease:Int) (s.phase:Int) (ad:Int) s.boots (s.image.length:Int) s.lost (s.cache.length:Int) w
  by_cases c3:ad=0
  ·rw[if_neg (by rintro⟨_,h⟩;exact h c3),if_neg (by decide)]at hx
   have hz:decide (ad=0)=true:=decide_eq_true c3
   clear hcont hpk e10 e11 c3
   refine W ?_
   refine sC hlk ?_
   intro w11 f11
   replace hE:=hE.keep f11 id
   replace hP:=hP.keep f11 id
   replace hU:=hU.keep f11 id
   clear hlk
   refine W ?_
   exact⟨(bd,ak,sl),(mt (p:=True) trivial).1,hx,f11⟩
  rw[if_pos ⟨rfl,c3⟩]at hx
  split at hx
  ·cases hx
  rename_i hbad
  have hz:decide (ad=0)=false:=decide_eq_false c3
  have hpb:decide (pt=4294967295)=decide (bd+n/8*7≤t):=by
   have:=fun h=>hbad (.inl h)
   simpa using (Decidable.not_not.1 this).symm
  have htb:bd+n/2≤t:=by
   have:=fun h=>hbad (.inr h)
   omega
  have q8:IntKind.i64.wrap ((n:Int)/8)=((n/8:Nat):Int):=(IntWalk.i64_in _ ⟨by omega,by omega⟩).trans (by omega)
  have q8':IntKind.i64.wrap ((n:Int).tdiv 8)=((n/8:Nat):Int):=by rw[Int.tdiv_eq_ediv_of_nonneg (by omega)];exact q8
  have q2:IntKind.i64.wrap ((n:Int)/2)=((n/2:Nat):Int):=(IntWalk.i64_in _ ⟨by omega,by omega⟩).trans (by omega)
  have q2':IntKind.i64.wrap ((n:Int).tdiv 2)=((n/2:Nat):Int):=by rw[Int.tdiv_eq_ediv_of_nonneg (by omega)];exact q2
  have q7:IntKind.i64.wrap (((n/8:Nat):Int)*7)=((n/8*7:Nat):Int):=(IntWalk.i64_in _ ⟨by omega,by omega⟩).trans (by omega)
  have qb:IntKind.i64.wrap ((bd:Int)+((n/8*7:Nat):Int))=((bd+n/8*7:Nat):Int):=(IntWalk.i64_in _ ⟨by omega,by omega⟩).trans (by omega)
  have qc:IntKind.i64.wrap ((bd:Int)+((n/2:Nat):Int))=((bd+n/2:Nat):Int):=(IntWalk.i64_in _ ⟨by omega,by omega⟩).trans (by omega)
  have hc2:decide (t<bd+n/2)=false:=decide_eq_false (by omega)
  clear e11 hbad htb c3 had
  generalize bd+n/8*7=y1 at*
  generalize n/8*7=y2 at*
  generalize n/8=y3 at*
  generalize bd+n/2=y4 at*
  generalize n/2=y5 at*
  obtain⟨bz,hbz⟩:∃bz,decide (y1≤t)=bz:=⟨_,rfl⟩
  obtain⟨ak1,hak1⟩:∃k,ak+1=k:=⟨_,rfl⟩
  rw[hak1]at hx e10
  rw[hbz]at hpb
  refine W ?_
  refine sC hlk ?_
  intro w11 f11
  replace hE:=hE.keep f11 id
  replace hP:=hP.keep f11 id
  replace hU:=hU.keep f11 id
  clear hlk
  refine W ?_
  refine sC (hpk w11) ?_
  rintro _ rfl
  clear hpk hc2 hpb hbz hz q8 q8' q2 q2' q7 qb qc hfd
  by_cases c4:ak1≤a
  ·rw[if_pos c4]at hx
   have hx':=(Option.some.inj hx).symm
   have hcont:=fun u' w' f=>hcont u' w' f ⟨s,h4,bd,ak1,sl⟩ rfl rfl hx'
   clear hx hx'
   refine W ?_
   exact mtK hcont f11
  ·rw[if_neg c4]at hx
   clear hcont
   refine W ?_
   exact⟨(t,0,sl),(mt (p:=True) trivial).1,hx,f11⟩
 ·rintro⟨b2,a2,s2⟩ u w11 ⟨hx,f11⟩
  clear hcont
  replace B:=B.none f11
  replace hl:=hl.keep (f11.of_no _)
  replace f01:=f01.none f11
  refine cZ ?_
  refine W ?_
  refine uZ ?_
  refine MU (α:=Option Addr×Nat) (lO:=(fun(g:Option Addr×Nat)=>[(1,.int .i64 an),(5,.int .i64 (n:Int)),(6,.pointer (some ⟨p,0,none⟩)),(8,.pointer (some ⟨q,0,none⟩)),(9,.int .i64 (x.1.bound:Int)),(10,.int .i64 (x.1.asked:Int)),(11,.int .i64 (x.1.slow:Int)),(12,.int .i64 (t:Int)),(13,.slice g.1 x.2.length g.2)])) (fun g w'=>RK Y1 p q g.1 g.2 x.2 x.1.s x.1.h w'∧Fr (DI Y1) w11 w') (fun K u hK=>Gz p q t vA (some A2) vc c2 (.int .i64 an) (.int .i64 (n:Int)) (.slice vA l.length vc) l out ⟨s,h4,b2,a2,s2⟩ x w11 G1 B hl hll hx K u fun A' cap' u' w' h=>hK (A',cap') u' w' h) ?_
  rintro⟨A',cap'⟩ u w12 ⟨B,f12⟩
  refine bN ?_
  refine hK (A',cap') u w12 ⟨⟨B.m.mono fun b hb=>hb.imp (hYY b) id,B.hh,B.off,fun a ha y=>B.ap a ha (hYY _ y)⟩,f01.trans (f12.mono fun b _ h=> .inl fun y=>h (hYY b y))⟩
end Go.Proofs.YtcbkaiakdhiloacGreatDoor
namespace Go.Proofs.YtcbkaiakdhiloacGreatDoor
open Go.RowKit Go.Proofs
attribute [local go_sem] aG aD aC aE
attribute [local simp] ibq ibn eqN ltN leN eqL ltL gtL leL geL
theorem KF {Y:Nat→Prop} (p q t n a k:Nat) (an:Int) (A:Option Addr) (cap:Nat) (out:List (List UInt8)) (d x:RnD) (w0:World) (G:RF Y q) (B:RK Y p q A cap out d.s d.h w0) (ht:t≤1000000) (hn:n≤1000000) (ha:a=pG an 5) (ha0: -9223372036854775808≤an) (ha1:an≤9223372036854775807) (hx:kS n a t k out d=some x)
 (K:KT) (u:Nat→Value) (hK:∀u' w',(∃A' cap',RK Y p q A' cap' [] x.s x.h w')∧Fr (fun b=>¬Y b∨b=q) w0 w'→K .normal (F 215 u' [(1,.int .i64 an),(5,.int .i64 (n:Int)),(6,.pointer (some ⟨p,0,none⟩)),(8,.pointer (some ⟨q,0,none⟩)),(9,.int .i64 (x.bound:Int)),(10,.int .i64 (x.asked:Int)),(11,.int .i64 (x.slow:Int)),(12,.int .i64 (t:Int))]) w'):
 cw Tryz.prog (fR Tryz.f7 2) K (F 215 u [(1,.int .i64 an),(5,.int .i64 (n:Int)),(6,.pointer (some ⟨p,0,none⟩)),(8,.pointer (some ⟨q,0,none⟩)),(9,.int .i64 (d.bound:Int)),(10,.int .i64 (d.asked:Int)),(11,.int .i64 (d.slow:Int)),(12,.int .i64 (t:Int)),(13,.slice A out.length cap)]) w0:=by
 refine cW ?_
 refine W ?_
 refine cL (fun i=>i.1) (fun(i:Nat×RnD×List (List UInt8)×Option Addr×Nat)=>[(1,.int .i64 an),(5,.int .i64 (n:Int)),(6,.pointer (some ⟨p,0,none⟩)),(8,.pointer (some ⟨q,0,none⟩)),(9,.int .i64 (i.2.1.bound:Int)),(10,.int .i64 (i.2.1.asked:Int)),(11,.int .i64 (i.2.1.slow:Int)),(12,.int .i64 (t:Int)),(13,.slice i.2.2.2.1 i.2.2.1.length i.2.2.2.2)])
  (fun i w'=>RK Y p q i.2.2.2.1 i.2.2.2.2 i.2.2.1 i.2.1.s i.2.1.h w'∧Fr (fun b=>¬Y b∨b=q) w0 w'∧kS n a t i.1 i.2.2.1 i.2.1=some x)
  (k,d,out,A,cap) (mt (p:=True) trivial).1 ⟨B,Fr.refl _ _,hx⟩ ?_
 clear B hx
 rintro⟨k,d,out,A,cap⟩ u w1 ⟨B,f,hx⟩
 dsimp only at B hx⊢
 cases k with
 |zero=>cases out<;>cases hx
 |succ k=>
 cases out with
 |nil=>
  obtain rfl:=Option.some.inj hx
  clear ha
  refine W ?_
  exact mtK hK ⟨⟨A,cap,B⟩,f⟩
 |cons fr r=>
  unfold kS at hx
  obtain⟨y,hy⟩:∃y,iE n a t fr d r=y:=⟨_,rfl⟩
  rw[hy]at hx
  rcases y with _|⟨d',out'⟩
  ·cases hx
  dsimp only at hx
  rw[show(fr::r).length=r.length+1 from rfl]
  have hc:=fun(K:KT) (u:Nat→Value) (hK)=>G7 p q t n a an A cap fr r d (d',out') w1 G B ht hn ha ha0 ha1 hy K u hK
  obtain⟨m1,hm1⟩:∃m1,r.length+1=m1:=⟨_,rfl⟩
  rw[hm1]at hc⊢
  have h0m:0<m1:=by omega
  clear hm1 ha
  refine cZ ?_
  refine W ?_
  refine uZ ?_
  refine MU (α:=Option Addr×Nat) (lO:=fun(g:Option Addr×Nat)=>[(1,.int .i64 an),(5,.int .i64 (n:Int)),(6,.pointer (some ⟨p,0,none⟩)),(8,.pointer (some ⟨q,0,none⟩)),(9,.int .i64 (d'.bound:Int)),(10,.int .i64 (d'.asked:Int)),(11,.int .i64 (d'.slow:Int)),(12,.int .i64 (t:Int)),(13,.slice g.1 out'.length g.2)]) (fun g w'=>RK Y p q g.1 g.2 out' d'.s d'.h w'∧Fr (fun b=>¬Y b∨b=q) w1 w') (fun K u hK=>hc K u hK) ?_
  rintro⟨A',cap'⟩ u w2 ⟨B,f2⟩
  exact⟨(k,d',out',A',cap'),(mt (p:=True) trivial).1,⟨B,f.trans f2,hx⟩,Nat.lt_succ_self _⟩
end Go.Proofs.YtcbkaiakdhiloacGreatDoor
namespace Go.Proofs.YtcbkaiakdhiloacGreatDoor
open Go.RowKit Go.Proofs
theorem F7 (l:List UInt8) (hl:l.length≤100000000000) (w:World) (hRk:RU w 5 rD) (hRb:RU w 3 h0.list):
 Calls Tryz.prog 33 #[.string (bs l)] w fun e w'=>e= .returned (.string (bs (sha l)))∧Fr noB w w':=by
 go_enter Tryz.func33,Tryz.ntmps33
 have hfa:Fr noB w (w.alloc (.cells #[.string (bs l)] 9)):=(Fr.refl _ _).alloc _
 have hcall:=Fo l hl w.heap.size 1 (w.alloc (.cells #[.string (bs l)] 9)) ((Bk.new w _ _).cell 0) (by rw[pH];omega) (hRk.keep hfa id) (hRb.keep hfa id)
 clear hRk hRb
 obtain⟨o,ho⟩:∃o,o=sha l:=⟨_,rfl⟩
 rw[←ho]
 have hol:o.length=32:=by rw[ho];rfl
 rw[←ho]at hcall
 clear ho
 have hsz32:(Tryz.prog.info? 143).map (·.size)=some 32:=by kernel_rfl
 have h32:((u8s o).toArray).size=32:=by simp[u8s,hol]
 have hone:((u8s o).toArray).all (·.oneCell')=true:=by rw[Array.all_eq_true];intro k hk;exact jE o _ (by simp)
 obtain⟨cb,hcb⟩:∃z,z=(u8s o).toArray:=⟨_,rfl⟩
 rw[←hcb]at hcall h32 hone
 have HCB:=Lib.hid hcb
 clear hcb
 go_wp2_with (first
  |(go_at_call 69;refine hcall.mono ?_;rintro e w9 ⟨rfl,hf9⟩)
  |(refine aN rfl 143 (.tmp 3) (.tmp 6) rfl w9.heap.size 143 (u8s (List.replicate 32 0)).toArray cb rfl rfl (Bk.new w9 _ _) (by rw[h32];rfl) (by rw[hsz32,h32]) hone ?_;intro w10 hx10 hf10;have hcv:=jA (P:=Tryz.prog) w10 102 9 5 Tryz.underlying102 Tryz.underlying5 Tryz.underlying9 noB (some ⟨w9.heap.size,0,none⟩) 32 32 o (by have h:=SlR.of_bk (S:=noB) (n:=32) (size:=1) hx10 id h32;rw[HCB.out]at h;exact h) (.inr ⟨_,_,rfl⟩)))
 go_ret
 exact⟨rfl,((hfa.trans hf9).alloc _).trans' hf10 fun b hb h=>by
  unfold aI at h
  have:=(hfa.trans hf9).size
  omega⟩
end Go.Proofs.YtcbkaiakdhiloacGreatDoor
namespace Go.Proofs.YtcbkaiakdhiloacGreatDoor
open Go.RowKit Go.Proofs
attribute [local go_sem] aG aD aC aE
attribute [local simp] JV ibq ibn eqN ltN leN eqL ltL gtL leL geL
def oK (s:List UInt8) (b wd:Int):lU:=⟨aL,[107,101,114,110,101,108],600000,sha s,b,wd,16,16⟩
def LY (w:World):Prop:=Fq w 0 #[.int .u8 2,.int .u8 0,.int .u8 0,.int .u8 0,.int .u8 0,.int .u8 42]
instance (g:Nat) (cs:Array Value):Kp0 fun w=>Fq w g cs:=⟨fun _ _ h f=>Fq.keep h f id⟩
instance:Kp0 fun w=>Glb w:=⟨fun _ _ h f=>h.keep f fun _ _=>id⟩
theorem CG (s:List UInt8) (b wd:Int) (w:World) (hs:s.length≤100000000000) (hG:Glb w) (hC:LY w):
 Calls Tryz.prog 11 #[.string (bs s),.int .i64 b,.int .i64 wd] w fun e w'=>e= .returned (.agg (JV (oK s b wd)))∧Fr noB w w':=by
 refine en Tryz.func11 Tryz.ntmps11 ?_
 refine W ?_
 refine sA ?_
 intro w1 hB f1
 replace hG:=hG.keep f1 fun _ _=>id
 replace hC:=Fq.keep hC f1 id
 refine W ?_
 refine dI (An hB (An hG hC)) [6] [1,3,4,0,2,5,6] (h:= ?_)
 rintro w2 hS f2
 have c0:=hS.2.2.2 0 _ rfl
 refine D ?_
 refine dQ (v:= .agg #[.int .u8 2,.int .u8 0,.int .u8 0,.int .u8 0,.int .u8 0,.int .u8 42]) ?_ ?_
 ·intro w' hS
  have k:=hS.2.2
  have c0:=k.2 0 _ rfl
  have c1:=k.2 1 _ rfl
  have c2:=k.2 2 _ rfl
  have c3:=k.2 3 _ rfl
  have c4:=k.2 4 _ rfl
  have c5:=k.2 5 _ rfl
  go_simp
 refine D ?_
 refine dQc (F7 s hs w2 hS.2.1.rounds hS.2.1.begin) hS ?_
 intro w3 f3 hS
 have hB:=hS.1
 obtain⟨hx,hh⟩:∃x,sha s=x:=⟨_,rfl⟩
 unfold oK
 rw[hh]
 refine D ?_
 refine dZ2 (h:= ?_)
 intro w4 hB f4
 refine⟨nofun,?_⟩
 refine D ?_
 refine W ?_
 exact bodyPost_ret (results_cell_row rfl _ _ _ 28 _ (0,0) _ (by rw[Dm];rfl) hB Tryz.underlying28 rfl (by kernel_rfl)) (by rw[Dm];rfl) ⟨rfl,bP ((f1.none f2).none f3) (Nat.le_refl _) f4⟩
theorem GO (c:lU) (w:World) (hG:Glb w) (hc:c.Ok):Calls Tryz.prog 12 #[.agg (JV c)] w fun e w'=>∃p,e= .returned (.tuple #[.pointer (some ⟨p,0,none⟩),.int .i64 0])∧MX (fun b=>b<w.heap.size) p (AG c) w'∧Fr noB w w':=
 (Gf c w hG).mono fun e w' h=>by
  obtain⟨L,he,hB,ho,hF⟩:=h.1 hc
  exact⟨L.p,he,⟨L,rfl,hB,fun b hb=>⟨Nat.lt_of_lt_of_le hb hF.size,fun hx=>by have:=ho b hx;omega⟩⟩,hF⟩
end Go.Proofs.YtcbkaiakdhiloacGreatDoor
namespace Go.Proofs.YtcbkaiakdhiloacGreatDoor
open Go.RowKit Go.Proofs
attribute [local go_sem] aG aD aC aE
attribute [local simp] gW ibq ibn eqN ltN leN eqL ltL gtL leL geL
theorem DA (x:List UInt8) (b wd:Int) (h1:8≤b) (h2:b≤1024) (h3:1≤wd) (h4:wd≤8):(oK x b wd).Ok:=by
 refine⟨⟨by show 1≤6;decide,by show 6≤20;decide,rfl⟩,(show([107,101,114,110,101,108]:List UInt8).all eR=true by decide),?_,by show aL≠iS;decide,by show aL.1.toNat%2≠1;decide⟩
 refine⟨⟨?_,?_⟩,⟨h1,h2⟩,⟨h3,h4⟩,⟨?_,?_⟩,?_,?_⟩<;>simp[oK]
end Go.Proofs.YtcbkaiakdhiloacGreatDoor
namespace Go.Proofs.YtcbkaiakdhiloacGreatDoor
open Go.RowKit Go.Proofs
attribute [local go_sem] aG aD aC
def BL (k:Nat):UInt8:=UInt8.ofNat (k+3+k*k/7+k/251)
def gO (n k:Nat):List UInt8:=(List.range k).map BL++List.replicate (n-k) 0
theorem jL (n k:Nat) (h:k≤n):(gO n k).length=n:=by unfold gO;simp;omega
theorem AR (n k:Nat) (h:k<n):(gO n k).set k (BL k)=gO n (k+1):=by
 unfold gO
 have e:List.replicate (n-k) (0:UInt8)=0::List.replicate (n-(k+1)) 0:=by rw[show n-k=(n-(k+1))+1 by omega,List.replicate_succ]
 rw[List.set_append_right _ _ (by simp),e]
 simp[List.range_succ]
theorem Bj:(Tryz.prog.info? 5).map (fun i=>(i.zero,i.size,i.bytes))=some (some (.int .u8 0),1,1):=by kernel_rfl
theorem CO (n:Nat) (w:World) (hn:n≤100000):
 Calls Tryz.prog 24 #[.int .i64 (n:Int),.int .i64 1] w fun e w'=>e= .returned (.string (bs (gO n n)))∧Fr noB w w':=by
 obtain⟨inf,hi,hz,hs,hb⟩:=info_parts Bj
 have hmk:=tM (P:=Tryz.prog) 102 5 inf Tryz.underlying102 hi hz hs hb n (by omega) w
 have hB0:Bk (w.alloc (.cells (List.replicate n (Value.int .u8 0)).toArray 5)) w.heap.size 5 (u8s (gO n 0)).toArray:=by
  have e:u8s (gO n 0)=List.replicate n (Value.int .u8 0):=by unfold gO;simp[u8s,u8v]
  rw[e];exact Bk.new w _ _
 have hf0:Fr noB w (w.alloc (.cells (List.replicate n (Value.int .u8 0)).toArray 5)):=(Fr.refl _ _).alloc _
 generalize w.alloc (.cells (List.replicate n (Value.int .u8 0)).toArray 5)=w1 at*
 obtain⟨g,hg⟩:∃g,g=w.heap.size:=⟨_,rfl⟩
 rw[←hg]at hmk hB0
 have Hg:=Lib.hid hg
 clear hg hi hz hs hb
 go_enter Tryz.func24,Tryz.ntmps24
 go_wp2_with fail
 go_loopw [11] (fun iv wr=>∃(k:Nat),k≤n∧iv= .int .i64 (k:Int)∧Bk wr g 5 (u8s (gO n k)).toArray∧Fr noB w wr) (fun iv _=>n-(intOf iv).toNat)
 case atStart=>exact⟨0,by omega,rfl,hB0,hf0⟩
 case round=>
  obtain⟨k,hk,rfl,hB,hf⟩:=hrel
  have hlen:=jL n k hk
  by_cases hlt:k<n
  ·obtain⟨q,hq⟩:∃q,q=k*k:=⟨_,rfl⟩
   have hql:q≤10000000000:=by rw[hq];exact Nat.le_trans (Nat.mul_le_mul (by omega:k≤100000) (by omega:k≤100000)) (by decide)
   have e1:(k:Int)*(k:Int)=(q:Int):=by rw[hq];exact(Int.natCast_mul _ _).symm
   obtain⟨y,hy⟩:∃y,y=BL k:=⟨_,rfl⟩
   have e2:((k:Int)+3+(q:Int)/7+(k:Int)/251)%256=(y.toNat:Int):=by
    rw[hy,BL,UInt8.toNat_ofNat',←hq];omega
   have hset:=Bk.set hB k (.int .u8 (y.toNat:Int))
   have e3:(u8s (gO n k)).toArray.setIfInBounds k (.int .u8 (y.toNat:Int))=(u8s (gO n (k+1))).toArray:=by
    rw[←AR n k hlt,←hy];simp[u8s,List.map_set,u8v]
   rw[e3]at hset
   have hcl:∃z,wr.cell? ⟨g,k,none⟩=some z:=⟨_,by rw[hB.cell k];exact Array.getElem?_eq_getElem (by simp[u8s,hlen];exact hlt)⟩
   obtain⟨z,hcell⟩:=hcl
   have hfz:=hB.free k
   have hfs:=hf.setCell (p:=⟨g,k,none⟩) (fun h=>by have:=Hg.out;simp only at h;omega) (.int .u8 (y.toNat:Int))
   have Hset:=Lib.hid hset
   clear hset hB hq hy e3 hlen
   go_wp2_with fail
   exact⟨⟨k+1,by omega,by rw[Int.natCast_add];rfl,Hset.out,hfs⟩,by simp only[intOf];omega⟩
  ·obtain rfl:k=n:=by omega
   have hcv:=jA (P:=Tryz.prog) wr 102 9 5 Tryz.underlying102 Tryz.underlying5 Tryz.underlying9 noB (some ⟨g,0,none⟩) k k (gO k k) (SlR.of_bk (S:=noB) (n:=k) (size:=1) hB id (by simp[u8s,hlen])) (.inr ⟨_,_,rfl⟩)
   clear hB hlen
   go_wp2_with fail
   go_ret
   exact⟨rfl,hf⟩
end Go.Proofs.YtcbkaiakdhiloacGreatDoor
namespace Go.Proofs.YtcbkaiakdhiloacGreatDoor
open Go.RowKit Go.Proofs
attribute [local go_sem] aG aD aC aE
attribute [local simp] gW ibq ibn eqN ltN leN eqL ltL gtL leL geL
theorem sH.base0 {w:World} {base:Nat} {e:TypeId} {A:Option Addr} {cap:Nat} {xs:List Value} (h:sH w base e A cap xs):sH w 0 e A cap xs:=by
 rcases h with h|⟨g,off,cur,hA,_,h⟩
 ·exact .inl h
 ·exact .inr ⟨g,off,cur,hA,Nat.zero_le _,h⟩
theorem RK.taken {Y:Nat→Prop} {p q base:Nat} {A:Option Addr} {cap:Nat} {out:List (List UInt8)} {s:St} {h:aK} {w:World} (hM:MX (fun b=>Y b∨JE (.slice A out.length cap) b) p s w) (hH:HAt w q h) (hov:w.ownsRow base 9 1 (.slice A out.length cap) out.length (txV out)) (hb:∀b,Y b→b<base):RK Y p q A cap out s h w:=
 ⟨hM.mono fun b hb=>hb.imp id fun⟨a,e,h⟩=>by subst e;exact congrArg some h,hH,(sH.of_own hov).base0,fun a e y=>by subst e;have:=(hov.lt a.block rfl).1;have:=hb _ y;omega⟩
theorem Ba (tm an:Int) (w:World) (hG:Glb w) (hK:Ir w) (ht0: -9223372036854775808≤tm) (ht1:tm≤9223372036854775807) (ha0: -9223372036854775808≤an) (ha1:an≤9223372036854775807)
 (hP:∀n a:Nat,16≤n→n≤2015→a≤4→∃k,mE n a k (3*n+59) 1 ⟨Ew (gO 3000 3000) 600000 8 1,wV (gO 3000 3000) n aF true,0,0,0⟩=true):
 Calls Tryz.prog 7 #[.int .i64 tm,.int .i64 an] w fun e w'=>e= .returned (.bool true)∧Fr noB w w':=by
 refine en Tryz.func7 Tryz.ntmps7 ?_
 obtain⟨a,ha⟩:∃a,a=pG an 5:=⟨_,rfl⟩
 have ha4:a≤4:=by have:=BE an 5 (by decide);omega
 obtain⟨n0,hn0⟩:∃n,n=pG tm 2000:=⟨_,rfl⟩
 have hn4:n0<2000:=by have:=BE tm 2000 (by decide);omega
 have hp:=Kz tm 2000 n0 w hn0 (by decide) (by decide) ht0 ht1
 replace hn0:=Lib.hid hn0
 replace ha:=Lib.hid ha
 obtain⟨n,hn⟩:∃n,16+n0=n:=⟨_,rfl⟩
 have hn16:IntKind.i64.wrap (16+(n0:Int))=(n:Int):=(IntWalk.i64_in _ ⟨by omega,by omega⟩).trans (by omega)
 obtain⟨k,hk⟩:=hP n a (by omega) (by omega) ha4
 have hnu:IntKind.u32.wrap (n:Int)=(n:Int):=by rw[IntKind.wrap_u32];omega
 have hnl:n≤2015:=by omega
 clear hP hn
 refine W ?_
 refine sC hp ?_
 rintro _ rfl
 clear hp
 refine W ?_
 have him:=jL 3000 3000 (Nat.le_refl _)
 have hby:=fun w'=>CO 3000 w' (by decide)
 generalize gO 3000 3000=im at*
 refine sC (hby _) ?_
 intro wb fb
 replace hG:=hG.keep fb fun _ _=>id
 replace hK:=hK.keep fb fun _ _=>id
 obtain⟨s0,hs0⟩:∃x,Ew im 600000 8 1=x:=⟨_,rfl⟩
 obtain⟨h0,hh0⟩:∃x,wV im n aF true=x:=⟨_,rfl⟩
 have hnew:AG (oK im 8 1)=s0:=hs0
 rw[hs0,hh0]at hk
 have hcok:=DA im 8 1 (by decide) (by decide) (by decide) (by decide)
 have hlt:=hK.lt
 have hgl:=zG hG
 have hc:=CG im 8 1 wb (by omega) hG hK.card
 refine W ?_
 refine sC hc ?_
 intro w1 f1
 clear hc
 refine W ?_
 have hc2:=GO (oK im 8 1) w1 (hG.keep f1 fun _ _=>id) hcok
 rw[hnew]at hc2
 refine sX hc2 ?_
 rintro e w2 ⟨p,rfl,hM,f2⟩
 refine⟨_,rfl,?_⟩
 clear hc2 hnew hs0 hcok
 refine W ?_
 refine sC (hby _) ?_
 intro w2b f2b
 replace hM:=hM.none f2b
 replace f2:=f2.none f2b
 clear hby f2b
 refine W ?_
 refine sA ?_
 intro w3 hq f3
 obtain⟨q,hqq⟩:∃q,w2b.heap.size=q:=⟨_,rfl⟩
 have h12:w1.heap.size≤q:=hqq▸f2.size
 have h01:wb.heap.size≤w1.heap.size:=f1.size
 have h0b:=fb.size
 rw[hqq]at hq⊢
 have hql:=hq.lt
 obtain⟨Y,hY⟩:∃Y:Nat→Prop,Y=fun b=>b<w1.heap.size∨b=q:=⟨_,rfl⟩
 have hM3:MX Y p s0 w3:=by
  subst hY
  exact hM.add f3 (fun _ x=>x.elim) (fun _ _ x=>x) fun b hb=>hb.imp id fun e=>by subst e;exact⟨by omega,hql⟩
 have hgq:¬glB q:=fun h=>by have:=hgl _ h;omega
 have hkq:¬glK q:=fun h=>by rcases h with h|h|h|h<;>omega
 have hH:HAt w3 q h0:=by
  subst hh0
  exact⟨hq,((hK.keep f1 fun _ _=>id).keep f2 fun _ _=>id).keep f3 fun _ _=>id,hkq,⟨by show im.length≤_;omega,by show n<_;omega,by show aF<_;decide,by show 0<_;decide,by show 0<_;decide,by show 0≤_;decide,by show 0≤_;decide,by show 0≤_;decide⟩⟩
 have G:RF Y q:=⟨hY▸ .inr rfl,hgq,fun b hb=>by subst hY;left;rcases hb with rfl|rfl|rfl|rfl<;>omega,fun b hb=>by subst hY;left;have:=hgl b hb;omega⟩
 have ff:=((fb.none f1).none f2).none f3
 have hend:∀w',Fr (fun b=>¬Y b∨b=q) w3 w'→Fr noB _ w':=fun w' f=>ff.trans' f fun b hb ho=>by
  rcases ho with ho|ho
  ·exact ho (by rw[hY];left;omega)
  ·omega
 clear hM hq hh0 hK hG fb f1 f2 f3 him hlt hgl hqq h12 h01 h0b hql hY hgq hkq hn0 hnu hn16 ff
 have e1:IntKind.i64.wrap (3*(n:Int))=((3*n:Nat):Int):=(IntWalk.i64_in _ ⟨by omega,by omega⟩).trans (by omega)
 have e2:IntKind.i64.wrap (((3*n:Nat):Int)+60)=((3*n+60:Nat):Int):=(IntWalk.i64_in _ ⟨by omega,by omega⟩).trans (by omega)
 obtain⟨T,hT⟩:∃T,3*n+60=T:=⟨_,rfl⟩
 rw[hT]at e2
 have hTm:3*n+59=T-1:=by omega
 rw[hTm]at hk
 have hTl:T≤7000:=by omega
 have hT1:1≤T:=by omega
 generalize 3*n=n3 at*
 clear hT hTm
 refine W ?_
 refine cL (fun i=>T-i.1) (fun(i:Nat×RnD)=>[(1,.int .i64 an),(5,.int .i64 (n:Int)),(6,.pointer (some ⟨p,0,none⟩)),(8,.pointer (some ⟨q,0,none⟩)),(9,.int .i64 (i.2.bound:Int)),(10,.int .i64 (i.2.asked:Int)),(11,.int .i64 (i.2.slow:Int)),(12,.int .i64 (i.1:Int))])
  (fun i w'=>i.1≤T∧MX Y p i.2.s w'∧HAt w' q i.2.h∧Fr (fun b=>¬Y b∨b=q) w3 w'∧mE n a k (T-i.1) i.1 i.2=true)
  (1,⟨s0,h0,0,0,0⟩) (mt (p:=True) trivial).1 ⟨hT1,hM3,hH,Fr.refl _ _,hk⟩ ?_
 clear hM3 hH hk
 rintro⟨t,d⟩ u w4 ⟨htT,hM,hH,f,hk⟩
 dsimp only at htT hM hH hk⊢
 by_cases hlt:t<T
 rotate_left
 ·refine W ?_
  exact⟨rfl,hend _ f⟩
 obtain⟨m,hm⟩:∃m,T-t=m+1:=⟨T-t-1,by omega⟩
 rw[hm]at hk
 have hm2:T-(t+1)=m:=by omega
 unfold mE at hk
 split at hk
 rotate_left
 ·cases hk
 rename_i hok
 obtain⟨hnow,htx⟩:=hok
 obtain⟨y,hy⟩:∃y,kS n a t k (d.s.tick 1).tx ⟨{d.s.tick 1 with tx:=[]},{d.h with now:=(t:Int)},d.bound,d.asked,d.slow⟩=y:=⟨_,rfl⟩
 rw[hy]at hk
 rcases y with _|x
 ·cases hk
 dsimp only at hk
 split at hk
 rotate_left
 ·cases hk
 rename_i hbl
 have i1:IntKind.i64.wrap ((t:Int)+1)=((t+1:Nat):Int):=(IntWalk.i64_in _ ⟨by omega,by omega⟩).trans (by omega)
 have hB:=hH.bk
 clear hm
 refine W ?_
 refine sK (gW {d.h with now:=(t:Int)}) hB ?_
 intro w5 hB f5
 have hH:=hH.put hB f5 {hH.ok with}
 replace hM:=hM.keep f5 (fun b e=>by obtain rfl:b=q:=e;exact G.yq) (fun b hb e=>by obtain rfl:b=q:=e;exact G.gq hb)
 replace f:=f.trans (f5.mono fun b _ e=> .inr e)
 clear f5 hB
 refine W ?_
 refine sX (DP 1 hM hnow (by decide)) ?_
 rintro e w6 ⟨rfl,hM,f6⟩
 refine⟨_,rfl,?_⟩
 replace hH:HAt w6 q _:=⟨hH.bk.keep f6 (fun h=>h G.yq),hH.gl.keep f6 (fun b hb h=>h (G.gk b hb)),hH.gq,hH.ok⟩
 replace f:=f.trans (f6.mono fun b _ h=> .inl h)
 clear f6
 refine V ?_
 refine cS ?_
 refine cM [1,5,6,8,12] [(9,.int .i64 (x.bound:Int)),(10,.int .i64 (x.asked:Int)),(11,.int .i64 (x.slow:Int))] (fun w'=>(MX Y p x.s w'∧HAt w' q x.h)∧Fr (fun b=>¬Y b∨b=q) w6 w') ?_ ?_
 ·clear hk e1 e2 i1 hend
  generalize d.s.tick 1=s at*
  refine cZ ?_
  refine W ?_
  refine sX (uI hM htx) ?_
  rintro e w7 ⟨v,rfl,hov,hM7,f7⟩
  refine⟨_,rfl,?_⟩
  obtain⟨vA,vc,rfl,_⟩:=eS hov
  have hH7:HAt w7 q _:=⟨hH.bk.keep f7 (fun h=>h G.yq),hH.gl.keep f7 (fun b hb h=>h (G.gk b hb)),hH.gq,hH.ok⟩
  have B:RK Y p q vA vc s.tx {s with tx:=[]} {d.h with now:=(t:Int)} w7:=RK.taken hM7 hH7 hov hM.lt
  clear hov hM7 hH7
  refine W ?_
  refine uZ ?_
  refine cBk _ (fun K u hK=>KF p q t n a k an vA vc s.tx ⟨{s with tx:=[]},{d.h with now:=(t:Int)},d.bound,d.asked,d.slow⟩ x w7 G B (by omega) (by omega) ha.out ha0 ha1 hy K u hK) ?_
  rintro u w8 ⟨⟨A',cap',B⟩,f8⟩
  refine tN ?_
  exact mt ⟨⟨B.m.mono fun b hb=> .inl hb,B.hh⟩,(f7.mono fun b _ h=>Or.inl h).trans f8⟩
 rintro u w7 ⟨⟨hM,hH⟩,f7⟩
 replace f:=f.trans f7
 clear f7 hy
 obtain⟨s,h,bd,ak,sl⟩:=x
 dsimp only at hM hH hk hbl⊢
 have hc:=mU hM
 unfold FH at hc
 refine W ?_
 refine sC hc ?_
 intro w8 f8
 refine W ?_
 refine sA ?_
 intro w9 hL f9
 refine W ?_
 refine sT ?_
 intro w10 hL f10
 replace f10:=f8.none (bP f9 (Nat.le_refl _) f10)
 replace hM:=hM.none f10
 replace hH:=hH.none f10
 replace f:=f.none f10
 generalize w8.heap.size=gl at*
 clear f8 f9 f10 hc
 obtain⟨ph,hph⟩:∃ph,s.phase=ph:=⟨_,rfl⟩
 obtain⟨ls,hls⟩:∃ls,s.lease=ls:=⟨_,rfl⟩
 rw[hph,hls]at hL
 rw[hph,hls]at hk
 have qb:IntKind.i64.wrap ((bd:Int)+(n:Int))=((bd+n:Nat):Int):=(IntWalk.i64_in _ ⟨by omega,by omega⟩).trans (by omega)
 obtain⟨bn,hbn⟩:∃bn,bd+n=bn:=⟨_,rfl⟩
 rw[hbn]at qb hk
 have hfin:=hend _ f
 obtain⟨t1,ht1'⟩:∃t1,t+1=t1:=⟨_,rfl⟩
 rw[ht1']at i1 hk hm2
 have HT:=Lib.hid (And.intro ht1' hm2)
 clear ht1' hm2 hph hls hbn hbl
 by_cases h3:ph=3
 ·subst h3
  clear hk
  refine W ?_
  exact⟨rfl,hfin⟩
 by_cases h4:ph=4
 ·subst h4
  rw[if_pos (.inr rfl)]at hk
  have hn40:n<40:=by
   rw[Bool.or_eq_true]at hk
   rcases hk with h|h
   ·exact absurd (of_decide_eq_true h) (by decide)
   ·exact of_decide_eq_true h
  clear hk
  refine W ?_
  exact⟨rfl,hfin⟩
 rw[if_neg (by rintro(h|h);exact h3 h;exact h4 h)]at hk
 split at hk
 ·cases hk
 rename_i hnb
 by_cases h5:4≤ls
 ·have h6:¬bn≤t:=fun h=>hnb ⟨h5,h⟩
  clear hnb
  refine W ?_
  exact⟨(t1,⟨s,h,bd,ak,sl⟩),(mt (p:=True) trivial).1,⟨by have:=HT.out;dsimp only;omega,hM,hH,f,by dsimp only;rw[HT.out.2];exact hk⟩,by have:=HT.out;dsimp only;omega⟩
 ·clear hnb
  refine W ?_
  exact⟨(t1,⟨s,h,bd,ak,sl⟩),(mt (p:=True) trivial).1,⟨by have:=HT.out;dsimp only;omega,hM,hH,f,by dsimp only;rw[HT.out.2];exact hk⟩,by have:=HT.out;dsimp only;omega⟩
end Go.Proofs.YtcbkaiakdhiloacGreatDoor
namespace Go.Proofs.YtcbkaiakdhiloacGreatDoor
open Go.RowKit Go.Proofs
theorem Ej (l a1 a2 a3 a4 a5 a6 a7 a8 a9 a10 r:List UInt8) (e:l=(((((((((a1++a2)++a3)++a4)++a5)++a6)++a7)++a8)++a9)++a10)++r)
 (l1:a1.length=1) (l2:a2.length=1) (l3:a3.length=2) (l4:a4.length=2) (l5:a5.length=2) (l6:a6.length=1) (l7:a7.length=1) (l8:a8.length=2) (l9:a9.length=4) (l10:a10.length=4):
 aW l=if num a1/16≠4∨num a1%16<5 then(ip0,2)
 else if 5<num a1%16 then(ip0,4)
 else if num a3<20 then(ip0,2)
 else if l.length<num a3 then(ip0,1)
 else if eV (sub l 0 20)≠0 then(ip0,6)
 else if 32768≤num a5∨num a6=0 then(ip0,2)
 else if num a5%16384≠0 then(ip0,5)
 else(⟨num a4,num a6,num a7,num a9,num a10,r.take (num a3-20)⟩,0):=by
 have h20:¬l.length<20:=by rw[e];simp[l1,l2,l3,l4,l5,l6,l7,l8,l9,l10];omega
 have d1:sub l 0 1=a1:=by rw[e];simp[sub,List.append_assoc,←l1]
 match a1,l1 with
 |[x0],_=>match a2,l2 with
  |[x1],_=>match a3,l3 with
   |[x2,x3],_=>match a4,l4 with
    |[x4,x5],_=>match a5,l5 with
     |[x6,x7],_=>match a6,l6 with
      |[x8],_=>match a7,l7 with
       |[x9],_=>match a8,l8 with
        |[x10,x11],_=>match a9,l9 with
         |[x12,x13,x14,x15],_=>match a10,l10 with
          |[x16,x17,x18,x19],_=>
           unfold aW
           rw[if_neg h20]
           have d3:sub l 2 4=[x2,x3]:=by subst e;rfl
           have d4:sub l 4 6=[x4,x5]:=by subst e;rfl
           have d5:sub l 6 8=[x6,x7]:=by subst e;rfl
           have d6:sub l 8 9=[x8]:=by subst e;rfl
           have d7:sub l 9 10=[x9]:=by subst e;rfl
           have d9:sub l 12 16=[x12,x13,x14,x15]:=by subst e;rfl
           have d10:sub l 16 20=[x16,x17,x18,x19]:=by subst e;rfl
           have d11:sub l 20 (num [x2,x3])=r.take (num [x2,x3]-20):=by
            have hd:l.drop 20=r:=by subst e;rfl
            rw[←hd,sub,List.drop_take]
           rw[d1,d3,d4,d5,d6,d7,d9,d10,d11]
theorem C4 (l a1 a2 a3 a4 r:List UInt8) (fi ti:Nat) (e:l=(((a1++a2)++a3)++a4)++r) (l1:a1.length=2) (l2:a2.length=2) (l3:a3.length=2) (l4:a4.length=2):
 bA l fi ti=if num a3<8 then(DS,2)
 else if l.length<num a3 then(DS,1)
 else if num a4≠0∧eV (cU fi ti (num a3)++sub l 0 (num a3))≠0 then(DS,6)
 else(⟨num a1,num a2,r.take (num a3-8)⟩,0):=by
 have h8:¬l.length<8:=by rw[e];simp[l1,l2,l3,l4];omega
 match a1,l1 with
 |[x0,x1],_=>match a2,l2 with
  |[x2,x3],_=>match a3,l3 with
   |[x4,x5],_=>match a4,l4 with
    |[x6,x7],_=>
     unfold bA
     rw[if_neg h8]
     have d1:sub l 0 2=[x0,x1]:=by subst e;rfl
     have d2:sub l 2 4=[x2,x3]:=by subst e;rfl
     have d3:sub l 4 6=[x4,x5]:=by subst e;rfl
     have d4:sub l 6 8=[x6,x7]:=by subst e;rfl
     have d5:sub l 8 (num [x4,x5])=r.take (num [x4,x5]-8):=by
      have hd:l.drop 8=r:=by subst e;rfl
      rw[←hd,sub,List.drop_take]
     rw[d1,d2,d3,d4,d5]
theorem CK (l a1 a2 a4 a6 r:List UInt8) (b0 b1 b2 b3 b4 b5 c0 c1 c2 c3 c4 c5:UInt8) (e:l=(((((a1++a2)++[b0,b1,b2,b3,b4,b5])++a4)++[c0,c1,c2,c3,c4,c5])++a6)++r)
 (l1:a1.length=6) (l2:a2.length=2) (l4:a4.length=4) (l6:a6.length=4):
 bE l=if a1=[0,1,8,0,6,4]∧(num a2=1∨num a2=2)then(⟨num a2,(b0,b1,b2,b3,b4,b5),num a4,(c0,c1,c2,c3,c4,c5),num a6⟩,0)else(IS,2):=by
 have h28:¬l.length<28:=by rw[e];simp[l1,l2,l4,l6];omega
 have d0:sub l 0 6=a1:=by rw[e];simp[sub,List.append_assoc,←l1]
 match a1,l1 with
 |[x0,x1,x2,x3,x4,x5],_=>
  match a2,l2 with
  |[y0,y1],_=>
   match a4,l4 with
   |[z0,z1,z2,z3],_=>
    match a6,l6 with
    |[t0,t1,t2,t3],_=>
     unfold bE
     rw[if_neg h28,d0]
     subst e
     rfl
theorem Ag (l a3 r:List UInt8) (b0 b1 b2 b3 b4 b5 c0 c1 c2 c3 c4 c5:UInt8) (e:l=(([b0,b1,b2,b3,b4,b5]++[c0,c1,c2,c3,c4,c5])++a3)++r) (l3:a3.length=2):
 aJ l=if num a3<1536 then(GK,3)else if 1500<r.length then(GK,7)else(⟨(b0,b1,b2,b3,b4,b5),(c0,c1,c2,c3,c4,c5),num a3,r⟩,0):=by
 have h14:¬l.length<14:=by rw[e];simp[l3]
 match a3,l3 with
 |[x0,x1],_=>
  unfold aJ
  rw[if_neg h14,kV,kV]
  subst e
  rfl
end Go.Proofs.YtcbkaiakdhiloacGreatDoor
namespace Go.Proofs.YtcbkaiakdhiloacGreatDoor
theorem AS (id:Nat) (ttl pr:UInt8) (fi ti n:Nat):eV (fC id ttl pr fi ti n (eV (fC id ttl pr fi ti n 0)))=0:=by
 unfold fC
 rw[show big 2 0=[0,0] by decide]
 exact uQ _ _ (by simp[ED,aB])
theorem yX {a b:List UInt8} {n:Nat} (h:a.length=n):sub (a++b) 0 n=a:=by
 subst h;simp[sub]
theorem sY (id:Nat) (ttl pr:UInt8) (fi ti:Nat) (ld r:List UInt8) (hid:id<65536) (hfi:fi<4294967296) (hti:ti<4294967296) (ht:ttl.toNat≠0) (hl:ld.length≤1480):
 aW (fG id ttl pr fi ti ld++r)=(⟨id,ttl.toNat,pr.toNat,fi,ti,ld⟩,0):=by
 have hz:=AS id ttl pr fi ti ld.length
 have hlen:=eZ id ttl pr fi ti ld.length (eV (fC id ttl pr fi ti ld.length 0))
 have hs:sub (fG id ttl pr fi ti ld++r) 0 20=fC id ttl pr fi ti ld.length (eV (fC id ttl pr fi ti ld.length 0)):=by
  unfold fG;rw[List.append_assoc];exact yX hlen
 have hln:(fG id ttl pr fi ti ld++r).length=20+ld.length+r.length:=by unfold fG;simp[hlen];omega
 rw[Ej (fG id ttl pr fi ti ld++r) [69] [0] (big 2 (20+ld.length)) (big 2 id) [64,0] [ttl] [pr] (big 2 (eV (fC id ttl pr fi ti ld.length 0))) (big 4 fi) (big 4 ti) (ld++r)
  (by unfold fG fC ED Gp;simp[List.append_assoc]) rfl rfl (aB _ _) (aB _ _) rfl rfl rfl (aB _ _) (aB _ _) (aB _ _),hs,hz,hln,
  cA 2 _ (by omega),cA 2 _ (by omega),cA 4 _ (by omega),cA 4 _ (by omega)]
 have e1:num [69]=69:=by decide
 have e2:num [64,0]=16384:=by decide
 have e3:num [ttl]=ttl.toNat:=by simp[num]
 have e4:num [pr]=pr.toNat:=by simp[num]
 rw[e1,e2,e3,e4,if_neg (by omega),if_neg (by omega),if_neg (by omega),if_neg (by omega),if_neg (by omega),if_neg (by omega),if_neg (by omega)]
 rw[show 20+ld.length-20=ld.length by omega,List.take_left' rfl]
theorem G9 (fm tp fi ti:Nat) (ld:List UInt8):eV (cU fi ti (8+ld.length)++cG fm tp ld (gC fm tp fi ti ld))=0:=by
 have he:(cU fi ti (8+ld.length)++GA fm tp (8+ld.length)).length%2=0:=by simp[cU,GA,aB]
 have e:∀s,cU fi ti (8+ld.length)++cG fm tp ld s=(cU fi ti (8+ld.length)++GA fm tp (8+ld.length))++big 2 s++ld:=by
  intro s;unfold cG;simp[List.append_assoc]
 rw[e]
 unfold gC
 split
 ·rename_i h
  exact AA _ _ he (by unfold jN at h;exact h)
 ·unfold jN;exact uQ _ _ he
theorem pX (fm tp fi ti:Nat) (ld r:List UInt8) (hfm:fm<65536) (htp:tp<65536) (hl:ld.length≤1480):
 bA (cG fm tp ld (gC fm tp fi ti ld)++r) fi ti=(⟨fm,tp,ld⟩,0):=by
 have hsl:=yN fm tp fi ti ld
 have hln:(cG fm tp ld (gC fm tp fi ti ld)++r).length=8+ld.length+r.length:=by rw[List.length_append,fZ]
 rw[C4 (cG fm tp ld (gC fm tp fi ti ld)++r) (big 2 fm) (big 2 tp) (big 2 (8+ld.length)) (big 2 (gC fm tp fi ti ld)) (ld++r) fi ti
  (by unfold cG GA;simp[List.append_assoc]) (aB _ _) (aB _ _) (aB _ _) (aB _ _),hln,
  cA 2 _ (by omega),cA 2 _ (by omega),cA 2 _ (by omega),cA 2 _ (by omega),yX (fZ _ _ _ _),G9]
 rw[if_neg (by omega),if_neg (by omega),if_neg (by simp),show 8+ld.length-8=ld.length by omega,List.take_left' rfl]
end Go.Proofs.YtcbkaiakdhiloacGreatDoor
namespace Go.Proofs.YtcbkaiakdhiloacGreatDoor
theorem gZ (op fi ti:Nat) (fm tm:Mac) (r:List UInt8) (ho:op=1∨op=2) (hfi:fi<4294967296) (hti:ti<4294967296):
 bE (aZ op fm fi tm ti++r)=(⟨op,fm,fi,tm,ti⟩,0):=by
 obtain⟨b0,b1,b2,b3,b4,b5⟩:=fm
 obtain⟨c0,c1,c2,c3,c4,c5⟩:=tm
 rw[CK (aZ op (b0,b1,b2,b3,b4,b5) fi (c0,c1,c2,c3,c4,c5) ti++r) [0,1,8,0,6,4] (big 2 op) (big 4 fi) (big 4 ti) r b0 b1 b2 b3 b4 b5 c0 c1 c2 c3 c4 c5
  rfl rfl (aB _ _) (aB _ _) (aB _ _),cA 2 _ (by omega),cA 4 _ (by omega),cA 4 _ (by omega),if_pos ⟨rfl,ho⟩]
theorem lV (tm fm:Mac) (ty:Nat) (ld:List UInt8):(kJ tm fm ty ld).length=14+ld.length:=by
 unfold kJ;simp[aB,dO];omega
def iC (ld:List UInt8):List UInt8:=ld++List.replicate (60-(14+ld.length)) 0
theorem fA (tm fm:Mac) (ty:Nat) (ld:List UInt8) (h1:1536≤ty) (h2:ty<65536) (hl:ld.length≤1500):
 aJ (eP tm fm ty ld)=(⟨tm,fm,ty,iC ld⟩,0):=by
 obtain⟨b0,b1,b2,b3,b4,b5⟩:=tm
 obtain⟨c0,c1,c2,c3,c4,c5⟩:=fm
 have hb:=lV (b0,b1,b2,b3,b4,b5) (c0,c1,c2,c3,c4,c5) ty ld
 unfold eP
 rw[hb]
 rw[Ag _ (big 2 ty) (iC ld) b0 b1 b2 b3 b4 b5 c0 c1 c2 c3 c4 c5 (by unfold kJ iC dO;simp[List.append_assoc]) (aB _ _),cA 2 _ (by omega),if_neg (by omega),if_neg (by unfold iC;simp;omega)]
theorem rK:∀(os:List bK) (c:UInt8) (d:List UInt8),(∀o∈os,o.code≠c)→fQ os c d=os++[⟨c,d⟩]
 |[],_,_,_=>rfl
 |o::r,c,d,h=>by
  unfold fQ
  rw[if_neg (h o (by simp)),rK r c d (fun x hx=>h x (by simp[hx]))];rfl
theorem nT:∀(os:List bK) (c:UInt8) (a d:List UInt8),(∀o∈os,o.code≠c)→fQ (os++[⟨c,a⟩]) c d=os++[⟨c,a++d⟩]
 |[],c,a,d,_=>by simp[fQ]
 |o::r,c,a,d,h=>by
  rw[List.cons_append]
  unfold fQ
  rw[if_neg (h o (by simp)),nT r c a d (fun x hx=>h x (by simp[hx]))];rfl
theorem gY (os:List bK) (c:UInt8) (d r:List UInt8) (k:UInt8) (h0:c≠0) (h1:c≠255) (hk:k.toNat=d.length):eG os (c::k::(d++r))=eG (fQ os c d) r:=by
 rw[xO os c k (d++r) h1 h0 (by simp[hk]),hk,List.take_left' rfl,List.drop_left' rfl]
theorem uE:∀(n:Nat) (os:List bK) (c:UInt8) (a d r:List UInt8),d.length≤n→c≠0→c≠255→(∀o∈os,o.code≠c)→
 eG (os++[⟨c,a⟩]) (kB c d++r)=eG (os++[⟨c,a++d⟩]) r
 |0,os,c,a,d,r,hn,h0,h1,h=>by
  have:d=[]:=List.eq_nil_of_length_eq_zero (by omega)
  subst this
  rw[fK c [] (by simp)]
  have e:=gY (os++[⟨c,a⟩]) c [] r 0 h0 h1 rfl
  rw[nT os c a [] h]at e
  exact e
 |n+1,os,c,a,d,r,hn,h0,h1,h=>by
  rcases Nat.lt_or_ge 255 d.length with hb|hb
  ·rw[nF c d hb]
   have e:=gY (os++[⟨c,a⟩]) c (d.take 255) (kB c (d.drop 255)++r) 255 h0 h1 (by rw[List.length_take];show 255=_;omega)
   rw[nT os c a _ h,uE n os c (a++d.take 255) (d.drop 255) r (by rw[List.length_drop];omega) h0 h1 h,List.append_assoc,List.take_append_drop]at e
   rw[←e]
   simp[List.append_assoc]
  ·rw[fK c d hb]
   have e:=gY (os++[⟨c,a⟩]) c d r (UInt8.ofNat d.length) h0 h1 (by rw[UInt8.toNat_ofNat'];omega)
   rw[nT os c a d h]at e
   rw[←e];simp
theorem Az (os:List bK) (c:UInt8) (d r:List UInt8) (h0:c≠0) (h1:c≠255) (h:∀o∈os,o.code≠c):
 eG os (kB c d++r)=eG (os++[⟨c,d⟩]) r:=by
 rcases Nat.lt_or_ge 255 d.length with hb|hb
 ·rw[nF c d hb]
  have e:=gY os c (d.take 255) (kB c (d.drop 255)++r) 255 h0 h1 (by rw[List.length_take];show 255=_;omega)
  rw[rK os c _ h,uE d.length os c (d.take 255) (d.drop 255) r (by rw[List.length_drop];omega) h0 h1 h,List.take_append_drop]at e
  rw[←e]
  simp[List.append_assoc]
 ·rw[fK c d hb]
  have e:=gY os c d r (UInt8.ofNat d.length) h0 h1 (by rw[UInt8.toNat_ofNat'];omega)
  rw[rK os c d h]at e
  rw[←e];simp
theorem Al:∀(os b4:List bK) (r:List UInt8),(∀o∈os,o.code≠0∧o.code≠255)→((b4++os).Pairwise fun x y=>x.code≠y.code)→
 eG b4 (os.flatMap (fun o=>kB o.code o.data)++255::r)=some (b4++os)
 |[],b4,r,_,_=>by simp[xJ]
 |o::os,b4,r,hc,hp=>by
  rw[List.flatMap_cons,List.append_assoc,Az b4 o.code o.data _ (hc o (by simp)).1 (hc o (by simp)).2 ?_]
  ·have:=Al os (b4++[o]) r (fun x hx=>hc x (by simp[hx])) (by simpa using hp)
   rw[this];simp
  ·intro x hx
   rw[List.pairwise_append]at hp
   exact hp.2.2 x hx o (by simp)
theorem vM {l a b c:List UInt8} {i j:Nat} (h:l=a++(b++c)) (ha:a.length=i) (hb:b.length=j-i) (hij:i≤j):sub l i j=b:=by
 subst h ha
 unfold sub
 rw[List.take_append,List.drop_append,List.take_of_length_le (by omega),List.drop_of_length_le (by omega),Nat.sub_self,List.drop_zero,←hb,List.nil_append,List.take_left' rfl]
theorem jV (rp:Bool) (xid client yours next:Nat) (mac:Mac) (os:List bK) (hx:xid<4294967296) (hc:client<4294967296) (hy:yours<4294967296) (hn:next<4294967296)
 (ho:∀o∈os,o.code≠0∧o.code≠255∧o.code≠52) (hp:os.Pairwise fun x y=>x.code≠y.code):
 aQ (iB (eD rp xid client yours next (dO mac)) os)=(⟨rp,xid,client,yours,next,mac,os⟩,0):=by
 obtain⟨m0,m1,m2,m3,m4,m5⟩:=mac
 have h52:∀os:List bK,(∀o∈os,o.code≠52)→eF os 52=none:=by
  intro os
  induction os with
  |nil=>intro _;rfl
  |cons o r ih=>intro h;unfold eF;rw[if_neg (h o (by simp)),ih (fun x hx=>h x (by simp[hx]))]
 obtain⟨f0,f1,hfl⟩:∃f0 f1,(if client=0 then([128,0]:List UInt8)else [0,0])=[f0,f1]:=by
  by_cases h:client=0
  ·exact⟨128,0,if_pos h⟩
  ·exact⟨0,0,if_neg h⟩
 have h4:∀n,∃a b c d,big 4 n=[a,b,c,d]:=fun n=>by
  have:=aB 4 n
  match h:big 4 n,this with
  |[a,b,c,d],_=>exact⟨a,b,c,d,rfl⟩
 obtain⟨x0,x1,x2,x3,ex⟩:=h4 xid
 obtain⟨c0,c1,c2,c3,ec⟩:=h4 client
 obtain⟨y0,y1,y2,y3,ey⟩:=h4 yours
 obtain⟨n0,n1,n2,n3,en⟩:=h4 next
 obtain⟨zz,hzz,hzl⟩:∃zz,zz=List.replicate 202 (0:UInt8)∧zz.length=202:=⟨_,rfl,List.length_replicate ..⟩
 obtain⟨fb,hfb⟩:∃fb,fb=os.flatMap (fun o:bK=>kB o.code o.data):=⟨_,rfl⟩
 have hh:eD rp xid client yours next (dO (m0,m1,m2,m3,m4,m5))=[if rp then(2:UInt8)else 1,1,6,0,x0,x1,x2,x3,0,0,f0,f1,c0,c1,c2,c3,y0,y1,y2,y3,n0,n1,n2,n3,0,0,0,0,m0,m1,m2,m3,m4,m5]++zz++[99,130,83,99]:=by
  unfold eD
  rw[hfl,ex,ec,ey,en,hzz,show big 4 0=[0,0,0,0] by decide]
  rfl
 obtain⟨z,hz⟩:∃z,iB (eD rp xid client yours next (dO (m0,m1,m2,m3,m4,m5))) os=[if rp then(2:UInt8)else 1,1,6,0,x0,x1,x2,x3,0,0,f0,f1,c0,c1,c2,c3,y0,y1,y2,y3,n0,n1,n2,n3,0,0,0,0,m0,m1,m2,m3,m4,m5]++(zz++([99,130,83,99]++(fb++255::z))):=by
  refine⟨List.replicate (300-(eD rp xid client yours next (dO (m0,m1,m2,m3,m4,m5))++fb++[255]).length) 0,?_⟩
  rw[show iB (eD rp xid client yours next (dO (m0,m1,m2,m3,m4,m5))) os=(eD rp xid client yours next (dO (m0,m1,m2,m3,m4,m5))++fb++[255])++List.replicate (300-(eD rp xid client yours next (dO (m0,m1,m2,m3,m4,m5))++fb++[255]).length) 0 by rw[hfb];rfl]
  generalize List.replicate (300-(eD rp xid client yours next (dO (m0,m1,m2,m3,m4,m5))++fb++[255]).length) (0:UInt8)=z
  rw[hh]
  simp only[List.append_assoc,List.cons_append,List.nil_append]
 clear hh hzz
 generalize iB (eD rp xid client yours next (dO (m0,m1,m2,m3,m4,m5))) os=l at*
 have hlen:240≤l.length:=by rw[hz];simp only[List.length_append,List.length_cons,List.length_nil,hzl];omega
 have s0:sub l 0 1=[if rp then 2 else 1]:=by rw[hz];rfl
 have s1:sub l 1 3=[1,6]:=by rw[hz];rfl
 have s4:sub l 4 8=big 4 xid:=by rw[hz,ex];rfl
 have s12:sub l 12 16=big 4 client:=by rw[hz,ec];rfl
 have s16:sub l 16 20=big 4 yours:=by rw[hz,ey];rfl
 have s20:sub l 20 24=big 4 next:=by rw[hz,en];rfl
 have s28:lF (l.drop 28)=(m0,m1,m2,m3,m4,m5):=by rw[hz];rfl
 have s236:sub l 236 240=[99,130,83,99]:=vM (a:=[if rp then(2:UInt8)else 1,1,6,0,x0,x1,x2,x3,0,0,f0,f1,c0,c1,c2,c3,y0,y1,y2,y3,n0,n1,n2,n3,0,0,0,0,m0,m1,m2,m3,m4,m5]++zz) (c:=fb++255::z) (by rw[hz];simp only[List.append_assoc]) (by simp only[List.length_append,List.length_cons,List.length_nil,hzl]) rfl (by omega)
 have s240:l.drop 240=fb++255::z:=by
  rw[show l=([if rp then(2:UInt8)else 1,1,6,0,x0,x1,x2,x3,0,0,f0,f1,c0,c1,c2,c3,y0,y1,y2,y3,n0,n1,n2,n3,0,0,0,0,m0,m1,m2,m3,m4,m5]++zz++[99,130,83,99])++(fb++255::z) by rw[hz];simp only[List.append_assoc]]
  exact List.drop_left' (by simp only[List.length_append,List.length_cons,List.length_nil,hzl])
 rw[hfb]at s240
 have ov:iI os (sub l 44 108) (sub l 108 236)=(os,0):=by unfold iI;rw[h52 os (fun o h=>(ho o h).2.2)]
 have ho2:=Al os [] z (fun o h=>⟨(ho o h).1,(ho o h).2.1⟩) hp
 unfold aQ
 rw[if_neg (by omega),if_neg (by rw[s0,s1,s236];cases rp<;>simp),s240,ho2]
 simp only[List.nil_append]
 rw[ov]
 simp only
 rw[s0,s4,s12,s16,s20,s28,cA 4 _ (by omega),cA 4 _ (by omega),cA 4 _ (by omega),cA 4 _ (by omega)]
 cases rp<;>rfl
theorem Cd (n:Nat) (r:List UInt8):sub (big 2 n++r) 0 2=big 2 n:=vM (a:=[]) rfl rfl (aB _ _) (by omega)
theorem vX (bk:Nat) (d:List UInt8) (hb:bk<65536) (hd:d.length≤1024):aM (big 2 3++big 2 bk++d)=(⟨3,bk,[],d,[]⟩,0):=by
 have hl:(big 2 3++big 2 bk++d).length=4+d.length:=by simp[aB];omega
 have e0:num (sub (big 2 3++big 2 bk++d) 0 2)=3:=by rw[List.append_assoc,Cd,cA 2 _ (by omega)]
 have e2:sub (big 2 3++big 2 bk++d) 2 4=big 2 bk:=vM (a:=big 2 3) (by rw[List.append_assoc]) rfl (aB _ _) (by omega)
 have e4:(big 2 3++big 2 bk++d).drop 4=d:=List.drop_left' (by simp[aB])
 unfold aM
 rw[if_neg (by omega),e0,if_neg (by omega),if_neg (by omega),if_pos rfl,if_neg (by omega),e4,if_neg (by omega),e2,cA 2 _ (by omega)]
theorem yO (bk:Nat) (hb:bk<65536):aM (big 2 4++big 2 bk)=(⟨4,bk,[],[],[]⟩,0):=by
 have hl:(big 2 4++big 2 bk).length=4:=by simp[aB]
 have e0:num (sub (big 2 4++big 2 bk) 0 2)=4:=by rw[Cd,cA 2 _ (by omega)]
 have e2:sub (big 2 4++big 2 bk) 2 4=big 2 bk:=vM (a:=big 2 4) (c:=[]) (by simp) rfl (aB _ _) (by omega)
 have e4:(big 2 4++big 2 bk).drop 4=[]:=List.drop_eq_nil_of_le (by omega)
 unfold aM
 rw[if_neg (by omega),e0,if_neg (by omega),if_neg (by omega),if_neg (by omega),if_pos rfl,if_neg (by omega),e4,if_neg (by simp),e2,cA 2 _ (by omega)]
end Go.Proofs.YtcbkaiakdhiloacGreatDoor
