/- Parts of the walk; written by programs, merged. -/
import Derived.Test.YtcbkaiakdhiloaaGreatDoorSaz
import Derived.Deep.Slices
import Derived.OpenShut
set_option linter.unusedSimpArgs false
set_option linter.unusedVariables false
set_option maxRecDepth 20000
set_option maxHeartbeats 8000000
namespace Go.Proofs.YtcbkaiakdhiloaaGreatDoor
open Go.RowKit Go.Proofs
attribute [local go_sem] aE aC aB aD
attribute [local simp] gN ibq ibn eqN ltN leN eqL ltL gtL leL geL
theorem FW {f:List UInt8} (h:IT f=true):IV f:=by
 unfold IT at h
 simp only[Bool.or_eq_true,Bool.and_eq_true,decide_eq_true_eq]at h
 intro ht nm hnm
 rcases h with h|h
 ·exact absurd ht h
 ·rcases hnm with rfl|rfl
  ·exact⟨h.1.1.1,h.1.1.2⟩
  ·exact⟨h.1.2,h.2⟩
structure BF (Y:Nat→Prop) (q g:Nat) (A:Option Addr):Prop where
 yq:Y q
 yg:Y g
 qg:q≠g
 gq:¬glB q
 gg:¬glB g
 kg:¬glK g
 gk:∀b,glK b→Y b
 a:∀x,A=some x→Y x.block∧x.block≠q
theorem BF.more {Y Z:Nat→Prop} {q g:Nat} {A:Option Addr} (h:BF Y q g A) (hZ:∀b,Y b→Z b):BF Z q g A:=
 ⟨hZ _ h.yq,hZ _ h.yg,h.qg,h.gq,h.gg,h.kg,fun b hb=>hZ _ (h.gk b hb),fun x hx=>⟨hZ _ (h.a x hx).1,(h.a x hx).2⟩⟩
theorem BP {tw k:Nat} {s:St} {h:aN} {d:cD} {x:St×aN×cD} (hy:oB tw k s h d=some x):s.tx.length≤16:=by
 cases k with
 |zero=>exact absurd hy nofun
 |succ k=>
  unfold oB at hy
  split at hy
  ·assumption
  ·cases hy
theorem EI {s:St} (h:s.tx=[]):s.txAs []=s:=by
 unfold St.txAs
 rw[←h]
def Fa (Y:Nat→Prop) (v:Value) (b:Nat):Prop:=Y b∨BB v b
structure BK (Y:Nat→Prop) (p q g:Nat) (A:Option Addr) (cap:Nat) (s:St) (h:aN) (d:cD) (w:World):Prop where
 m:MX Y p s w
 hh:HAt w q h
 l:jH w g A cap d
section
variable {Y Z:Nat→Prop} {p q g cap:Nat} {A:Option Addr} {s s':St} {h h':aN} {d d':cD} {w w':World}
theorem BK.none (k:BK Y p q g A cap s h d w) (f:Fr noB w w'):BK Y p q g A cap s h d w':=⟨k.m.none f,k.hh.none f,k.l.none f⟩
theorem BK.mach (k:BK Y p q g A cap s h d w) (F:BF Y q g A) (m:MX Y p s' w') (f:Fr (vV Y) w w'):BK Y p q g A cap s' h d w':=
 ⟨m,⟨k.hh.bk.keep f fun x=>x F.yq,k.hh.gl.keep f fun b hb x=>x (F.gk b hb),k.hh.gq,k.hh.ok⟩,k.l.keep f (fun x=>x F.yg) fun a ha x=>x (F.a a ha).1⟩
theorem BK.host (k:BK Y p q g A cap s h d w) (F:BF Y q g A) (m:HAt w' q h') (f:Fr (aH q) w w'):BK Y p q g A cap s h' d w':=
 ⟨k.m.keep f (fun b e=>by obtain rfl:b=q:=e;exact F.yq) (fun b hb e=>by obtain rfl:b=q:=e;exact F.gq hb),m,k.l.keep f (fun e=>F.qg (by have e':g=q:=e;exact e'.symm)) fun a ha e=>(F.a a ha).2 e⟩
theorem BK.luck (k:BK Y p q g A cap s h d w) (F:BF Y q g A) (m:jH w' g A cap d') (f:Fr (aH g) w w'):BK Y p q g A cap s h d' w':=
 ⟨k.m.keep f (fun b e=>by obtain rfl:b=g:=e;exact F.yg) (fun b hb e=>by obtain rfl:b=g:=e;exact F.gg hb),⟨k.hh.bk.keep f fun e=>F.qg e,k.hh.gl.keep f fun b hb e=>by obtain rfl:b=g:=e;exact F.kg hb,k.hh.gq,k.hh.ok⟩,m⟩
theorem BK.row {v:Value} (k:BK Y p q g A cap s h d w) (m:MX (fun b=>Y b∨BB v b) p s w):BK (Fa Y v) p q g A cap s h d w:=⟨m,k.hh,k.l⟩
end
instance (Y:Nat→Prop) (p q g cap:Nat) (A:Option Addr) (s:St) (h:aN) (d:cD):Kp0 fun w=>BK Y p q g A cap s h d w:=⟨fun _ _ k f=>k.none f⟩
def vT (Y:Nat→Prop) (q g:Nat) (b:Nat):Prop:=¬Y b∨b=q∨b=g
theorem Jm (d:cD) (s:St):(d.gone s).1.n=d.n+1:=by
 unfold cD.gone cD.seen
 dsimp only
 repeat' split
 all_goals rfl
theorem CJ {Y:Nat→Prop} (p q g:Nat) (A vA:Option Addr) (cap vc tw:Nat) (v26 v27 v47 v48 v49:Value) (l:List (List UInt8)) (s:St) (h:aN) (d:cD) (x:St×cD) (w:World) (B:BK Y p q g A cap s h d w) (F0:BF Y q g A) (hrow:SlR w (vT Y q g) 1 vA l.length (txV l)) (hll:l.length≤1048576) (htw:tw≤4611686018427387904) (hx:tM tw l s d=some x)
 (K:KT) (u:Nat→Value) (hK:∀u' w',BK Y p q g A cap x.1 h x.2 w'∧Fr (vT Y q g) w w'→K .normal (F 108 u' [(0,.pointer (some ⟨p,0,none⟩)),(1,.pointer (some ⟨q,0,none⟩)),(3,.int .i64 (tw:Int)),(11,.pointer (some ⟨g,0,none⟩)),(26,v26),(27,v27),(47,v47),(48,v48),(49,v49)]) w'):
 cw Tryz.prog (eQ Tryz.f8 6) K (F 108 u [(0,.pointer (some ⟨p,0,none⟩)),(1,.pointer (some ⟨q,0,none⟩)),(3,.int .i64 (tw:Int)),(11,.pointer (some ⟨g,0,none⟩)),(26,v26),(27,v27),(47,v47),(48,v48),(49,v49),(64,.slice vA l.length vc),(65,.int .i64 (l.length:Int)),(66,.int .i64 0)]) w:=by
 refine cW ?_
 refine W ?_
 refine cL (fun i=>l.length-i.1) (fun(i:Nat×St×cD)=>[(0,.pointer (some ⟨p,0,none⟩)),(1,.pointer (some ⟨q,0,none⟩)),(3,.int .i64 (tw:Int)),(11,.pointer (some ⟨g,0,none⟩)),(26,v26),(27,v27),(47,v47),(48,v48),(49,v49),(64,.slice vA l.length vc),(65,.int .i64 (l.length:Int)),(66,.int .i64 (i.1:Int))])
  (fun i w'=>i.1≤l.length∧BK Y p q g A cap i.2.1 h i.2.2 w'∧SlR w' (vT Y q g) 1 vA l.length (txV l)∧Fr (vT Y q g) w w'∧tM tw (l.drop i.1) i.2.1 i.2.2=some x)
  (0,s,d) (mt (p:=True) trivial).1 ⟨Nat.zero_le _,B,hrow,Fr.refl _ _,hx⟩ ?_
 clear B hrow hx
 rintro⟨i,s,d⟩ u w1 ⟨hi,B,hrow,f,hx⟩
 dsimp only at hi B hx⊢
 by_cases hlt:i<l.length
 rotate_left
 ·rw[List.drop_of_length_le (by omega)]at hx
  obtain rfl:=Option.some.inj hx
  refine W ?_
  exact mtK hK ⟨B,f⟩
 obtain⟨ad,y,rfl,hy,hc⟩:=hrow.at_ hlt
 rw[List.drop_eq_getElem_cons hlt]at hx
 obtain⟨a,ha⟩:∃a,l[i]=a:=⟨_,rfl⟩
 rw[ha]at hx
 obtain rfl: .string (bs a)=y:=by unfold txV at hy;rw[List.getElem?_map,List.getElem?_eq_getElem hlt,ha]at hy;exact Option.some.inj hy
 unfold tM at hx
 split at hx
 rotate_left
 ·cases hx
 rename_i hck
 obtain⟨hdn,hdl⟩:=hck
 clear hy ha
 have i1:IntKind.i64.wrap ((i:Int)+1)=((i+1:Nat):Int):=(IntWalk.i64_in _ (by omega)).trans (by omega)
 have hlg:=BW p g A cap s d w1 B.m B.l F0.yg F0.gg hdn hdl
 refine W ?_
 refine sC hlg ?_
 rintro w2 ⟨hL,f2⟩
 clear hlg hc
 have hdn4:(d.gone s).1.n≤4611686018427387904:=by rw[Jm];omega
 generalize d.gone s=z at*
 obtain⟨d4,gn⟩:=z
 dsimp only at hx hL hdn4⊢
 replace B:=B.luck F0 hL f2
 replace hrow:=hrow.keep (f2.mono fun b _ e=> .inr (.inr e))
 replace f:=f.trans (f2.mono fun b _ e=> .inr (.inr e))
 clear hL f2
 cases gn
 rotate_left
 ·rw[if_pos rfl]at hx
  refine W ?_
  exact⟨(i+1,s,d4),(mt (p:=True) trivial).1,⟨hlt,B,hrow,f,hx⟩,by dsimp only;omega⟩
 rw[if_neg nofun]at hx
 split at hx
 rotate_left
 ·cases hx
 rename_i hput
 have hcp:=oK a B.m
 rw[hput]at hcp
 refine W ?_
 refine sX hcp ?_
 rintro e w3 ⟨rfl,hM,f3⟩
 refine⟨_,rfl,?_⟩
 clear hcp hput
 generalize(s.put a).1=s3 at*
 replace B:=B.mach F0 hM f3
 replace hrow:=hrow.keep (f3.mono fun b _ e=> .inl e)
 replace f:=f.trans (f3.mono fun b _ e=> .inl e)
 clear hM f3
 have hB:=B.l.bk
 obtain⟨s4,hs4⟩:∃s4,(if 0<tw∧d4.n%tw=0 then(s3.put a).1 else s3)=s4:=⟨_,rfl⟩
 rw[hs4]at hx
 refine V ?_
 refine cF (h:= ?_)
 refine cK (tN ?_)
 refine cS ?_
 refine cM [0,1,3,11,26,27,47,48,49,64,65,66] [] (fun w'=>BK Y p q g A cap s4 h d4 w'∧SlR w' (vT Y q g) 1 (some ad) l.length (txV l)∧Fr (vT Y q g) w w') ?_ ?_
 ·by_cases h1:0<tw
  ·have h0:¬tw=0:=by omega
   have eT:(d4.n:Int).tmod (tw:Int)=((d4.n%tw:Nat):Int):=by rw[Int.tmod_eq_emod_of_nonneg (by omega)];rfl
   by_cases h2:d4.n%tw=0
   ·rw[h2]at eT
    rw[if_pos ⟨h1,h2⟩]at hs4
    clear h2
    refine W ?_
    refine W ?_
    refine sX (oK a B.m) ?_
    rintro e w4 ⟨rfl,hM,f4⟩
    refine⟨_,rfl,?_⟩
    rw[hs4]at hM
    refine W ?_
    exact mt ⟨B.mach F0 hM f4,hrow.keep (f4.mono fun b _ e=> .inl e),f.trans (f4.mono fun b _ e=> .inl e)⟩
   ·rw[if_neg fun x=>h2 x.2]at hs4
    subst hs4
    generalize d4.n%tw=z at*
    refine W ?_
    exact mt ⟨B,hrow,f⟩
  ·rw[if_neg fun x=>h1 x.1]at hs4
   subst hs4
   refine W ?_
   exact mt ⟨B,hrow,f⟩
 clear B hrow f hB
 rintro u w4 ⟨B,hrow,f⟩
 split at hx
 rotate_left
 ·cases hx
 rename_i hcalm
 have hcp:=xR 2 B.m (by decide) (St.calm_rest hcalm).1 (St.calm_rest hcalm).2
 rw[show(2:Int).toNat=2 from rfl]at hcp
 generalize pU 2 s4 0=y at*
 obtain⟨s5,ky⟩:=y
 dsimp only at hx hcp
 split at hx
 ·cases hx
 rename_i hk
 refine W ?_
 refine sX hcp ?_
 rintro e w5 ⟨rfl,hM,f5⟩
 refine⟨_,rfl,?_⟩
 clear hcp
 replace B:=B.mach F0 hM f5
 replace hrow:=hrow.keep (f5.mono fun b _ e=> .inl e)
 replace f:=f.trans (f5.mono fun b _ e=> .inl e)
 refine W ?_
 exact⟨(i+1,s5,d4),(mt (p:=True) trivial).1,⟨hlt,B,hrow,f,hx⟩,by dsimp only;omega⟩
end Go.Proofs.YtcbkaiakdhiloaaGreatDoor
namespace Go.Proofs.YtcbkaiakdhiloaaGreatDoor
open Go.RowKit Go.Proofs
attribute [local go_sem] aE aC aB aD
attribute [local simp] ibq ibn eqN ltN leN eqL ltL gtL leL geL
theorem EB {Y:Nat→Prop} (p q g:Nat) (A vA:Option Addr) (cap vc tw:Nat) (v26 v27:Value) (out:List (List UInt8)) (s:St) (h:aN) (d:cD) (x:St×aN×cD) (w7:World) (G:BF Y q g A) (B:BK (Fa Y (.slice vA out.length vc)) p q g A cap s h d w7) (hov:w7.ownsRow 0 9 1 (.slice vA out.length vc) out.length (txV out)) (hap:∀b,BB (.slice vA out.length vc) b→¬Y b) (hol:out.length≤16) (htw:tw≤4611686018427387904) (hg:Ar tw out s h d=some x)
 (K:KT) (u:Nat→Value) (hK:∀u' w',BK Y p q g A cap x.1 x.2.1 x.2.2 w'∧Fr (vT Y q g) w7 w'→K .normal (F 108 u' [(0,.pointer (some ⟨p,0,none⟩)),(1,.pointer (some ⟨q,0,none⟩)),(3,.int .i64 (tw:Int)),(11,.pointer (some ⟨g,0,none⟩)),(26,v26),(27,v27)]) w'):
 cw Tryz.prog (eQ Tryz.f8 3) K (F 108 u [(0,.pointer (some ⟨p,0,none⟩)),(1,.pointer (some ⟨q,0,none⟩)),(3,.int .i64 (tw:Int)),(11,.pointer (some ⟨g,0,none⟩)),(26,v26),(27,v27),(13,.slice vA out.length vc)]) w7:=by
 refine cW ?_
 obtain⟨Y1,hY1⟩:∃Y1,Fa Y (.slice vA out.length vc)=Y1:=⟨_,rfl⟩
 have F1:BF Y1 q g A:=G.more fun b hb=>hY1▸ .inl hb
 have hsub:∀b,vT Y1 q g b→vT Y q g b:=fun b hb=>hb.imp (fun x hy=>x (hY1▸ .inl hy)) id
 have hrow:SlR w7 (vT Y1 q g) 1 vA out.length (txV out):=by
  refine⟨hov.1,fun hn=> ?_⟩
  obtain⟨ad,e,h1,_,h2⟩:=(jQ hov).2 hn
  have hr:BB (.slice vA out.length vc) ad.block:=by rw[e];rfl
  refine⟨ad,e,h1,?_,h2⟩
  rintro(h|h|h)
  ·exact h (hY1▸ .inr hr)
  ·exact hap _ hr (h▸G.yq)
  ·exact hap _ hr (h▸G.yg)
 have hM1:∀b,Y b→Y1 b:=fun b hb=>hY1▸ .inl hb
 rw[hY1]at B
 clear hov hap hY1
 refine W ?_
 refine cL (fun i=>out.length-i.1) (fun(i:Nat×St×aN×cD)=>[(0,.pointer (some ⟨p,0,none⟩)),(1,.pointer (some ⟨q,0,none⟩)),(3,.int .i64 (tw:Int)),(11,.pointer (some ⟨g,0,none⟩)),(26,v26),(27,v27),(47,.slice vA out.length vc),(48,.int .i64 (out.length:Int)),(49,.int .i64 (i.1:Int))])
  (fun i w'=>i.1≤out.length∧BK Y1 p q g A cap i.2.1 i.2.2.1 i.2.2.2 w'∧SlR w' (vT Y1 q g) 1 vA out.length (txV out)∧Fr (vT Y1 q g) w7 w'∧Ar tw (out.drop i.1) i.2.1 i.2.2.1 i.2.2.2=some x)
  (0,s,h,d) (mt (p:=True) trivial).1 ⟨Nat.zero_le _,B,hrow,Fr.refl _ _,hg⟩ ?_
 clear B hrow hg
 rintro⟨i,s,h,d⟩ u w8 ⟨hi,B,hrow,f8,hg⟩
 dsimp only at hi B hg⊢
 by_cases hlt:i<out.length
 rotate_left
 ·rw[List.drop_of_length_le (by omega)]at hg
  obtain rfl:=Option.some.inj hg
  refine W ?_
  exact mtK hK ⟨⟨B.m.mono hM1,B.hh,B.l⟩,f8.mono fun b _ hb=>hsub b hb⟩
 obtain⟨ad,y,rfl,hy,hc⟩:=hrow.at_ hlt
 rw[List.drop_eq_getElem_cons hlt]at hg
 obtain⟨fr,hfr⟩:∃fr,out[i]=fr:=⟨_,rfl⟩
 rw[hfr]at hg
 obtain rfl: .string (bs fr)=y:=by unfold txV at hy;rw[List.getElem?_map,List.getElem?_eq_getElem hlt,hfr]at hy;exact Option.some.inj hy
 unfold Ar at hg
 split at hg
 rotate_left
 ·cases hg
 rename_i hck
 obtain⟨hfl,hsn,hnum,hdn,hdl⟩:=hck
 have hca:=CU q h fr w8 B.hh hfl hsn (FW hnum)
 generalize h.answer fr=a at*
 obtain⟨h4,l,ok⟩:=a
 dsimp only at hg hca
 split at hg
 rotate_left
 ·cases hg
 rename_i hok
 obtain⟨rfl,hll⟩:=hok
 clear hy hfr hnum hsn hfl
 refine W ?_
 refine sX hca ?_
 rintro e w9 ⟨v2,rfl,hov2,hH,f9⟩
 refine⟨_,rfl,?_⟩
 clear hca
 have hap2:∀b,BB v2 b→¬Y1 b:=fun b hb hy=>by have:=(hov2.lt b hb).1;have:=B.m.lt b hy;omega
 have hb2:∀b,BB v2 b→w8.heap.size≤b∧b<w9.heap.size:=fun b hb=>hov2.lt b hb
 have hM2:MX (Fa Y1 v2) p s w9:=B.m.add f9 (fun b e=>by obtain rfl:b=q:=e;exact F1.yq) (fun b hb e=>by obtain rfl:b=q:=e;exact F1.gq hb) fun b hb=>hb.imp id fun h=>hb2 b h
 replace B:=B.host F1 hH f9
 replace hrow:=hrow.keep (f9.mono fun b _ e=> .inr (.inl e))
 replace f8:=f8.trans (f9.mono fun b _ e=> .inr (.inl e))
 clear hH f9 hb2
 refine W ?_
 refine sC (BW p g A cap s d w9 B.m B.l F1.yg F1.gg hdn hdl) ?_
 rintro w10 ⟨hL,f10⟩
 generalize d.gone s=z at*
 obtain⟨d4,gn⟩:=z
 dsimp only at hg hL⊢
 replace B:=B.luck F1 hL f10
 replace hM2:=hM2.keep f10 (fun b e=>by obtain rfl:b=g:=e;exact .inl F1.yg) (fun b hb e=>by obtain rfl:b=g:=e;exact F1.gg hb)
 replace hrow:=hrow.keep (f10.mono fun b _ e=> .inr (.inr e))
 replace f8:=f8.trans (f10.mono fun b _ e=> .inr (.inr e))
 replace hov2:=pW hov2 f10 fun b hb e=>hap2 b hb (by obtain rfl:b=g:=e;exact F1.yg)
 clear hL f10
 have i1:IntKind.i64.wrap ((i:Int)+1)=((i+1:Nat):Int):=(IntWalk.i64_in _ (by omega)).trans (by omega)
 cases gn
 rotate_left
 ·rw[if_pos rfl]at hg
  refine W ?_
  exact⟨(i+1,s,h4,d4),(mt (p:=True) trivial).1,⟨hlt,B,hrow,f8,hg⟩,by dsimp only;omega⟩
 rw[if_neg nofun]at hg
 split at hg
 ·cases hg
 rename_i s5 d5 hcm
 have F2:BF (Fa Y1 v2) q g A:=F1.more fun b hb=> .inl hb
 have B2:BK (Fa Y1 v2) p q g A cap s h4 d4 w10:=⟨hM2,B.hh,B.l⟩
 obtain⟨lA,lc,rfl,hlA⟩:=eD hov2
 have hrow2:SlR w10 (vT (Fa Y1 (.slice lA l.length lc)) q g) 1 lA l.length (txV l):=by
  refine⟨hov2.1,fun hn=> ?_⟩
  obtain⟨ad,e,h1,_,h2⟩:=(jQ hov2).2 hn
  have hr:BB (.slice lA l.length lc) ad.block:=by rw[e];rfl
  refine⟨ad,e,h1,?_,h2⟩
  rintro(h|h|h)
  ·exact h (.inr hr)
  ·exact hap2 _ hr (h▸F1.yq)
  ·exact hap2 _ hr (h▸F1.yg)
 clear hov2 hap2 hM2
 refine V ?_
 refine cF (h:= ?_)
 refine cK (tN ?_)
 refine cZ ?_
 refine W ?_
 refine uZ ?_
 refine cBk _ (fun K u hK=>CJ p q g A lA cap lc tw v26 v27 (.slice (some ad) out.length vc) (.int .i64 (out.length:Int)) (.int .i64 (i:Int)) l s h4 d4 (s5,d5) w10 B2 F2 hrow2 hll htw hcm K u hK) ?_
 rintro u w11 ⟨B3,f11⟩
 refine W ?_
 exact⟨(i+1,s5,h4,d5),(mt (p:=True) trivial).1,⟨hlt,⟨B3.m.mono fun b hb=> .inl hb,B3.hh,B3.l⟩,hrow.keep (f11.mono fun b _ hb=>hb.imp (fun x hy=>x (.inl hy)) id),f8.trans (f11.mono fun b _ hb=>hb.imp (fun x hy=>x (.inl hy)) id),hg⟩,by dsimp only;omega⟩
end Go.Proofs.YtcbkaiakdhiloaaGreatDoor
namespace Go.Proofs.YtcbkaiakdhiloaaGreatDoor
open Go.RowKit Go.Proofs
attribute [local go_sem] aE aC aB aD
attribute [local simp] ibq ibn eqN ltN leN eqL ltL gtL leL geL
theorem Cw {Y:Nat→Prop} (p q g:Nat) (A:Option Addr) (cap tw k:Nat) (v v26 v27:Value) (s:St) (h:aN) (d:cD) (x:St×aN×cD) (w6:World) (F0:BF Y q g A) (B:BK (Fa Y v) p q g A cap (s.txAs []) h d w6) (hov:w6.ownsRow 0 9 1 v s.tx.length (txV s.tx)) (hap:∀b,BB v b→¬Y b) (htw:tw≤4611686018427387904) (hy:oB tw k s h d=some x)
 (K:KT) (u:Nat→Value) (hK:∀u' w',BK Y p q g A cap x.1 x.2.1 x.2.2 w'∧Fr (vT Y q g) w6 w'→K .normal (F 108 u' [(0,.pointer (some ⟨p,0,none⟩)),(1,.pointer (some ⟨q,0,none⟩)),(3,.int .i64 (tw:Int)),(11,.pointer (some ⟨g,0,none⟩)),(26,v26),(27,v27)]) w'):
 cw Tryz.prog (eQ Tryz.f8 2) K (F 108 u [(0,.pointer (some ⟨p,0,none⟩)),(1,.pointer (some ⟨q,0,none⟩)),(3,.int .i64 (tw:Int)),(11,.pointer (some ⟨g,0,none⟩)),(13,v),(26,v26),(27,v27)]) w6:=by
 refine cW ?_
 refine W ?_
 refine cL (fun i=>i.1) (fun(i:Nat×St×aN×cD×Value)=>[(0,.pointer (some ⟨p,0,none⟩)),(1,.pointer (some ⟨q,0,none⟩)),(3,.int .i64 (tw:Int)),(11,.pointer (some ⟨g,0,none⟩)),(13,i.2.2.2.2),(26,v26),(27,v27)])
  (fun i w'=>BK (Fa Y i.2.2.2.2) p q g A cap (i.2.1.txAs []) i.2.2.1 i.2.2.2.1 w'∧w'.ownsRow 0 9 1 i.2.2.2.2 i.2.1.tx.length (txV i.2.1.tx)∧(∀b,BB i.2.2.2.2 b→¬Y b)∧Fr (vT Y q g) w6 w'∧oB tw i.1 i.2.1 i.2.2.1 i.2.2.2.1=some x)
  (k,s,h,d,v) (mt (p:=True) trivial).1 ⟨B,hov,hap,Fr.refl _ _,hy⟩ ?_
 clear B hov hap hy
 rintro⟨k,s,h,d,v⟩ u w7 ⟨B,hov,hap,f,hy⟩
 dsimp only at B hov hap hy⊢
 cases k with
 |zero=>exact absurd hy nofun
 |succ k=>
 unfold oB at hy
 split at hy
 rotate_left
 ·cases hy
 rename_i htl
 obtain⟨vA,vc,rfl,hvA⟩:=eD hov
 rcases hs:s.tx with _|⟨y,ys⟩
 ·rw[hs]at hy
  obtain rfl:=Option.some.inj hy
  rw[EI hs]at B
  refine W ?_
  exact mtK hK ⟨⟨B.m.mono fun b hb=> .inl hb,B.hh,B.l⟩,f⟩
 ·have hpos:0<s.tx.length:=by rw[hs];exact Nat.succ_pos _
  rw[hs]at hy
  dsimp only at hy
  rw[←hs]at hy⊢
  clear hs y ys
  generalize s.tx=out at*
  replace B:BK (Fa Y (.slice vA out.length vc)) p q g A cap {s with tx:=[]} h d w7:=B
  generalize({s with tx:=[]}:St)=s at*
  obtain⟨y,hg⟩:∃y,Ar tw out s h d=y:=⟨_,rfl⟩
  rw[hg]at hy
  rcases y with _|⟨s3,h3,d3⟩
  ·cases hy
  dsimp only at hy
  refine cZ ?_
  refine W ?_
  refine uZ ?_
  refine cS ?_
  refine cBl _ (fun K u hK=>EB p q g A vA cap vc tw v26 v27 out s h d (s3,h3,d3) w7 F0 B hov hap htl htw hg K u hK) ?_
  clear B hov hap hg
  rintro u w8 ⟨B,f8⟩
  replace f:=f.trans f8
  dsimp only at B
  refine W ?_
  refine sX (nL B.m (BP hy)) ?_
  rintro e w9 ⟨v,rfl,hov,hM,f9⟩
  refine⟨_,rfl,?_⟩
  have hap:∀b,BB v b→¬Y b:=fun b hb hy=>by have:=(hov.lt b hb).1;have:=B.m.lt b hy;omega
  replace B:=(B.mach F0 (hM.mono fun b hb=> .inl hb) f9).row hM
  replace f:=f.trans (f9.mono fun b _ e=> .inl e)
  replace hov:w9.ownsRow 0 9 1 v s3.tx.length (txV s3.tx):=⟨hov.1,hov.2.imp id fun⟨g,c,cur,h1,h2,h3⟩=>⟨g,c,cur,h1,Nat.zero_le _,h3⟩⟩
  refine W ?_
  exact⟨(k,s3,h3,d3,v),(mt (p:=True) trivial).1,⟨B,hov,hap,f,hy⟩,Nat.lt_succ_self _⟩
end Go.Proofs.YtcbkaiakdhiloaaGreatDoor
namespace Go.Proofs.YtcbkaiakdhiloaaGreatDoor
open Go.RowKit Go.Proofs
attribute [local go_sem] aE aC aB aD
attribute [local simp] gN ibq ibn eqN ltN leN eqL ltL gtL leL geL
theorem C9 {Y0:Nat→Prop} (p q:Nat) (A:Option Addr) (cap:Nat) (loss:List Int) (tw nt k:Nat) (s:St) (h:aN) (w:World) (r:St×aN×Bool) (hM:MX Y0 p s w) (hH:HAt w q h) (hA:SlR w (aH q) 1 A loss.length (KX loss)) (hAY:∀x,A=some x→Y0 x.block∧x.block≠q) (hll:loss.length≤1048576) (hY:Y0 q) (hq:¬glB q) (hk:∀b,glK b→Y0 b) (htw:tw≤4611686018427387904) (hnt:nt≤4611686018427387904)
 (hr:xQ tw k nt 0 s h ⟨loss,0,0,s.look⟩=some r):
 Calls Tryz.prog 8 #[.pointer (some ⟨p,0,none⟩),.pointer (some ⟨q,0,none⟩),.slice A loss.length cap,.int .i64 (tw:Int),.int .i64 (nt:Int)] w fun e w'=>e= .returned (.bool r.2.2)∧MX Y0 p r.1 w'∧HAt w' q r.2.1∧Fr (fun b=>¬Y0 b∨b=q) w w':=by
 refine en Tryz.func8 Tryz.ntmps8 ?_
 refine W ?_
 have hc:=iB hM
 unfold Aj at hc
 refine sC hc ?_
 intro w1 f1
 clear hc
 refine W ?_
 refine sA ?_
 intro w2 hg f2
 have hgl:w.heap.size≤w1.heap.size:=f1.size
 have hgl2:=hg.lt
 replace f2:=f1.none f2
 have hM2:=hM.none f2
 have hgq:q≠w1.heap.size:=by have:=hM.lt q hY;omega
 have hgG:¬glB w1.heap.size:=fun hb=>by have:=qY hM.gb _ hb;omega
 have hgK:¬glK w1.heap.size:=fun hb=>by have:=hM.lt _ (hk _ hb);omega
 have hgA:∀x,A=some x→x.block≠w1.heap.size:=fun x hx e=>by have:=hM.lt _ (hAY x hx).1;omega
 have hgm:∀b,Y0 b→b≠w1.heap.size:=fun b hb e=>by have:=hM.lt _ hb;omega
 have hgn:∀b,b=w1.heap.size→w.heap.size≤b:=fun b e=>by omega
 obtain⟨g,hgg⟩:∃g,w1.heap.size=g:=⟨_,rfl⟩
 rw[hgg]at hg hgq hgG hgK hgA hgm hgn hgl2 hgl
 obtain⟨Y,hYe⟩:∃Y:Nat→Prop,Y=fun b=>Y0 b∨b=g:=⟨_,rfl⟩
 have F:BF Y q g A:=by
  subst hYe
  exact⟨.inl hY,.inr rfl,hgq,hq,hgG,hgK,fun b hb=> .inl (hk b hb),fun x hx=>⟨.inl (hAY x hx).1,(hAY x hx).2⟩⟩
 have B:BK Y p q g A cap s h ⟨loss,0,0,s.look⟩ w2:=by
  refine⟨?_,hH.none f2,⟨hg,?_,hll⟩⟩
  ·subst hYe
   refine hM.add f2 (fun _ x=>x.elim) (fun _ _ x=>x) ?_
   rintro b (hb|hb)
   ·exact .inl hb
   ·exact .inr ⟨hgn b hb,by rw[hb];exact hgl2⟩
  ·refine(hA.keep (f2.of_no _)).2|>fun z=>⟨hA.1,fun hn=> ?_⟩
   obtain⟨ad,e,h1,_,h2⟩:=z hn
   exact⟨ad,e,h1,fun x=>hgA ad e x,h2⟩
 have hYY:∀b,Y0 b→Y b:=fun b hb=>by rw[hYe];exact .inl hb
 have hgF:∀b,vT Y q g b→b<w.heap.size→¬Y0 b∨b=q:=by
  rintro b (h|h|h) hl
  ·exact .inl fun x=>h (hYY b x)
  ·exact .inr h
  ·exact absurd (hgn b h) (by omega)
 replace f2:Fr (vT Y q g) w w2:=f2.of_no _
 generalize(⟨loss,0,0,s.look⟩:cD)=d at*
 clear hM2 hg hA hAY hll hM hH hgA hgm hgn
 rw[hgg]
 refine W ?_
 refine cL (fun i=>nt-i.1) (fun(i:Nat×St×aN×cD)=>[(0,.pointer (some ⟨p,0,none⟩)),(1,.pointer (some ⟨q,0,none⟩)),(3,.int .i64 (tw:Int)),(11,.pointer (some ⟨g,0,none⟩)),(26,.int .i64 (nt:Int)),(27,.int .i64 (i.1:Int))])
  (fun i w'=>i.1≤nt∧BK Y p q g A cap i.2.1 i.2.2.1 i.2.2.2 w'∧Fr (vT Y q g) w w'∧xQ tw k (nt-i.1) i.1 i.2.1 i.2.2.1 i.2.2.2=some r)
  (0,s,h,d) (mt (p:=True) trivial).1 ⟨Nat.zero_le _,B,f2,hr⟩ ?_
 clear B f2 hr
 rintro⟨t,s,h,d⟩ u w3 ⟨ht,B,f,hr⟩
 dsimp only at ht B hr⊢
 by_cases hlt:t<nt
 rotate_left
 ·rw[show nt-t=0 by omega]at hr
  obtain rfl:=Option.some.inj hr
  refine W ?_
  exact⟨rfl,B.m.mono hYY,B.hh,f.mono fun b hb hl=>hgF b hl hb⟩
 obtain⟨m,hm⟩:∃m,nt-t=m+1:=⟨nt-t-1,by omega⟩
 rw[hm]at hr
 unfold xQ at hr
 split at hr
 rotate_left
 ·cases hr
 rename_i hok
 obtain⟨hnow,ht18⟩:=hok
 obtain⟨y,hy⟩:∃y,oB tw k (s.tick (7*t%4294967296)) {h with now:=((t+1:Nat):Int)} d=y:=⟨_,rfl⟩
 rw[hy]at hr
 rcases y with _|⟨s2,h2,d2⟩
 ·cases hr
 dsimp only at hr
 have e1:IntKind.i64.wrap ((t:Int)+1)=((t+1:Nat):Int):=(IntWalk.i64_in _ (by omega)).trans (by omega)
 have e7:IntKind.i64.wrap (7*(t:Int))=((7*t:Nat):Int):=(IntWalk.i64_in _ (by omega)).trans (by omega)
 have e8:IntKind.u32.wrap ((7*t:Nat):Int)=((7*t%4294967296:Nat):Int):=by rw[IntKind.wrap_u32];omega
 have hdr:7*t%4294967296<4294967296:=Nat.mod_lt _ (by decide)
 generalize 7*t%4294967296=dr at*
 generalize 7*t=t7 at*
 obtain⟨t1,ht1⟩:∃t1,t+1=t1:=⟨_,rfl⟩
 rw[ht1]at e1 hy hr
 have HT:=Lib.hid (And.intro ht1 hm)
 clear ht1 hm
 have hB:=B.hh.bk
 refine W ?_
 refine sK (gN {h with now:=(t1:Int)}) hB ?_
 intro w4 hB f4
 replace B:=B.host F (B.hh.put hB f4 {B.hh.ok with}) f4
 replace f:=f.trans (f4.mono fun b _ e=> .inr (.inl e))
 clear hB f4
 refine W ?_
 refine sX (xL dr B.m hnow hdr) ?_
 rintro e w5 ⟨rfl,hM,f5⟩
 refine⟨_,rfl,?_⟩
 replace B:=B.mach F hM f5
 replace f:=f.trans (f5.mono fun b _ e=> .inl e)
 clear hM f5 e7 e8
 refine V ?_
 refine cS ?_
 refine cM [0,1,3,11,26,27] [] (fun w'=>BK Y p q g A cap s2 h2 d2 w'∧Fr (vT Y q g) w w') ?_ ?_
 ·clear hr e1 HT hnow ht18 hdr
  generalize s.tick dr=s at*
  obtain⟨h',hh⟩:∃h',({h with now:=(t1:Int)}:aN)=h':=⟨_,rfl⟩
  rw[hh]at hy B
  clear hh
  have htl:=BP hy
  refine cZ ?_
  refine W ?_
  refine sX (nL B.m htl) ?_
  rintro e w6 ⟨v,rfl,hov,hM,f6⟩
  refine⟨_,rfl,?_⟩
  have B0:=B
  replace B:=(B.mach F (hM.mono fun b hb=> .inl hb) f6).row hM
  replace f:=f.trans (f6.mono fun b _ e=> .inl e)
  have hap:∀b,BB v b→¬Y b:=fun b hb hy=>by have:=(hov.lt b hb).1;have:=B0.m.lt b hy;omega
  clear hM f6 htl B0
  replace hov:w6.ownsRow 0 9 1 v s.tx.length (txV s.tx):=⟨hov.1,hov.2.imp id fun⟨g,c,cur,h1,h2,h3⟩=>⟨g,c,cur,h1,Nat.zero_le _,h3⟩⟩
  refine W ?_
  refine uZ ?_
  refine cBk _ (fun K u hK=>Cw p q g A cap tw k v (.int .i64 (nt:Int)) (.int .i64 (t:Int)) s h' d (s2,h2,d2) w6 F B hov hap htw hy K u hK) ?_
  rintro u w7 ⟨B,f7⟩
  refine tN ?_
  exact mt ⟨B,f.trans f7⟩
 clear B f hy
 rintro u w6 ⟨B,f⟩
 have hc:=iB B.m
 unfold Aj at hc
 refine W ?_
 refine sC hc ?_
 intro w7 f7
 replace B:=B.none f7
 replace f:=f.none f7
 clear f7 hc
 have hfd:=fun w=>G0 s2.now (s2.lease:Int) (s2.phase:Int) (s2.address:Int) s2.boots (s2.image.length:Int) s2.lost (s2.cache.length:Int) w
 obtain⟨ph,hph⟩:∃ph,s2.phase=ph:=⟨_,rfl⟩
 rw[hph]at hr hfd
 rw[hph]
 refine W ?_
 clear hfd
 by_cases h3:ph=3
 ·subst h3
  rw[if_pos (.inl rfl)]at hr
  obtain rfl:=Option.some.inj hr
  refine W ?_
  exact⟨rfl,B.m.mono hYY,B.hh,f.mono fun b hb hl=>hgF b hl hb⟩
 by_cases h4:ph=4
 ·subst h4
  rw[if_pos (.inr rfl)]at hr
  obtain rfl:=Option.some.inj hr
  refine W ?_
  exact⟨rfl,B.m.mono hYY,B.hh,f.mono fun b hb hl=>hgF b hl hb⟩
 ·rw[if_neg (by simp[h3,h4])]at hr
  refine W ?_
  have hT:=HT.out
  have e:nt-t1=m:=by omega
  exact⟨(t1,s2,h2,d2),(mt (p:=True) trivial).1,⟨by dsimp only;omega,B,f,by dsimp only;rw[e];exact hr⟩,by dsimp only;omega⟩
end Go.Proofs.YtcbkaiakdhiloaaGreatDoor
namespace Go.Proofs.YtcbkaiakdhiloaaGreatDoor
open Go.RowKit Go.Proofs
attribute [local go_sem] aE aC aB aD
attribute [local simp] gN ibq ibn eqN ltN leN eqL ltL gtL leL geL
theorem Ig {Y:Nat→Prop} (p:Nat) (x:List UInt8) (s:St) (w:World) (hM:MX Y p s w):Calls Tryz.prog 9 #[.pointer (some ⟨p,0,none⟩),.string (bs x)] w fun e w'=>e= .returned (.bool (decide (s.phase=3∧s.image=x)))∧MX Y p s w'∧Fr (vV Y) w w':=by
 refine en Tryz.func9 Tryz.ntmps9 ?_
 refine W ?_
 have hc:=sY hM
 by_cases hp:s.phase=3
 rotate_left
 ·rw[if_neg hp,decide_eq_false hp]at hc
  refine sX hc ?_
  rintro e w1 ⟨rfl,hM,f⟩
  refine⟨_,rfl,?_⟩
  refine W ?_
  exact⟨by rw[decide_eq_false fun h=>hp h.1],hM,f⟩
 rw[if_pos hp,decide_eq_true hp]at hc
 refine sX hc ?_
 rintro e w1 ⟨rfl,hM,f⟩
 refine⟨_,rfl,?_⟩
 have hc2:=iB hM
 unfold Aj at hc2
 clear hc
 by_cases hi:s.image=x
 rotate_left
 ·have hb:(s.image==x)=false:=by simpa using hi
  refine W ?_
  exact⟨by rw[decide_eq_false fun h=>hi h.2],hM,f⟩
 ·subst hi
  have hfd:=fun w=>G0 s.now (s.lease:Int) (s.phase:Int) (s.address:Int) s.boots (s.image.length:Int) s.lost (s.cache.length:Int) w
  rw[decide_eq_true (show s.phase=3∧s.image=s.image from⟨hp,rfl⟩)]
  have hpb:decide (s.phase=3)=true:=decide_eq_true hp
  generalize s.phase=ph at*
  clear hp
  refine W ?_
  refine sC hc2 ?_
  intro w2 f2
  refine W ?_
  exact⟨rfl,hM.none f2,f.none f2⟩
theorem CQ (x:List UInt8) (b wd:Int) (h1:8≤b) (h2:b≤1024) (h3:1≤wd) (h4:wd≤8):(mW x b wd).Ok:=by
 refine⟨⟨by show 1≤6;decide,by show 6≤20;decide,rfl⟩,(show([107,101,114,110,101,108]:List UInt8).all eP=true by decide),?_,by show cH≠rF;decide,by show cH.1.toNat%2≠1;decide⟩
 refine⟨⟨?_,?_⟩,⟨h1,h2⟩,⟨h3,h4⟩,⟨?_,?_⟩,?_,?_⟩<;>simp[mW]
theorem Dh (w:World) (hG:Glb w) (hK:Fd w):Calls Tryz.prog 10 #[] w fun e w'=>e= .returned (.bool true)∧Fr noB w w':=by
 have hP:=Jk
 obtain⟨s0,hs0⟩:∃x,EH iY 600000 8 1=x:=⟨_,rfl⟩
 obtain⟨h0,hh0⟩:∃x,BI iY 4294967295 iS true=x:=⟨_,rfl⟩
 have hnew:rH (mW iY 8 1)=s0:=hs0
 have hcok:=CQ iY 8 1 (by decide) (by decide) (by decide) (by decide)
 rw[hs0,hh0]at hP
 obtain⟨r,hr,hrr⟩:=Option.map_eq_some_iff.1 hP
 clear hP
 unfold Bf at hr
 obtain⟨rs,rh,rb⟩:=r
 simp only[Prod.mk.injEq]at hrr
 obtain⟨rfl,hr3,hri⟩:=hrr
 refine en Tryz.func10 Tryz.ntmps10 ?_
 refine W ?_
 have hlt:=hK.lt
 have hgl:=qY hG
 have hc:=tZ iY 8 1 w (by decide) hG hK.card
 refine sC hc ?_
 intro w1 f1
 clear hc
 refine W ?_
 have hc2:=BG (mW iY 8 1) w1 (hG.keep f1 fun _ _=>id) hcok
 rw[hnew]at hc2
 refine sX hc2 ?_
 rintro e w2 ⟨p,rfl,hM,f2⟩
 refine⟨_,rfl,?_⟩
 clear hc2 hnew hs0 hcok
 refine W ?_
 refine sA ?_
 intro w3 hq f3
 obtain⟨q,hqq⟩:∃q,w2.heap.size=q:=⟨_,rfl⟩
 have h12:w1.heap.size≤q:=hqq▸f2.size
 have h01:w.heap.size≤w1.heap.size:=f1.size
 rw[hqq]at hq⊢
 have hql:=hq.lt
 obtain⟨Y,hY⟩:∃Y:Nat→Prop,Y=fun b=>b<w1.heap.size∨b=q:=⟨_,rfl⟩
 have hM3:MX Y p s0 w3:=by
  subst hY
  exact hM.add f3 (fun _ x=>x.elim) (fun _ _ x=>x) fun b hb=>hb.imp id fun e=>by subst e;exact⟨by omega,hql⟩
 have hgq:¬glB q:=fun h=>by have:=hgl _ h;omega
 have hkq:¬glK q:=fun h=>by rcases h with h|h|h|h<;>omega
 have hH:HAt w3 q h0:=by
  subst hh0
  exact⟨hq,((hK.keep f1 fun _ _=>id).keep f2 fun _ _=>id).keep f3 fun _ _=>id,hkq,⟨by show 5≤_;decide,by show 4294967295<_;decide,by show iS<_;decide,by show 0<_;decide,by show 0<_;decide,by show 0≤_;decide,by show 0≤_;decide,by show 0≤_;decide⟩⟩
 have hcb:=C9 (Y0:=Y) p q none 0 [] 0 100 50 s0 h0 w3 (rs,rh,true) hM3 hH SlR.nil (fun _ h=>by cases h) (by decide) (hY▸ .inr rfl) hgq (fun b hb=>by subst hY;left;rcases hb with rfl|rfl|rfl|rfl<;>omega) (by decide) (by decide) hr
 have ff:Fr noB w w3:=(f1.none f2).none f3
 clear hM hM3 hH hr hq
 refine W ?_
 refine sC hcb ?_
 rintro w4 ⟨hM,_,f4⟩
 have hg:=Ig p iY rs w4 hM
 rw[decide_eq_true (show rs.phase=3∧rs.image=iY from⟨hr3,hri⟩)]at hg
 have f04:Fr noB w w4:=ff.trans' f4 fun b hb h=>by
  rcases h with h|h
  ·exact h (by rw[hY];left;omega)
  ·omega
 refine W ?_
 refine sX hg ?_
 rintro e w5 ⟨rfl,_,f5⟩
 refine⟨_,rfl,?_⟩
 refine W ?_
 exact⟨rfl,f04.trans' f5 fun b hb h=>h (by rw[hY];left;omega)⟩
end Go.Proofs.YtcbkaiakdhiloaaGreatDoor
set_option maxRecDepth 20000
namespace Go.Proofs.YtcbkaiakdhiloaaGreatDoor
open Go.RowKit Go.Proofs Go.ChangeShapes Go.WideShapes
section
variable {H:Type} {enc:TypeId×Value→H} {W:World}
theorem Ji {n:Nat} {t:TypeId} {c:Value} {y:DataW H×List MemPlace} (ht:Tryz.prog.underlying t=some .string) (h:DataW.trod enc Tryz.prog W 0 (fun _=>true) true n t [c]=some y):∃s:List UInt8,c= .string (bs s)∧y.1= .lit (.string s):=by
 obtain⟨s,hs,hsx,_⟩:=DataW.trod_string ht h
 injection hs with hs _
 exact⟨s.data.toList,by rw[hs,vF],by rw[hsx]⟩
theorem Cg {w:World} {a:Addr} {v:Value} (h:w.cell? a=some v):a.block<w.heap.size:=by
 rcases Nat.lt_or_ge a.block w.heap.size with h1|h1
 ·exact h1
 ·unfold World.cell? at h;rw[Array.getElem?_eq_none h1]at h;cases h
theorem At {l:List (DataW H)} {e:TypeId} {d:DataW H} (hd:d∈l):∀n∈d.weights Tryz.prog e,n∈DataW.weightsAll Tryz.prog e l:=by
 intro n hn
 induction l with
 |nil=>cases hd
 |cons x r ih=>
  simp only[DataW.weightsAll,List.mem_append]
  rcases List.mem_cons.1 hd with h|h
  ·subst h;exact .inl hn
  ·exact .inr (ih h)
end
end Go.Proofs.YtcbkaiakdhiloaaGreatDoor
set_option maxRecDepth 20000
namespace Go.Proofs.YtcbkaiakdhiloaaGreatDoor
open Go.RowKit Go.Proofs Go.ChangeShapes Go.WideShapes
section
variable {H:Type} {enc:TypeId×Value→H} {W:World}
theorem FP {a:Addr} {l:List (List UInt8)} (h:∀(i:Nat) (s:List UInt8),l[i]? =some s→W.cell? (a.add i)=some (.string (bs s))):SlR W noB 1 (some a) l.length (txV l):=by
 refine⟨by simp[txV],fun hn=>⟨a,rfl,?_,fun x=>x,fun j u hu=> ?_⟩⟩
 ·have h1:=Cg (h 0 _ (List.getElem?_eq_getElem hn))
  rwa [gI]at h1
 ·unfold txV at hu
  rw[List.getElem?_map,Option.map_eq_some_iff]at hu
  obtain⟨s,hs,rfl⟩:=hu
  exact h j s hs
theorem FN {n:Nat} {c:Value} {y:DataW H×List MemPlace} (h:DataW.trod enc Tryz.prog W 0 (fun _=>true) true n 41 [c]=some y):
 ∃(l:List (List UInt8)) (A:Option Addr) (cap:Nat),c= .slice A l.length cap∧SlR W noB 1 A l.length (txV l)∧
  (l=[]∨∃(E:Nat→DataW H) (rest:List (DataW H)),y.1= .slice ((List.range l.length).map E) rest∧∀(i:Nat) (s:List UInt8),l[i]? =some s→E i= .lit (.string s)):=by
 have hco:Tryz.prog.cellsOf 9=1:=by kernel_rfl
 rcases Go.Deep.open_slice Tryz.underlying41 h with⟨hc,rfl⟩|⟨a,len,cap,m,n',D,Pl,hc,_,hlc,_,hm,rfl,hel⟩
 ·injection hc with hc _
  subst hc
  exact⟨[],none,0,rfl,SlR.nil,.inl rfl⟩
 ·injection hc with hc _
  subst hc
  have hlm:len≤m:=by simp at hm;omega
  have each:∀i,i<len→∃s:List UInt8,W.cell? (a.add i)=some (.string (bs s))∧D i= .lit (.string s):=by
   intro i hi
   obtain⟨cs,h1,h2⟩:=hel i (by omega)
   rw[hco]at h1
   obtain⟨_,hlen,hcell⟩:=World.cells?_some h1
   match cs,hlen with
   |[c0],_=>
    obtain⟨s,rfl,e⟩:=Ji Tryz.underlying9 h2
    have h3:=hcell 0 (by decide)
    rw[Go.Deep.add_add,Nat.mul_one,Nat.add_zero]at h3
    exact⟨s,h3,e⟩
  haveI:Inhabited (List UInt8):=⟨[]⟩
  obtain⟨f,hf⟩:=Go.Deep.choose_lt (α:=List UInt8) each
  have hlen:((List.range len).map f).length=len:=by simp
  have hget:∀i o,((List.range len).map f)[i]? =some o→i<len∧o=f i:=by
   intro i o h
   rw[List.getElem?_map]at h
   rcases Nat.lt_or_ge i len with hi|hi
   ·rw[List.getElem?_range hi]at h;simp at h;exact⟨hi,h.symm⟩
   ·rw[List.getElem?_eq_none (by simpa using hi)]at h;simp at h
  refine⟨(List.range len).map f,some a,cap,by rw[hlen],FP fun i o ho=> ?_,.inr ⟨D,(List.range (m-len)).map fun j=>D (len+j),by rw[hlen],fun i o ho=> ?_⟩⟩
  ·obtain⟨hi,rfl⟩:=hget i o ho
   exact(hf i hi).1
  ·obtain⟨hi,rfl⟩:=hget i o ho
   exact(hf i hi).2
theorem Eb {l:List (List UInt8)} {d d0 d2:DataW H} (hd:l=[]∨∃(E:Nat→DataW H) (rest:List (DataW H)),d= .slice ((List.range l.length).map E) rest∧∀(i:Nat) (s:List UInt8),l[i]? =some s→E i= .lit (.string s))
 (hw:(DataW.weightsEach Tryz.prog [9,41,9] [d0,d,d2]).all (· ≤reachBytes)=true):∀s∈l,s.length≤4611686018427387904:=by
 rcases hd with rfl|⟨E,rest,rfl,hE⟩
 ·exact fun s hs=>absurd hs List.not_mem_nil
 intro s hs
 have hw':∀n∈DataW.weightsEach Tryz.prog [9,41,9] [d0,.slice ((List.range l.length).map E) rest,d2],n≤reachBytes:=fun n hn=>by simpa using List.all_eq_true.1 hw n hn
 obtain⟨i,hi⟩:=List.getElem?_of_mem hs
 have hi2:i<l.length:=by
  rcases Nat.lt_or_ge i l.length with h1|h1
  ·exact h1
  ·rw[List.getElem?_eq_none h1]at hi;cases hi
 have e:reachBytes=140737488351232:=rfl
 have h1:s.length≤reachBytes:=by
  refine hw' _ (DataW.weights_mem_each (j:=1) rfl rfl _ ?_)
  simp only[DataW.weights,Tryz.underlying41,List.mem_cons,List.mem_append]
  exact .inr (.inl (At (List.mem_map.2 ⟨i,List.mem_range.2 hi2,rfl⟩) _ (by rw[hE i s hi];simp[DataW.weights])))
 omega
end
end Go.Proofs.YtcbkaiakdhiloaaGreatDoor
