/- Parts of the walk; written by programs, merged. -/
import Derived.Test.YtcbkaiakdhiloacGreatDoorRav
set_option linter.unusedSimpArgs false
set_option linter.unusedVariables false
set_option maxRecDepth 20000
set_option maxHeartbeats 8000000
namespace Go.Proofs.YtcbkaiakdhiloacGreatDoor
open Go.RowKit Go.Proofs
attribute [local go_sem] aG aD aC aE gK
attribute [local simp] gW yF ibq ibn eqN ltN leN eqL ltL gtL leL geL
theorem BH {w:World} {g base k:Nat} {e:TypeId} {cs:Array Value} {l:List Value} (h:Bk w g e cs) (hb:base≤g) (hl:cs.toList=l) (hk:l.length=k) (hm:k≤maxLen):w.ownsRow base e 1 (.slice (some ⟨g,0,none⟩) k k) k l:=by
 subst hl
 have hs:cs.size=k:=by simpa using hk
 exact⟨by rw[hk,Nat.mul_one],.inr ⟨g,k,cs,rfl,hb,h,Nat.le_refl _,hm,by omega,by rw[Nat.mul_one,List.take_of_length_le (by omega)]⟩⟩
theorem zM (l:List UInt8):(aQ l).1.xid<4294967296:=by
 unfold aQ
 have h2:=wZ l 4 8 4 rfl
 have h0:(Ic.xid:Nat)<4294967296:=by decide
 repeat' split
 all_goals first|exact h2|exact h0
attribute [-go_sem] run_eql_struct run_neq_struct run_equalIn_agg in
theorem G4 (q:Nat) (h:aK) (fm tp:Nat) (ld:List UInt8) (w:World) (hA:HAt w q h) (hfm:fm<65536) (hld:ld.length≤1048576):
 Calls Tryz.prog 55 #[.pointer (some ⟨q,0,none⟩),.agg #[.int .u16 (fm:Int),.int .u16 (tp:Int),.string (bs ld)]] w fun e w'=>∃v,e= .returned (.tuple #[v,.bool (h.dhcp ⟨fm,tp,ld⟩).2.2])∧w'.ownsRow w.heap.size 9 1 v (h.dhcp ⟨fm,tp,ld⟩).2.1.length (txV (h.dhcp ⟨fm,tp,ld⟩).2.1)∧HAt w' q (h.dhcp ⟨fm,tp,ld⟩).1∧Fr (aI q) w w':=by
 obtain⟨r,hr⟩:∃r,h.dhcp ⟨fm,tp,ld⟩=r:=⟨_,rfl⟩
 rw[hr]
 unfold aK.dhcp at hr
 dsimp only at hr
 have hql:=hA.bk.lt
 refine en Tryz.func55 Tryz.ntmps55 ?_
 refine W ?_
 refine sA ?_
 intro w1 hU f1
 have hx:=zM ld
 have hin:=(qV ld).2.2
 refine W ?_
 refine sX (Ad ld w1 (by omega)) ?_
 rintro e w2 ⟨⟨A,cap,rfl,hS⟩,f2⟩
 refine⟨_,rfl,?_⟩
 replace hS:=hS.sub (T:=aI q) (fun b _ e=>by have e':b=q:=e;show b<w1.heap.size;rw[e'];exact Nat.lt_of_lt_of_le hql f1.size)
 replace f2:=f1.none f2
 replace hA:=hA.none f2
 generalize aQ ld=d at*
 obtain⟨⟨rp,xid,cl,yo,nx,mac,os⟩,k⟩:=d
 dsimp only at hr hx hin hS⊢
 have hol:=jO os
 refine W ?_
 refine sA ?_
 intro w3 hG f3
 refine W ?_
 refine sT ?_
 intro w4 hG f4
 replace f4:=bP f3 (Nat.le_refl _) f4
 have f:=f2.none f4
 replace hA:=hA.none f4
 replace hS:=hS.keep (f4.of_no _)
 have hq2:w.heap.size≤w2.heap.size:=f2.size
 generalize w2.heap.size=g at*
 clear f1 f2 f3 f4 hU
 have c0:=hA.gl.card.2 0 _ rfl
 have c1:=hA.gl.card.2 1 _ rfl
 have c2:=hA.gl.card.2 2 _ rfl
 have c3:=hA.gl.card.2 3 _ rfl
 have c4:=hA.gl.card.2 4 _ rfl
 have c5:=hA.gl.card.2 5 _ rfl
 refine V ?_
 refine cS (cS ?_)
 obtain⟨b,hb⟩:∃b,b=decide (k≠0∨rp=true∨mac≠aL):=⟨_,rfl⟩
 refine cM [0,6] [(28,.bool b)] (fun w'=>w4=w') ?_ ?_
 ·have hE:∀w,(binOp .neq 26 (.agg (xF mac)) (.agg #[.int .u8 2,.int .u8 0,.int .u8 0,.int .u8 0,.int .u8 0,.int .u8 42])).run Tryz.prog w= .ok (.bool (decide (mac≠aL))) w:=mH mac aL
  have hGd:=iA
  unfold xF at hE
  obtain⟨c,hc⟩:∃c,c=decide (mac≠aL):=⟨_,rfl⟩
  replace hb:b=decide (k≠0∨rp=true∨c=true):=by rw[hb,hc];simp
  simp only[←hc]at hE
  clear hc hr
  by_cases a1:k=0
  rotate_left
  ·obtain rfl:b=true:=by rw[hb];simp[a1]
   clear hb
   refine W ?_
   exact mt rfl
  subst a1
  cases rp
  rotate_left
  ·obtain rfl:b=true:=by rw[hb];simp
   clear hb
   refine W ?_
   exact mt rfl
  ·obtain rfl:b=c:=by rw[hb];simp
   clear hb
   refine W ?_
   exact mt rfl
 rintro u _ rfl
 refine cC (fun e=> ?_) fun e=> ?_
 ·rw[if_pos (of_decide_eq_true (hb.symm.trans e))]at hr
  clear hb
  refine W ?_
  subst hr
  exact⟨_,rfl,⟨rfl,.inl ⟨rfl,rfl⟩⟩,hA,f.of_no _⟩
 rw[if_neg (of_decide_eq_false (hb.symm.trans e))]at hr
 clear hb e
 have ho:=fun w' (f:Fr noB w4 w')=>uB A os.length cap os 53 w' ((hS.sub (fun _ _ x=>x.elim)).keep f) (by omega)
 refine cK (tN ?_)
 refine cZ ?_
 refine W ?_
 refine uZ ?_
 refine cS ?_
 obtain⟨x,hxx⟩:∃x,FT os 53=x:=⟨_,rfl⟩
 rw[hxx]at hr
 simp only[hxx]at ho
 obtain⟨kd,hkd⟩:∃kd:UInt8,(if x=[3]then 5 else 2)=kd:=⟨_,rfl⟩
 rw[hkd]at hr
 refine cM [0,6] [(8,.int .u8 (kd.toNat:Int))] (fun w'=>Fr noB w4 w') ?_ ?_
 ·refine W ?_
  refine sC (ho _ (Fr.refl _ _)) ?_
  intro w5 f5
  refine W ?_
  by_cases h3:x=[3]
  ·subst h3
   obtain rfl:5=kd:=hkd
   refine W ?_
   exact mt f5
  ·rw[if_neg h3]at hkd
   subst hkd
   have hb3:(x==[3])=false:=by simpa using h3
   refine W ?_
   exact mt f5
 clear c0 c1 c2 c3 c4 c5
 rintro u w5 f5
 replace hA:=hA.none f5
 replace hS:=hS.keep (f5.of_no _)
 clear ho
 have hG:=Bk.keep (by assumption:Bk w4 g 62 _) f5 id
 replace f:=f.none f5
 have hok:=hA.ok
 obtain⟨pkt,hpk⟩:∃pkt,fP true xid 0 aS h.next (dO aL) [⟨53,[kd]⟩,⟨54,big 4 aF⟩,⟨51,big 4 h.lease⟩,⟨1,[255,255,255,0]⟩,⟨3,big 4 aF⟩]=pkt:=⟨_,rfl⟩
 rw[hpk]at hr
 have hpk2:fP true xid 0 167772215 h.next [2,0,0,0,0,42] [⟨53,[kd]⟩,⟨54,big 4 167772161⟩,⟨51,big 4 h.lease⟩,⟨1,[255,255,255,0]⟩,⟨3,big 4 167772161⟩]=pkt:=hpk
 have hpl:pkt.1.length≤1472:=by rw[←hpk];exact iW ..
 clear hpk
 refine W ?_
 refine cM [0,6,8] [(9,.string (bs pkt.1))] (fun w'=>Bk w' g 62 #[.bool rp,.int .u32 (xid:Int),.int .u32 (cl:Int),.int .u32 (yo:Int),.int .u32 (nx:Int),.int .u8 (mac.1.toNat:Int),.int .u8 (mac.2.1.toNat:Int),.int .u8 (mac.2.2.1.toNat:Int),.int .u8 (mac.2.2.2.1.toNat:Int),.int .u8 (mac.2.2.2.2.1.toNat:Int),.int .u8 (mac.2.2.2.2.2.toNat:Int),.slice A os.length cap]∧HAt w' q h∧SlR w' (aI q) 2 A os.length (fY os)∧Fr (aI q) w w') ?_ ?_
 ·refine dI (An hA.bk (An hG (An hA (An hS (f.of_no (aI q)))))) [] [0,1,2,3,4,5,6,7,13,14,15,16,19,2000,8,2000,4009,10,11,12,17,18,20,21,22,23,24,25,26,27,28,29,3000,11,12,2000,4009,10,17,18,20,21,22,23,24,25,26,27,28,29,3000,17,18,2000,4009,10,20,21,22,23,24,25,26,27,28,29,3000,20,21,4009,10,22,23,24,25,26,27,28,29,3000,11,12,2000,8,2000,4009,10,17,18,20,21,22,23,24,25,26,27,28,29,3000,17,18,2000,4009,10,20,21,22,23,24,25,26,27,28,29,3000,20,21,4009,10,22,23,24,25,26,27,28,29,3000,17,18,2000,8,2000,4009,10,20,21,22,23,24,25,26,27,28,29,3000,20,21,4009,10,22,23,24,25,26,27,28,29,3000,20,21,8,4009,10,22,23,24,25,26,27,28,29] (h:= ?_)
  intro w6 hS f6
  refine D ?_
  refine dQ (v:= .agg #[.int .u8 2,.int .u8 0,.int .u8 0,.int .u8 0,.int .u8 0,.int .u8 42]) ?_ ?_
  ·intro w' hS
   have k:=hS.2.2.1.gl.card
   have c0:=k.2 0 _ rfl
   have c1:=k.2 1 _ rfl
   have c2:=k.2 2 _ rfl
   have c3:=k.2 3 _ rfl
   have c4:=k.2 4 _ rfl
   have c5:=k.2 5 _ rfl
   go_simp
  refine D ?_
  repeat' (first
   |refine dF2 ?_ ?_
   |(have hcv:=cvB [kd] 1 hE rfl 1;refine dU (h:= ?_) (fun _=>hS);clear hcv;refine D ?_)
   |(refine dQc (By 167772161 (by decide) _) hS ?_;intro w' f' hS;(try replace hE:=Bk.keep hE f' id);refine D ?_)
   |(refine dQc (By h.lease hok.lease _) hS ?_;intro w' f' hS;(try replace hE:=Bk.keep hE f' id);refine D ?_)
   |(refine dA2 (cs:= #[.int .u8 (kd.toNat:Int)]) inferInstance hS ?_;intro w' hS hE f';refine D ?_))
  all_goals
   refine dA2 (cs:= #[.int .u8 53,.string (bs [kd]),.int .u8 54,.string (bs (big 4 167772161)),.int .u8 51,.string (bs (big 4 h.lease)),.int .u8 1,.string (bs [255,255,255,0]),.int .u8 3,.string (bs (big 4 167772161))]) inferInstance hS ?_
   intro w7 hS hE f7
   refine D ?_
   have hwr:=wO true xid 0 167772215 h.next 2 0 0 0 0 42 [⟨53,[kd]⟩,⟨54,big 4 167772161⟩,⟨51,big 4 h.lease⟩,⟨1,[255,255,255,0]⟩,⟨3,big 4 167772161⟩] _ 5 w7 hx (by decide) (by decide) hok.next (SlR.of_bk (S:=noB) hE id rfl) (by simp[wtO,big])
   rw[hpk2]at hwr
   have hwr2:Calls Tryz.prog 106 #[.agg #[.bool true,.int .u32 (xid:Int),.int .u32 0,.int .u32 167772215,.int .u32 (h.next:Int),.int .u8 2,.int .u8 0,.int .u8 0,.int .u8 0,.int .u8 0,.int .u8 42,.slice (some ⟨_,0,none⟩) 5 5]] w7 (fun e w'=>e= .returned (.tuple #[.string (bs pkt.1),.int .i64 (pkt.2:Int)])∧Fr noB w7 w'):=hwr
   clear hwr
   refine dQc hwr2 hS ?_
   intro w8 f8 hS
   refine D ?_
   exact mt hS.2
 rintro u w9 ⟨hG,hA,hS,f⟩
 have hql2:=hA.bk.lt
 have hw9:=f.size
 refine W ?_
 refine dI (An hS hG) [] [0,1,2,5,6,3,2000,4,7,8,9,10,11,12,13,14,3000,7,8,9,10,11,12,4,13,14] (h:= ?_)
 rintro w10 ⟨hS,hG⟩ f10
 replace hA:=hA.none f10
 replace f:=f.none f10
 refine D ?_
 have hgq:g≠q:=by omega
 refine dC (wY q h 67 68 167772161 167772215 pkt.1 w10 hA (by decide) (by decide) (by decide) (by decide) (by omega)) ?_ ?_
 ·rintro w' ⟨_,f'⟩
  exact⟨hS.keep f',hG.keep f' hgq⟩
 rintro w11 ⟨hA,f11⟩ hS
 replace f:=f.trans f11
 have hr:((h.wrap 67 68 pkt.1 167772161 167772215).1,[(h.wrap 67 68 pkt.1 167772161 167772215).2],decide (x=[1])||decide (kd=5))=r:=hr
 generalize h.wrap 67 68 pkt.1 167772161 167772215=y at hr hA
 obtain⟨h2,fx⟩:=y
 have hf:=f.size
 have ho:=fun w' (k:SlR w' (aI q) 2 A os.length (fY os))=>uB A os.length cap os 53 w' (k.sub (fun _ _ x=>x.elim)) (by omega)
 simp only[hxx]at ho
 clear hxx hkd hpl hpk2 f10 f11
 obtain⟨b1,hb1⟩:∃b,(x==[1])=b:=⟨_,rfl⟩
 obtain⟨b2,hb2⟩:∃b,decide (kd.toNat=5)=b:=⟨_,rfl⟩
 obtain⟨b3,hb3⟩:∃b,(b1||b2)=b:=⟨_,rfl⟩
 have e1:decide (x=[1])=b1:=by rw[←hb1];cases h:x==[1]<;>simp_all
 have e2:decide (kd=5)=b2:=by
  rw[←hb2];congr 1;apply propext;constructor
  ·rintro rfl;rfl
  ·intro e;exact UInt8.toNat_inj.1 e
 rw[e1,e2,hb3]at hr
 subst hr
 dsimp only at hA⊢
 clear e1 e2
 refine D ?_
 cases b1<;>cases b2<;>(obtain rfl:=hb3)<;>(repeat' (first
  |refine dF2 ?_ ?_
  |(refine dA2 (cs:= #[.string (bs fx)]) inferInstance hS ?_;intro w' hS hE f';replace hA:=hA.none f';replace f:=f.none f';have hge:=hf;replace hf:=Nat.le_trans hf f'.size;refine D ?_)
  |(refine dQc (ho _ hS.1) hS ?_;intro w' f' hS;(try replace hE:=Bk.keep hE f' id);replace hA:=hA.none f';replace f:=f.none f';replace hf:=Nat.le_trans hf f'.size;refine D ?_)))
 all_goals
  refine W ?_
  refine⟨_,rfl,?_,hA,f⟩
  first
   |exact BH hE hf rfl rfl (by decide)
   |exact BH hE hge rfl rfl (by decide)
end Go.Proofs.YtcbkaiakdhiloacGreatDoor
