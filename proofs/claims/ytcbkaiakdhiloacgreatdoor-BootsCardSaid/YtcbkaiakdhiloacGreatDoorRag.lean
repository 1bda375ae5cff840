/- Parts of the walk; written by programs, merged. -/
import Derived.Test.YtcbkaiakdhiloacGreatDoorRae
import Derived.Test.YtcbkaiakdhiloacGreatDoorRaf
set_option linter.unusedSimpArgs false
set_option linter.unusedVariables false
set_option maxRecDepth 20000
set_option maxHeartbeats 8000000
namespace Go.Proofs.YtcbkaiakdhiloacGreatDoor
open Go.RowKit Go.Proofs
attribute [local go_sem] aG aD gK aE
structure IpD where
 id:Nat
 ttl:Nat
 pr:Nat
 fm:Nat
 «to»:Nat
 by':List UInt8
def ip0:IpD:=⟨0,0,0,0,0,[]⟩
def ipC (a:IpD):Array Value:= #[.int .u16 (a.id:Int),.int .u8 (a.ttl:Int),.int .u8 (a.pr:Int),.int .u32 (a.fm:Int),.int .u32 (a.«to»:Int),.string (bs a.by')]
def aW (l:List UInt8):IpD×Nat:=
 if l.length<20 then(ip0,1)
 else if num (sub l 0 1)/16≠4∨num (sub l 0 1)%16<5 then(ip0,2)
 else if 5<num (sub l 0 1)%16 then(ip0,4)
 else if num (sub l 2 4)<20 then(ip0,2)
 else if l.length<num (sub l 2 4)then(ip0,1)
 else if eV (sub l 0 20)≠0 then(ip0,6)
 else if 32768≤num (sub l 6 8)∨num (sub l 8 9)=0 then(ip0,2)
 else if num (sub l 6 8)%16384≠0 then(ip0,5)
 else(⟨num (sub l 4 6),num (sub l 8 9),num (sub l 9 10),num (sub l 12 16),num (sub l 16 20),sub l 20 (num (sub l 2 4))⟩,0)
theorem zJ (l:List UInt8) (h:l.length<20):aW l=(ip0,1):=by unfold aW;rw[if_pos h]
theorem xR (x:Nat) (h:x<65536):x&&&32768=if x<32768 then 0 else 32768:=by
 have h1:=Nat.and_div_two_pow (a:=x) (b:=32768) (n:=15)
 have h2:=Nat.and_mod_two_pow (a:=x) (b:=32768) (n:=15)
 rw[show(32768:Nat)/2^15=1 by decide,Nat.and_one_is_mod]at h1
 rw[show(32768:Nat)%2^15=0 by decide,Nat.and_zero]at h2
 split<;>omega
theorem Hy (x:Nat) (h:x<65536):bits .and .u16 (x:Int) 32768=((if x<32768 then 0 else 32768:Nat):Int):=by
 rw[show(32768:Int)=((32768:Nat):Int)from rfl,u16_and_nat x 32768 (by omega) (by omega),xR x h]
theorem FO (x:Nat) (h:x<65536):bits .and .u16 (x:Int) 16383=((x%16384:Nat):Int):=by
 rw[show(16383:Int)=((16383:Nat):Int)from rfl,u16_and_nat x 16383 (by omega) (by omega)]
 congr 1
 exact Nat.and_two_pow_sub_one_eq_mod x 14
theorem Lo (x:Nat) (h:x<256):bits .and .u8 (x:Int) 15=((x%16:Nat):Int):=by
 rw[show(15:Int)=((15:Nat):Int)from rfl,u8_and_nat x 15 (by omega) (by omega)]
 congr 1
 exact Nat.and_two_pow_sub_one_eq_mod x 4
theorem vV (A:Option Addr) (c:Nat) (p:List UInt8) (w:World) (hr:SlR w noB 1 A 1 (HV [p])) (hz:p.length≤9223372036854775807):
 Calls Tryz.prog 92 #[.slice A 1 c] w fun e w'=>e= .returned (.int .u16 (eV p))∧w=w':=by
 have h:=jJ A 1 c [p] w noB hr (by omega) (by simpa using hz)
 simpa using h
def L8 (l:List UInt8) (c:Array Value):Prop:=∃x,c=ipC x∧aW l=(x,0)
def I7 (l:List UInt8) (er:Int):Prop:=∃k:Nat,er=k∧aW l=(ip0,k)
attribute [local simp] ipC ibq ibn eqN ltN leN eqL ltL gtL leL geL
theorem Nw (l:List UInt8) (hl:l.length≤9223372036854775807) (p q:Nat) (w:World) (hR:Rd w p l) (hq:Bk w q 9 #[.string (bs l)]) (hpq:p≠q):
 Calls Tryz.prog 89 #[.pointer (some ⟨p,0,none⟩),.pointer (some ⟨q,0,none⟩)] w (jW (L8 l) (I7 l) p w):=by
 obtain⟨z,hz⟩:∃z,aW l=z:=⟨_,rfl⟩
 have bad:∀k:Nat,z=(ip0,k)→∀w',Fr (aI p) w w'→jW (L8 l) (I7 l) p w (.panicked (cE k)) w':=fun k h w' hf=>⟨.inr ⟨_,⟨k,rfl,hz.trans h⟩,rfl⟩,hf⟩
 have hA:RA p l 0 w [(q,9,#[.string (bs l)])] w:=⟨by rw[List.drop_zero];exact hR,Fr.refl _ _,List.forall_mem_cons.2 ⟨⟨Ne.symm hpq,hq⟩,List.forall_mem_nil _⟩⟩
 clear hR hq
 refine en Tryz.func89 Tryz.ntmps89 ?_
 refine W ?_
 refine sA ?_
 intro w1 hX f
 replace hA:=hA.new hX f
 have hq:=hA.at_ 1
 refine W ?_
 refine sM (eA _ _ _) (fun h=> ?_) fun h20=> ?_
 ·exact⟨rfl,bad 1 (hz.symm.trans (zJ l (by omega))) _ hA.fr⟩
 have h20':¬l.length<20:=by omega
 have hy:=hz
 unfold aW at hz
 rw[if_neg h20']at hz
 clear hX f hq h20'
 refine W ?_
 refine sR 1 (nU8 hA (by omega) hl) ?_
 intro _ w2 hA
 have n1:num (sub l 0 1)<256:=xM ..
 generalize num (sub l 0 1)=x1 at*
 have h15:=Lo x1 n1
 by_cases t1:x1/16=4
 rotate_left
 ·have t1':¬(x1:Int)/16=4:=by omega
  refine W ?_
  refine sMn (dH _ _) ?_
  exact⟨rfl,bad 2 (hz.symm.trans (if_pos (.inl t1))) _ hA.fr⟩
 have t1':(x1:Int)/16=4:=by omega
 refine W ?_
 refine sM (eA _ _ _) (fun h=> ?_) fun t2=> ?_
 ·exact⟨rfl,bad 2 (hz.symm.trans (if_pos (.inr (by omega)))) _ hA.fr⟩
 rw[if_neg (by omega)]at hz
 clear t1' t1
 refine W ?_
 refine sM (eA _ _ _) (fun h=> ?_) fun t3=> ?_
 ·exact⟨rfl,bad 4 (hz.symm.trans (if_pos (by omega))) _ hA.fr⟩
 rw[if_neg (by omega)]at hz
 clear t2 t3 n1
 refine W ?_
 refine sR 2 (nU8 hA (by omega) hl) ?_
 intro _ w3 hA
 refine W ?_
 refine sR 4 (B7 hA (by omega) hl) ?_
 intro _ w4 hA
 have n3:num (sub l 2 4)<65536:=xM ..
 generalize num (sub l 2 4)=x3 at*
 have e3:IntKind.i64.wrap (x3:Int)=x3:=IntWalk.i64_in _ ⟨by omega,by omega⟩
 refine W ?_
 refine sR 6 (B7 hA (by omega) hl) ?_
 intro _ w5 hA
 refine W ?_
 refine sA ?_
 intro w6 hG f6
 refine W ?_
 refine sT ?_
 intro w7 hG f7
 have hg0:w.heap.size<w5.heap.size:=(hA.at_ 0).lt
 have hgq:q<w5.heap.size:=(hA.at_ 1).lt
 replace hA:=hA.new hG (bP f6 (Nat.le_refl _) f7)
 have hne:∀x∈[(w.heap.size,53,rdZ 2),(q,9,#[.string (bs l)])],x.1≠w5.heap.size:=List.forall_mem_cons.2 ⟨Nat.ne_of_lt hg0,List.forall_mem_cons.2 ⟨Nat.ne_of_lt hgq,List.forall_mem_nil _⟩⟩
 clear hG f6 f7 hgq
 generalize w5.heap.size=g at*
 refine W ?_
 refine sR 8 (B7 hA (by omega) hl) ?_
 intro _ w8 hA
 have n5:num (sub l 6 8)<65536:=xM ..
 generalize num (sub l 6 8)=x5 at*
 refine W ?_
 refine sR 9 (nU8 hA (by omega) hl) ?_
 intro _ w9 hA
 refine W ?_
 refine sR 10 (nU8 hA (by omega) hl) ?_
 intro _ w10 hA
 generalize num (sub l 4 6)=x4 at*
 generalize num (sub l 8 9)=x6 at*
 generalize num (sub l 9 10)=x7 at*
 refine W ?_
 refine sK (ipC ⟨x4,x6,0,0,0,[]⟩) (hA.at_ 0) ?_
 intro w11 hG f
 replace hA:=hA.put hG f (Nat.le_of_lt hg0) hne
 refine W ?_
 refine sK (ipC ⟨x4,x6,x7,0,0,[]⟩) (hA.at_ 0) ?_
 intro w12 hG f
 replace hA:=hA.put hG f (Nat.le_of_lt hg0) hne
 refine W ?_
 refine sR 12 (B7 hA (by omega) hl) ?_
 intro _ w13 hA
 refine W ?_
 refine sR 16 (nIP hA (by omega) hl) ?_
 intro _ w14 hA
 refine W ?_
 refine sR 20 (nIP hA (by omega) hl) ?_
 intro _ w15 hA
 generalize num (sub l 12 16)=x9 at*
 generalize num (sub l 16 20)=x10 at*
 refine W ?_
 refine sK (ipC ⟨x4,x6,x7,x9,0,[]⟩) (hA.at_ 0) ?_
 intro w16 hG f
 replace hA:=hA.put hG f (Nat.le_of_lt hg0) hne
 refine W ?_
 refine sK (ipC ⟨x4,x6,x7,x9,x10,[]⟩) (hA.at_ 0) ?_
 intro w17 hG f
 replace hA:=hA.put hG f (Nat.le_of_lt hg0) hne
 refine W ?_
 refine sM (eA _ _ _) (fun h=> ?_) fun t4=> ?_
 ·exact⟨rfl,bad 2 (hz.symm.trans (if_pos (by omega))) _ hA.fr⟩
 rw[if_neg (by omega)]at hz
 have hq:=hA.at_ 2
 refine W ?_
 refine sM (eA _ _ _) (fun h=> ?_) fun t5=> ?_
 ·exact⟨rfl,bad 1 (hz.symm.trans (if_pos (by omega))) _ hA.fr⟩
 rw[if_neg (by omega)]at hz
 refine W ?_
 refine sA ?_
 intro w18 hB f
 replace hA:=hA.none f
 refine W ?_
 refine sC (vV (some ⟨w17.heap.size,0,none⟩) 1 (sub l 0 20) w18 (SlR.of_bk hB id rfl) (by have:=Ap l 0 20;omega)) ?_
 rintro _ rfl
 refine W ?_
 refine sM (eA _ _ _) (fun h=> ?_) fun t6=> ?_
 ·exact⟨rfl,bad 6 (hz.symm.trans (if_pos (by omega))) _ hA.fr⟩
 rw[if_neg (by omega)]at hz
 have hb:=Hy x5 n5
 have hb2:=FO x5 n5
 by_cases t7:x5<32768
 rotate_left
 ·rw[if_neg t7]at hb
  refine W ?_
  refine sMn (dH _ _) ?_
  exact⟨rfl,bad 2 (hz.symm.trans (if_pos (.inl (by omega)))) _ hA.fr⟩
 rw[if_pos t7]at hb
 have hG:=hA.at_ 0
 refine W ?_
 refine sM (eA _ _ _) (fun h=> ?_) fun t8=> ?_
 ·exact⟨rfl,bad 2 (hz.symm.trans (if_pos (.inr (by omega)))) _ hA.fr⟩
 rw[if_neg (by omega)]at hz
 refine W ?_
 refine sM (eA _ _ _) (fun h=> ?_) fun t9=> ?_
 ·exact⟨rfl,bad 5 (hz.symm.trans (if_pos (by omega))) _ hA.fr⟩
 rw[if_neg (by omega)]at hz
 have e8:IntKind.i64.wrap ((x3:Int)-20)=((x3-20:Nat):Int):=(IntWalk.i64_in _ ⟨by omega,by omega⟩).trans (by omega)
 clear e3
 refine W ?_
 refine sR x3 (qO (x3-20) hA (by omega) hl (by omega)) ?_ (hm:=by omega)
 intro _ w19 hA
 generalize sub l 20 x3=x11 at*
 refine W ?_
 refine sK (ipC ⟨x4,x6,x7,x9,x10,x11⟩) (hA.at_ 0) ?_
 intro w20 hG f
 replace hA:=hA.put hG f (Nat.le_of_lt hg0) hne
 have hX:=hA.at_ 1
 clear hq
 refine W ?_
 refine sT ?_
 intro w21 hX f
 refine W ?_
 refine zC hX Tryz.underlying53 ?_
 exact⟨.inl ⟨_,⟨⟨x4,x6,x7,x9,x10,x11⟩,rfl,hy.trans hz.symm⟩,rfl⟩,hA.fr.trans' f fun b hb e=>by have e':b=w.heap.size:=e;omega⟩
def E8 (l:List UInt8) (w:World) (e:Ending) (w':World):Prop:=e= .returned (.tuple #[.agg (ipC (aW l).1),.int .i64 ((aW l).2:Int)])∧Fr noB w w'
theorem J6 (l:List UInt8) (q:Nat) (w:World) (hq:Bk w q 9 #[.string (bs l)]) (hl:l.length≤9223372036854775807):
 Calls Tryz.prog 88 #[.string (bs l),.func (.func 89) #[] #[.pointer (some ⟨q,0,none⟩)]] w (E8 l w):=by
 refine(GM 2 (by decide) l w 89 #[_] (L8 l) (I7 l) (by rintro c ⟨x,rfl,_⟩;exact⟨rfl,by kernel_rfl⟩) (fun p w1 hp hR hf=>Nw l hl p q w1 hR (hq.keep hf (fun x=>x)) (by have:=hq.lt;omega))).mono ?_
 rintro e w' ⟨⟨c,⟨x,rfl,hx⟩,rfl⟩|⟨er,⟨k,rfl,hk⟩,rfl⟩,hf⟩
 ·exact⟨by rw[hx];rfl,hf⟩
 ·exact⟨by rw[hk];rfl,hf⟩
end Go.Proofs.YtcbkaiakdhiloacGreatDoor
namespace Go.Proofs.YtcbkaiakdhiloacGreatDoor
open Go.RowKit Go.Proofs
attribute [local go_sem] aG aD gK aE
structure DB where
 fm:Nat
 tp:Nat
 ld:List UInt8
def DS:DB:=⟨0,0,[]⟩
def Dn (a:DB):Array Value:= #[.int .u16 (a.fm:Int),.int .u16 (a.tp:Int),.string (bs a.ld)]
def bA (l:List UInt8) (fi ti:Nat):DB×Nat:=
 if l.length<8 then(DS,1)
 else if num (sub l 4 6)<8 then(DS,2)
 else if l.length<num (sub l 4 6)then(DS,1)
 else if num (sub l 6 8)≠0∧eV (cU fi ti (num (sub l 4 6))++sub l 0 (num (sub l 4 6)))≠0 then(DS,6)
 else(⟨num (sub l 0 2),num (sub l 2 4),sub l 8 (num (sub l 4 6))⟩,0)
theorem wD (l:List UInt8) (fi ti:Nat) (h:l.length<8):bA l fi ti=(DS,1):=by unfold bA;rw[if_pos h]
def GW (l:List UInt8) (fi ti:Nat) (c:Array Value):Prop:=∃x,c=Dn x∧bA l fi ti=(x,0)
def BT (l:List UInt8) (fi ti:Nat) (er:Int):Prop:=∃k:Nat,er=k∧bA l fi ti=(DS,k)
attribute [local simp] Dn ibq ibn eqN ltN leN eqL ltL gtL leL geL
theorem Lw (l:List UInt8) (fi ti:Nat) (hfi:fi<4294967296) (hti:ti<4294967296) (hl:l.length≤9223372036854775807) (p q qi qt:Nat) (w:World) (hR:Rd w p l)
 (hq:Bk w q 9 #[.string (bs l)]) (hqi:Bk w qi 38 #[.int .u32 (fi:Int)]) (hqt:Bk w qt 38 #[.int .u32 (ti:Int)]) (n1:q≠p) (n2:qi≠p) (n3':qt≠p):
 Calls Tryz.prog 95 #[.pointer (some ⟨p,0,none⟩),.pointer (some ⟨q,0,none⟩),.pointer (some ⟨qi,0,none⟩),.pointer (some ⟨qt,0,none⟩)] w (jW (GW l fi ti) (BT l fi ti) p w):=by
 obtain⟨z,hz⟩:∃z,bA l fi ti=z:=⟨_,rfl⟩
 have bad:∀k:Nat,z=(DS,k)→∀w',Fr (aI p) w w'→jW (GW l fi ti) (BT l fi ti) p w (.panicked (cE k)) w':=fun k h w' hf=>⟨.inr ⟨_,⟨k,rfl,hz.trans h⟩,rfl⟩,hf⟩
 have HB:∀m w',l.length<m→m≤8→Fr (aI p) w w'→jW (GW l fi ti) (BT l fi ti) p w (.panicked (cE 1)) w':=fun m w' h h2 hf=>bad 1 (hz.symm.trans (wD l fi ti (by omega))) w' hf
 have hA:RA p l 0 w [(q,9,#[.string (bs l)]),(qi,38,#[.int .u32 (fi:Int)]),(qt,38,#[.int .u32 (ti:Int)])] w:=⟨by rw[List.drop_zero];exact hR,Fr.refl _ _,List.forall_mem_cons.2 ⟨⟨n1,hq⟩,List.forall_mem_cons.2 ⟨⟨n2,hqi⟩,List.forall_mem_cons.2 ⟨⟨n3',hqt⟩,List.forall_mem_nil _⟩⟩⟩⟩
 clear hR hq hqi hqt
 refine en Tryz.func95 Tryz.ntmps95 ?_
 refine W ?_
 refine sA ?_
 intro w1 hX f
 replace hA:=hA.new hX f
 clear hX f
 refine W ?_
 refine sR 2 (B7 hA (Nat.zero_le _) hl) ?_
 intro h2 w2 hA
 refine W ?_
 refine sR 4 (B7 hA h2 hl) ?_
 intro h4 w3 hA
 generalize hx1:num (sub l 0 2)=x1 at*
 generalize hx2:num (sub l 2 4)=x2 at*
 refine W ?_
 refine sA ?_
 intro w4 hG f
 refine W ?_
 refine sT ?_
 intro w5 hG f2
 have hg0:w.heap.size<w3.heap.size:=(hA.at_ 0).lt
 have hne:∀x∈[(w.heap.size,57,rdZ 3),(q,9,#[.string (bs l)]),(qi,38,#[.int .u32 (fi:Int)]),(qt,38,#[.int .u32 (ti:Int)])],x.1≠w3.heap.size:=fun x hx=>Nat.ne_of_lt (hA.bk x hx).2.lt
 replace hA:=hA.new hG (bP f (Nat.le_refl _) f2)
 clear hG f f2
 generalize w3.heap.size=g at*
 refine W ?_
 refine sR 6 (B7 hA h4 hl) ?_
 intro h6 w6 hA
 have n3:num (sub l 4 6)<65536:=xM ..
 generalize hx3:num (sub l 4 6)=x3 at*
 have e3:IntKind.i64.wrap (x3:Int)=x3:=IntWalk.i64_in _ ⟨by omega,by omega⟩
 refine W ?_
 refine sR 8 (B7 hA h6 hl) ?_
 intro h8 w7 hA
 have hy:=hz
 unfold bA at hz
 rw[if_neg (by omega),hx1,hx2,hx3]at hz
 clear hx1 hx2 hx3
 generalize num (sub l 6 8)=x4 at*
 refine W ?_
 refine sM (eA _ _ _) (fun h=> ?_) fun t4=> ?_
 ·exact⟨rfl,bad 2 (hz.symm.trans (if_pos (by omega))) _ hA.fr⟩
 rw[if_neg (by omega)]at hz
 have hq:=hA.at_ 2
 have hqi:=hA.at_ 3
 have hqt:=hA.at_ 4
 dsimp only at hq hqi hqt
 refine W ?_
 refine sM (eA _ _ _) (fun h=> ?_) fun t5=> ?_
 ·exact⟨rfl,bad 1 (hz.symm.trans (if_pos (by omega))) _ hA.fr⟩
 rw[if_neg (by omega)]at hz
 clear e3
 refine W ?_
 obtain⟨y,hy7⟩:∃y,Hid (y=w7):=⟨_,Lib.hid rfl⟩
 have f0:Fr noB y w7:=hy7.out▸Fr.refl _ _
 replace hA:=fun w' (f:Fr noB y w')=>hA.none (hy7.out▸f)
 refine cM [0,5,6,7] [] (fun w'=>¬(x4≠0∧eV (cU fi ti x3++sub l 0 x3)≠0)∧Fr noB y w') ?_ ?_
 ·refine dI (An hq (An hqi (An hqt f0))) [14] [0,1,2,3,4,5,7,8,9,6,10,11,12,13,14] (h:= ?_)
  clear hq hqi hqt f0
  intro w8 h8 _
  by_cases h0:x4=0
  ·refine D ?_
   refine dP (eU 6 w8) ?_
   rintro e w9 ⟨rfl,rfl⟩
   refine D ?_
   refine tN ?_
   exact mt ⟨fun h=>h.1 h0,h8.2.2.2⟩
  refine D ?_
  refine dC (BZ fi ti (x3:Int) w8 hfi hti (by omega) (by omega)) ?_ ?_
  ·intro w' fw
   exact⟨h8.1.keep fw id,h8.2.1.keep fw id,h8.2.2.1.keep fw id,h8.2.2.2.none fw⟩
  intro w9 _ h9
  rw[Int.toNat_natCast]
  clear h8
  refine D ?_
  refine dA2 (by infer_instance) h9 ?_
  intro w10 h10 hB _
  refine D ?_
  refine dC (mW (some ⟨w9.heap.size,0,none⟩) 2 (cU fi ti x3) (sub l 0 x3) w10 (SlR.of_bk hB (fun x=>x) rfl) (by simp[cU,aB]) (by have:=Ap l 0 x3;omega)) ?_ ?_
  ·rintro _ rfl
   exact h10
  rintro _ rfl _
  clear hB h9
  by_cases hc:eV (cU fi ti x3++sub l 0 x3)=0
  ·refine D ?_
   refine dP (eU 6 w10) ?_
   rintro e w11 ⟨rfl,rfl⟩
   refine D ?_
   refine tN ?_
   exact mt ⟨fun h=>h.2 hc,h10.2.2.2⟩
  ·refine D ?_
   refine dP (dH 6 w10) ?_
   rintro e w11 ⟨rfl,rfl⟩
   exact⟨rfl,bad 6 (hz.symm.trans (if_pos ⟨h0,hc⟩)) _ (hA _ h10.2.2.2).fr⟩
 clear hq hqi hqt f0
 rintro u w8 ⟨hor,f8⟩
 replace hA:=hA _ f8
 rw[if_neg hor]at hz
 have e8:IntKind.i64.wrap ((x3:Int)-8)=((x3-8:Nat):Int):=(IntWalk.i64_in _ ⟨by omega,by omega⟩).trans (by omega)
 refine W ?_
 refine sR x3 (qO (x3-8) hA h8 hl (by omega)) ?_ (hm:=by omega)
 intro _ w9 hA
 generalize sub l 8 x3=x5 at*
 refine W ?_
 refine sK (Dn ⟨x1,x2,x5⟩) (hA.at_ 0) ?_
 intro w10 hG f
 replace hA:=hA.put hG f (Nat.le_of_lt hg0) hne
 have hX:=hA.at_ 1
 refine W ?_
 refine sT ?_
 intro w11 hX f
 refine W ?_
 refine zC hX Tryz.underlying57 ?_
 exact⟨.inl ⟨_,⟨⟨x1,x2,x5⟩,rfl,hy.trans hz.symm⟩,rfl⟩,hA.fr.trans' f fun b hb e=>by have e':b=w.heap.size:=e;omega⟩
def Bu (l:List UInt8) (fi ti:Nat) (w:World) (e:Ending) (w':World):Prop:=e= .returned (.tuple #[.agg (Dn (bA l fi ti).1),.int .i64 ((bA l fi ti).2:Int)])∧Fr noB w w'
theorem IZ (l:List UInt8) (fi ti q qi qt:Nat) (w:World) (hfi:fi<4294967296) (hti:ti<4294967296) (hq:Bk w q 9 #[.string (bs l)]) (hqi:Bk w qi 38 #[.int .u32 (fi:Int)]) (hqt:Bk w qt 38 #[.int .u32 (ti:Int)]) (hl:l.length≤9223372036854775807):
 Calls Tryz.prog 94 #[.string (bs l),.func (.func 95) #[] #[.pointer (some ⟨q,0,none⟩),.pointer (some ⟨qi,0,none⟩),.pointer (some ⟨qt,0,none⟩)]] w (Bu l fi ti w):=by
 refine(GM 3 (by decide) l w 95 #[_,_,_] (GW l fi ti) (BT l fi ti) (by rintro c ⟨x,rfl,_⟩;exact⟨rfl,by kernel_rfl⟩) (fun p w1 hp hR hf=>Lw l fi ti hfi hti hl p q qi qt w1 hR (hq.keep hf (fun x=>x)) (hqi.keep hf (fun x=>x)) (hqt.keep hf (fun x=>x)) (by have:=hq.lt;omega) (by have:=hqi.lt;omega) (by have:=hqt.lt;omega))).mono ?_
 rintro e w' ⟨⟨c,⟨x,rfl,hx⟩,rfl⟩|⟨er,⟨k,rfl,hk⟩,rfl⟩,hf⟩
 ·exact⟨by rw[hx];rfl,hf⟩
 ·exact⟨by rw[hk];rfl,hf⟩
end Go.Proofs.YtcbkaiakdhiloacGreatDoor
namespace Go.Proofs.YtcbkaiakdhiloacGreatDoor
theorem qZ:∀(a b:List UInt8) (o:Bool),lG o (a++b)=lG o a+lG (if a.length%2=0 then o else !o) b
 |[],b,o=>by cases o<;>simp[lG]
 |x::r,b,o=>by
  have h:=qZ r b (!o)
  have e:(if r.length%2=0 then !o else !!o)=(if(x::r).length%2=0 then o else !o):=by
   rw[List.length_cons]
   rcases Nat.mod_two_eq_zero_or_one r.length with h|h
   ·rw[if_pos h,if_neg (by omega)]
   ·rw[if_neg (by omega),if_pos (by omega),Bool.not_not]
  rw[e]at h
  cases o
  ·have h':lG true (r++b)=_:=h
   simp only[List.cons_append,lG]
   rw[h']
   exact(Nat.add_assoc _ _ _).symm
  ·have h':lG false (r++b)=_:=h
   simp only[List.cons_append,lG]
   rw[h']
   exact(Nat.add_assoc _ _ _).symm
theorem gH (a b:List UInt8) (h:a.length%2=0):lG false (a++b)=lG false a+lG false b:=by rw[qZ,if_pos h]
theorem oC (l:List UInt8):eV l=0↔0<lG false l∧lG false l%65535=0:=by
 unfold eV Ax
 generalize lG false l=t
 split
 ·omega
 ·constructor
  ·intro h;omega
  ·rintro⟨h1,h2⟩;omega
theorem zR (x:Nat) (h:x<65536):lG false (big 2 x)=x:=by
 simp only[big,List.nil_append,List.cons_append,lG,UInt8.toNat_ofNat']
 omega
theorem uQ (a b:List UInt8) (ha:a.length%2=0):eV (a++big 2 (eV (a++[0,0]++b))++b)=0:=by
 have h0:lG false (a++[0,0]++b)=lG false a+lG false b:=by
  rw[gH _ _ (by simp;omega),gH _ _ ha];simp[lG]
 have hc:=vL (a++[0,0]++b)
 rw[oC,gH _ _ (by simp[aB];omega),gH _ _ ha,zR _ (by omega)]
 have e:eV (a++[0,0]++b)=65535-Ax (lG false a+lG false b):=by unfold eV;rw[h0]
 rw[e]
 unfold Ax
 split<;>omega
theorem AA (a b:List UInt8) (ha:a.length%2=0) (h:eV (a++[0,0]++b)=0):eV (a++big 2 65535++b)=0:=by
 have h0:lG false (a++[0,0]++b)=lG false a+lG false b:=by
  rw[gH _ _ (by simp;omega),gH _ _ ha];simp[lG]
 rw[oC,h0]at h
 rw[oC,gH _ _ (by simp[aB];omega),gH _ _ ha,zR _ (by omega)]
 omega
theorem cA:∀n x,x<256^n→num (big n x)=x
 |0,x,h=>by simp at h;subst h;rfl
 |n+1,x,h=>by
  rw[big,Co,cA n (x/256) (by rw[Nat.pow_succ]at h;exact Nat.div_lt_of_lt_mul (by omega)),UInt8.toNat_ofNat']
  omega
end Go.Proofs.YtcbkaiakdhiloacGreatDoor
namespace Go.Proofs.YtcbkaiakdhiloacGreatDoor
structure bK where
 code:UInt8
 data:List UInt8
def lR:Nat→UInt8→List UInt8→List UInt8
 |0,c,d=>[c,UInt8.ofNat d.length]++d
 |n+1,c,d=>if d.length≤255 then [c,UInt8.ofNat d.length]++d else [c,255]++d.take 255++lR n c (d.drop 255)
def kB (c:UInt8) (d:List UInt8):List UInt8:=lR d.length c d
theorem xZ:∀(n m:Nat) (c:UInt8) (d:List UInt8),d.length≤n→d.length≤m→lR n c d=lR m c d
 |0,0,_,_,_,_=>rfl
 |0,m+1,c,d,h,_=>by
  have:d=[]:=List.eq_nil_of_length_eq_zero (by omega)
  subst this;simp[lR]
 |n+1,0,c,d,_,h=>by
  have:d=[]:=List.eq_nil_of_length_eq_zero (by omega)
  subst this;simp[lR]
 |n+1,m+1,c,d,h1,h2=>by
  simp only[lR]
  split
  ·rfl
  ·rename_i h
   rw[xZ n m c (d.drop 255) (by rw[List.length_drop];omega) (by rw[List.length_drop];omega)]
theorem fK (c:UInt8) (d:List UInt8) (h:d.length≤255):kB c d=[c,UInt8.ofNat d.length]++d:=by
 unfold kB
 cases hd:d.length with
 |zero=>simp[lR,hd]
 |succ n=>simp only[lR];rw[if_pos h,hd]
theorem nF (c:UInt8) (d:List UInt8) (h:255<d.length):kB c d=[c,255]++d.take 255++kB c (d.drop 255):=by
 unfold kB
 obtain⟨n,hn⟩:∃n,d.length=n+1:=⟨d.length-1,by omega⟩
 rw[hn]
 simp only[lR]
 rw[if_neg (by omega),xZ n (d.drop 255).length c (d.drop 255) (by rw[List.length_drop];omega) (Nat.le_refl _)]
def uK (l:List UInt8) (n:Nat):List UInt8:=l++List.replicate (n-l.length) 0
def lW (o:bK):Bool:=o.code==0||o.code==255||o.code==52
def eD (reply:Bool) (xid client yours next:Nat) (mac:List UInt8):List UInt8:=
 uK ([if reply then 2 else 1,1,6,0]++big 4 xid++[0,0]++(if client=0 then [128,0]else [0,0])++big 4 client++big 4 yours++big 4 next++big 4 0++mac) 236++[99,130,83,99]
def iB (head:List UInt8) (os:List bK):List UInt8:=uK (head++os.flatMap (fun o=>kB o.code o.data)++[255]) 300
def fP (reply:Bool) (xid client yours next:Nat) (mac:List UInt8) (os:List bK):List UInt8×Nat:=
 if os.any lW then([],2)
 else if 1472<(iB (eD reply xid client yours next mac) os).length then([],7)
 else(iB (eD reply xid client yours next mac) os,0)
theorem mZ (l:List UInt8) (n:Nat):(uK l n).length=max l.length n:=by unfold uK;simp;omega
theorem lS (reply:Bool) (xid client yours next:Nat) (mac:List UInt8) (hm:mac.length=6):(eD reply xid client yours next mac).length=240:=by
 unfold eD
 rw[List.length_append,mZ]
 by_cases hc:client=0<;>cases reply<;>simp[hc,aB,hm]
def fQ:List bK→UInt8→List UInt8→List bK
 |[],c,d=>[⟨c,d⟩]
 |o::r,c,d=>if o.code=c then⟨o.code,o.data++d⟩::r else o::fQ r c d
def eF:List bK→UInt8→Option (List UInt8)
 |[],_=>none
 |o::r,c=>if o.code=c then some o.data else eF r c
def iM:Nat→List bK→List UInt8→Option (List bK)
 |0,_,_=>none
 |_+1,_,[]=>none
 |n+1,os,c::r=>
  if c=255 then some os
  else if c=0 then iM n os r
  else match r with
   |[]=>none
   |k::r=>if r.length<k.toNat then none else iM n (fQ os c (r.take k.toNat)) (r.drop k.toNat)
end Go.Proofs.YtcbkaiakdhiloacGreatDoor
namespace Go.Proofs.YtcbkaiakdhiloacGreatDoor
theorem kF:∀(n m:Nat) (os:List bK) (l:List UInt8),l.length<n→l.length<m→iM n os l=iM m os l
 |0,_,_,_,h,_=>absurd h (Nat.not_lt_zero _)
 |_,0,_,_,_,h=>absurd h (Nat.not_lt_zero _)
 |n+1,m+1,os,[],_,_=>rfl
 |n+1,m+1,os,c::r,h1,h2=>by
  simp only[List.length_cons]at h1 h2
  simp only[iM]
  split
  ·rfl
  ·split
   ·exact kF n m os r (by omega) (by omega)
   ·cases r with
    |nil=>rfl
    |cons k r=>
     simp only[List.length_cons]at h1 h2
     simp only
     split
     ·rfl
     ·exact kF n m _ _ (by rw[List.length_drop];omega) (by rw[List.length_drop];omega)
theorem gI (n:Nat) (os:List bK) (c:UInt8) (r:List UInt8):iM (n+1) os (c::r)=
 (if c=255 then some os
 else if c=0 then iM n os r
 else match r with
  |[]=>none
  |k::r=>if r.length<k.toNat then none else iM n (fQ os c (r.take k.toNat)) (r.drop k.toNat)):=rfl
def eG (os:List bK) (l:List UInt8):Option (List bK):=iM (l.length+1) os l
theorem xJ (os:List bK) (r:List UInt8):eG os (255::r)=some os:=rfl
theorem DJ (os:List bK) (r:List UInt8):eG os (0::r)=eG os r:=by
 unfold eG
 rw[List.length_cons,gI,if_neg (by decide),if_pos rfl]
theorem DF (os:List bK) (c:UInt8) (h1:c≠255) (h2:c≠0):eG os [c]=none:=by
 unfold eG
 rw[List.length_cons,gI,if_neg h1,if_neg h2]
theorem Bh (os:List bK) (c k:UInt8) (r:List UInt8) (h1:c≠255) (h2:c≠0) (h:r.length<k.toNat):eG os (c::k::r)=none:=by
 unfold eG
 rw[List.length_cons,gI,if_neg h1,if_neg h2]
 exact if_pos h
theorem xO (os:List bK) (c k:UInt8) (r:List UInt8) (h1:c≠255) (h2:c≠0) (h:¬r.length<k.toNat):
 eG os (c::k::r)=eG (fQ os c (r.take k.toNat)) (r.drop k.toNat):=by
 unfold eG
 rw[List.length_cons,gI,if_neg h1,if_neg h2]
 refine(if_neg h).trans ?_
 exact kF _ _ _ _ (by rw[List.length_drop,List.length_cons];omega) (by omega)
structure sI where
 reply:Bool
 xid:Nat
 client:Nat
 yours:Nat
 next:Nat
 mac:Mac
 os:List bK
def Ic:sI:=⟨false,0,0,0,0,(0,0,0,0,0,0),[]⟩
def iI (os:List bK) (name file:List UInt8):List bK×Nat:=
 match eF os 52 with
 |none=>(os,0)
 |some [x]=>
  if x.toNat<1∨3<x.toNat then([],2)
  else match (if x.toNat%2=1 then eG (os.filter (fun o=> !(o.code==52))) file else some (os.filter (fun o=> !(o.code==52))))with
  |none=>([],1)
  |some a=>match (if 2≤x.toNat then eG a name else some a)with
   |none=>([],1)
   |some a=>if(eF a 52).isSome then([],2)else(a,0)
 |some _=>([],2)
def aQ (l:List UInt8):sI×Nat:=
 if l.length<240 then(Ic,1)
 else if ¬((sub l 0 1=[1]∨sub l 0 1=[2])∧sub l 1 3=[1,6]∧sub l 236 240=[99,130,83,99])then(Ic,2)
 else match eG [] (l.drop 240)with
 |none=>(Ic,1)
 |some os=>match iI os (sub l 44 108) (sub l 108 236)with
  |(a,0)=>(⟨sub l 0 1==[2],num (sub l 4 8),num (sub l 12 16),num (sub l 16 20),num (sub l 20 24),lF (l.drop 28),a⟩,0)
  |(_,e+1)=>(Ic,e+1)
end Go.Proofs.YtcbkaiakdhiloacGreatDoor
namespace Go.Proofs.YtcbkaiakdhiloacGreatDoor
def iH (x:UInt32) (n:Nat):UInt32:=UInt32.ofNat ((x.toNat/2^n)|||(x.toNat*2^(32-n))%4294967296)
theorem Dt (x:UInt32) (n:Nat):(iH x n).toNat=(x.toNat/2^n)|||(x.toNat*2^(32-n))%4294967296:=by
 have hx:=x.toNat_lt
 unfold iH
 rw[UInt32.toNat_ofNat']
 apply Nat.mod_eq_of_lt
 apply Nat.or_lt_two_pow (n:=32)
 ·exact Nat.lt_of_le_of_lt (Nat.div_le_self _ _) hx
 ·omega
def shr (x:UInt32) (n:Nat):UInt32:=UInt32.ofNat (x.toNat/2^n)
theorem zQ (x:UInt32) (n:Nat):(shr x n).toNat=x.toNat/2^n:=by
 have hx:=x.toNat_lt
 unfold shr
 rw[UInt32.toNat_ofNat']
 exact Nat.mod_eq_of_lt (Nat.lt_of_le_of_lt (Nat.div_le_self _ _) hx)
def sg0 (x:UInt32):UInt32:=iH x 7^^^iH x 18^^^shr x 3
def sg1 (x:UInt32):UInt32:=iH x 17^^^iH x 19^^^shr x 10
def bg0 (x:UInt32):UInt32:=iH x 2^^^iH x 13^^^iH x 22
def bg1 (x:UInt32):UInt32:=iH x 6^^^iH x 11^^^iH x 25
def chs (e f g:UInt32):UInt32:=(e&&&f)^^^(~~~e&&&g)
def maj (a b c:UInt32):UInt32:=(a&&&b)^^^(a&&&c)^^^(b&&&c)
def CR (w:List UInt32):UInt32:=w.getD (w.length-16) 0+sg0 (w.getD (w.length-15) 0)+w.getD (w.length-7) 0+sg1 (w.getD (w.length-2) 0)
def Am (w:List UInt32):Nat→List UInt32
 |0=>w
 |k+1=>Am w k++[CR (Am w k)]
theorem pC (w:List UInt32):∀k,(Am w k).length=w.length+k
 |0=>rfl
 |k+1=>by simp[Am,pC w k];omega
def wd (a b c d:UInt8):UInt32:=UInt32.ofNat (a.toNat*16777216+b.toNat*65536+c.toNat*256+d.toNat)
theorem GT (a b c d:UInt8):(wd a b c d).toNat=a.toNat*16777216+b.toNat*65536+c.toNat*256+d.toNat:=by
 have:=a.toNat_lt;have:=b.toNat_lt;have:=c.toNat_lt;have:=d.toNat_lt
 unfold wd;rw[UInt32.toNat_ofNat'];omega
def fV (b:List UInt8) (k:Nat):List UInt32:=(List.range k).map fun i=>wd (b.getD (4*i) 0) (b.getD (4*i+1) 0) (b.getD (4*i+2) 0) (b.getD (4*i+3) 0)
theorem lT (b:List UInt8) (k:Nat):(fV b k).length=k:=by simp[fV]
theorem Ae (b:List UInt8) (k:Nat):fV b (k+1)=fV b k++[wd (b.getD (4*k) 0) (b.getD (4*k+1) 0) (b.getD (4*k+2) 0) (b.getD (4*k+3) 0)]:=by
 simp[fV,List.range_succ]
structure S8 where
 a:UInt32
 b:UInt32
 c:UInt32
 d:UInt32
 e:UInt32
 f:UInt32
 g:UInt32
 h:UInt32
def S8.list (v:S8):List UInt32:=[v.a,v.b,v.c,v.d,v.e,v.f,v.g,v.h]
def rnd (v:S8) (k w:UInt32):S8:=
 ⟨(v.h+bg1 v.e+chs v.e v.f v.g+k+w)+(bg0 v.a+maj v.a v.b v.c),v.a,v.b,v.c,v.d+(v.h+bg1 v.e+chs v.e v.f v.g+k+w),v.e,v.f,v.g⟩
def rD:List UInt32:=[
 0x428a2f98,0x71374491,0xb5c0fbcf,0xe9b5dba5,0x3956c25b,0x59f111f1,0x923f82a4,0xab1c5ed5,
 0xd807aa98,0x12835b01,0x243185be,0x550c7dc3,0x72be5d74,0x80deb1fe,0x9bdc06a7,0xc19bf174,
 0xe49b69c1,0xefbe4786,0x0fc19dc6,0x240ca1cc,0x2de92c6f,0x4a7484aa,0x5cb0a9dc,0x76f988da,
 0x983e5152,0xa831c66d,0xb00327c8,0xbf597fc7,0xc6e00bf3,0xd5a79147,0x06ca6351,0x14292967,
 0x27b70a85,0x2e1b2138,0x4d2c6dfc,0x53380d13,0x650a7354,0x766a0abb,0x81c2c92e,0x92722c85,
 0xa2bfe8a1,0xa81a664b,0xc24b8b70,0xc76c51a3,0xd192e819,0xd6990624,0xf40e3585,0x106aa070,
 0x19a4c116,0x1e376c08,0x2748774c,0x34b0bcb5,0x391c0cb3,0x4ed8aa4a,0x5b9cca4f,0x682e6ff3,
 0x748f82ee,0x78a5636f,0x84c87814,0x8cc70208,0x90befffa,0xa4506ceb,0xbef9a3f7,0xc67178f2]
def h0:S8:=⟨0x6a09e667,0xbb67ae85,0x3c6ef372,0xa54ff53a,0x510e527f,0x9b05688c,0x1f83d9ab,0x5be0cd19⟩
def GC (v:S8) (ws:List UInt32):Nat→S8
 |0=>v
 |k+1=>rnd (GC v ws k) (rD.getD k 0) (ws.getD k 0)
def S8.add (x y:S8):S8:=⟨x.a+y.a,x.b+y.b,x.c+y.c,x.d+y.d,x.e+y.e,x.f+y.f,x.g+y.g,x.h+y.h⟩
def blk (h:S8) (b:List UInt8):S8:=h.add (GC h (Am (fV b 16) 48) 64)
def jP:Nat→S8→List UInt8→S8×List UInt8
 |0,h,l=>(h,l)
 |n+1,h,l=>jP n (blk h (l.take 64)) (l.drop 64)
def kC (h:S8) (l:List UInt8):S8×List UInt8:=jP (l.length/64) h l
theorem uH:∀n h l,(jP n h l).2=l.drop (64*n)
 |0,h,l=>by simp[jP]
 |n+1,h,l=>by rw[jP,uH n,List.drop_drop];congr 1;omega
theorem oX:∀n h (l r:List UInt8),64*n≤l.length→jP n h (l++r)=((jP n h l).1,(jP n h l).2++r)
 |0,h,l,r,_=>rfl
 |n+1,h,l,r,hl=>by
  rw[jP,jP,List.take_append_of_le_length (by omega),List.drop_append_of_le_length (by omega),oX n _ _ _ (by rw[List.length_drop];omega)]
theorem xU:∀m n h l,jP (m+n) h l=jP n (jP m h l).1 (jP m h l).2
 |0,n,h,l=>by simp[jP]
 |m+1,n,h,l=>by rw[show m+1+n=(m+n)+1 by omega,jP,jP,xU m n]
theorem rJ (h:S8) (l:List UInt8):(kC h l).2=l.drop (64*(l.length/64)):=uH _ _ _
theorem C8 (h:S8) (l:List UInt8) (hl:l.length<64):kC h l=(h,l):=by
 unfold kC;rw[Nat.div_eq_of_lt hl];rfl
theorem Gl (h:S8) (l:List UInt8) (hl:64≤l.length):kC h l=kC (blk h (l.take 64)) (l.drop 64):=by
 unfold kC;rw[show l.length/64=(l.drop 64).length/64+1 by rw[List.length_drop];omega];rfl
theorem Bp (h:S8) (l r:List UInt8):kC h (l++r)=kC (kC h l).1 ((kC h l).2++r):=by
 have h1:(l++r).length/64=l.length/64+((kC h l).2++r).length/64:=by
  rw[List.length_append,List.length_append,rJ,List.length_drop];omega
 have h2:=oX (l.length/64) h l r (by omega)
 show jP ((l++r).length/64) h (l++r)=jP (((kC h l).2++r).length/64) (kC h l).1 ((kC h l).2++r)
 rw[h1,xU,h2];rfl
def Gd (v:S8):List UInt8:=v.list.flatMap fun x=>big 4 x.toNat
def yE (l:List UInt8):List UInt8:=l++[128]++List.replicate ((119-l.length%64)%64) 0
def lD (l:List UInt8):List UInt8:=yE l++big 8 (8*l.length)
def sha (l:List UInt8):List UInt8:=Gd (kC h0 (lD l)).1
theorem Gm (l:List UInt8) (k:Nat) (hk:(l++List.replicate k (0:UInt8)).length%64=56) (hmin:∀j,j<k→(l.length+j)%64≠56):l++List.replicate k 0=l++List.replicate ((120-l.length%64)%64) 0:=by
 congr 2
 simp at hk
 rcases Nat.lt_trichotomy k ((120-l.length%64)%64)with h|h|h
 ·omega
 ·exact h
 ·exact absurd (by omega:(l.length+(120-l.length%64)%64)%64=56) (hmin _ h)
end Go.Proofs.YtcbkaiakdhiloacGreatDoor
namespace Go.Proofs.YtcbkaiakdhiloacGreatDoor
open Go.RowKit Go.Proofs
theorem Lz (x:UInt32):(x.toNat:Int)/8=((shr x 3).toNat:Int):=by rw[zQ];omega
theorem K7 (x:UInt32):(x.toNat:Int)/1024=((shr x 10).toNat:Int):=by rw[zQ];omega
theorem Ln (a b:UInt32):((a.toNat:Int)+(b.toNat:Int))%4294967296=((a+b).toNat:Int):=by
 rw[UInt32.toNat_add];omega
theorem AM (l:List UInt32) (k:Nat) (hk:k<l.length):l[k]? =some (l.getD k 0):=by
 rw[List.getD_eq_getElem?_getD,List.getElem?_eq_getElem hk];rfl
def wsN (b:List UInt8) (i:Nat):List UInt32:=if i≤16 then fV b i else Am (fV b 16) (i-16)
theorem oE (b:List UInt8) (i:Nat):(wsN b i).length=i:=by
 unfold wsN;split
 ·exact lT b i
 ·rw[pC,lT];omega
theorem KE (b:List UInt8) (i:Nat) (h:i<16):wsN b (i+1)=wsN b i++[wd (b.getD (4*i) 0) (b.getD (4*i+1) 0) (b.getD (4*i+2) 0) (b.getD (4*i+3) 0)]:=by
 unfold wsN;rw[if_pos (by omega),if_pos (by omega),Ae]
theorem JQ (b:List UInt8) (i:Nat) (h:16≤i):wsN b (i+1)=wsN b i++[CR (wsN b i)]:=by
 have e:wsN b i=Am (fV b 16) (i-16):=by
  unfold wsN;split
  ·obtain rfl:i=16:=by omega
   rfl
  ·rfl
 rw[e];unfold wsN;rw[if_neg (by omega),show i+1-16=(i-16)+1 by omega];rfl
theorem IF (b:List UInt8):wsN b 64=Am (fV b 16) 48:=rfl
theorem S8.list_length (v:S8):v.list.length=8:=rfl
def Ge (x y:S8) (i:Nat):List UInt32:=((x.add y).list.take i)++(x.list.drop i)
theorem Fd (x y:S8):Ge x y 0=x.list:=by simp[Ge]
theorem FU (x y:S8):Ge x y 8=(x.add y).list:=rfl
theorem DG (x y:S8):∀i,i<8→∃a b,(Ge x y i)[i]? =some a∧y.list[i]? =some b∧Ge x y (i+1)=(Ge x y i).set i (a+b):=by
 intro i hi
 match i,hi with
 |0,_=>exact⟨_,_,rfl,rfl,rfl⟩
 |1,_=>exact⟨_,_,rfl,rfl,rfl⟩
 |2,_=>exact⟨_,_,rfl,rfl,rfl⟩
 |3,_=>exact⟨_,_,rfl,rfl,rfl⟩
 |4,_=>exact⟨_,_,rfl,rfl,rfl⟩
 |5,_=>exact⟨_,_,rfl,rfl,rfl⟩
 |6,_=>exact⟨_,_,rfl,rfl,rfl⟩
 |7,_=>exact⟨_,_,rfl,rfl,rfl⟩
theorem yU (u:List UInt8):fV (u.take 64) 16=fV u 16:=by
 unfold fV
 apply List.map_congr_left
 intro i hi
 have hi2:i<16:=by simpa using hi
 have h:∀k,k<64→(u.take 64).getD k 0=u.getD k 0:=by
  intro k hk
  rw[List.getD_eq_getElem?_getD,List.getD_eq_getElem?_getD,List.getElem?_take,if_pos hk]
 rw[h _ (by omega),h _ (by omega),h _ (by omega),h _ (by omega)]
theorem Jx (H:S8) (u:List UInt8):blk H (u.take 64)=H.add (GC H (wsN u 64) 64):=by
 rw[blk,yU,IF]
theorem I5 (n j:Nat):(n:Int)/2^(8*j)%256=((UInt8.ofNat (n/256^j)).toNat:Int):=by
 rw[UInt8.toNat_ofNat',show(2:Int)^(8*j)=((2^(8*j):Nat):Int) by simp,show(256:Nat)^j=2^(8*j) by rw[show(256:Nat)=2^8 from rfl,←Nat.pow_mul]]
 omega
end Go.Proofs.YtcbkaiakdhiloacGreatDoor
namespace Go.Proofs.YtcbkaiakdhiloacGreatDoor
open Go.RowKit Go.Proofs
structure bD where
 ip:Nat
 card:Mac
 known:Bool
 due:Int
 asked:Int
 waits:List UInt8
structure JG where
 card:Mac
 name:List UInt8
 cap:Nat
 digest:List UInt8
 block:Nat
 window:Nat
 rx:Nat
 tx:Nat
structure St where
 c:JG
 rx:List (List UInt8)
 tx:List (List UInt8)
 now:Int
 draw:Nat
 boots:Int
 lost:Int
 id:Nat
 cache:List bD
 lease:Nat
 xid:Nat
 addr:Nat
 mask:Nat
 router:Nat
 server:Nat
 source:Nat
 t1:Int
 t2:Int
 untl:Int
 lagain:Int
 lsends:Nat
 phase:Nat
 port:Nat
 peer:Nat
 block:Nat
 wind:Nat
 next:Nat
 came:Int
 tagain:Int
 tsends:Nat
 goal:Nat
 last:List UInt8
 image:List UInt8
def iS:Mac:=(0,0,0,0,0,0)
def lE:Mac:=(255,255,255,255,255,255)
def wN:Nat→Nat→List UInt8
 |0,_=>[]
 |f+1,n=>if n<10 then [UInt8.ofNat (48+n)]else wN f (n/10)++[UInt8.ofNat (48+n%10)]
def dec (n:Nat):List UInt8:=wN (n+1) n
def vW (l:List UInt8):Option Nat:=
 if l.length<1∨7<l.length∨(1<l.length∧l[0]? =some 48)then none
 else if l.all fun c=>decide (48≤c.toNat)&&decide (c.toNat≤57)then some (l.foldl (fun n c=>10*n+(c.toNat-48)) 0)else none
def IV (x:Nat):List Nat→List Nat
 |[]=>[x]
 |y::r=>if x≤y then x::y::r else y::IV x r
def lL:List Nat→List Nat
 |[]=>[]
 |x::r=>IV x (lL r)
def oT (l:List bD) (ip:Nat):Option bD:=l.find? fun e=>e.ip==ip
def iO (a b:bD):Bool:=decide (a.due<b.due)||(decide (a.due=b.due)&&decide (a.ip<b.ip))
def LU (l:List bD):Nat→Nat→Nat
 |k,i=>match l[k]?,l[i]? with
  |some a,some b=>if iO a b then k else i
  |_,_=>i
def xB:List bD→bD→bD
 |[],b=>b
 |a::r,b=>xB r (if iO a b then a else b)
def enter (l:List bD) (e:bD):List bD:=
 if l.length<4 then l++[e]else match l with
  |[]=>[e]
  |b::r=>l.map fun x=>if x.ip=(xB r b).ip then e else x
def bY (l:List bD) (ip:Nat) (f:bD→bD):List bD:=l.map fun e=>if e.ip=ip then f e else e
namespace St
def address (s:St):Nat:=if 4≤s.lease then s.addr else 0
def over (s:St):Bool:=s.phase==3||s.phase==4
def wait (s:St) (k:Nat):Int:=((2*2^k+s.draw%3:Nat):Int)-1
def put (s:St) (f:List UInt8):St×Bool:=if s.rx.length=s.c.rx then(s,false)else({s with rx:=s.rx++[f]},true)
def take (s:St):St×Option (List UInt8):=match s.tx with
 |[]=>(s,none)
 |f::r=>({s with tx:=r},some f)
def drop (s:St):St:=⟨s.c,s.rx,s.tx,s.now,s.draw,s.boots,s.lost,s.id,[],0,0,0,0,0,0,0,0,0,0,0,0,0,0,0,0,0,0,0,0,0,0,[],[]⟩
def fail (s:St):St:=
 let t:={s.drop with boots:=wrap64 (s.boots+1)}
 if wrap64 (s.boots+1)=3 then {t with phase:=4}else t
def send (s:St) (dst:Mac) (kind:Nat) (load:List UInt8):St:=
 if s.tx.length=s.c.tx then {s with lost:=wrap64 (s.lost+1)}else {s with tx:=s.tx++[(aT dst s.c.card kind load).1]}
def arp (s:St) (op:Nat) (dst whose:Mac) (fm ip:Nat):St:=s.send dst 2054 (gQ op s.c.card fm whose ip).1
def ask (s:St) (fm ip:Nat):St:=s.arp 1 lE iS fm ip
def packet (s:St) (dst fm port:Nat) (load:List UInt8):List UInt8:=(vC (s.id%65536) 64 17 s.address dst (jC fm port s.address dst load).1).1
def took (s:St):St:={s with id:=s.id+1}
def hop (s:St) (dst:Nat):Nat:=if s.router≠0∧dst&&&s.mask≠s.addr&&&s.mask then s.router else dst
def udp (s:St) (dst fm port:Nat) (load:List UInt8):St:=
 let p:=s.packet dst fm port load
 let h:=s.hop dst
 match oT s.cache h with
 |none=>{s.took with cache:=enter s.cache ⟨h,iS,false,wrap64 (s.now+2),1,p⟩}.ask s.addr h
 |some e=>if e.known then s.took.send e.card 2048 p else {s.took with cache:=bY s.cache h fun e=>{e with waits:=p}}
def keepE (now:Int) (e:bD):Option bD:=
 if now<e.due then some e else if e.known||decide (e.asked=3)then none else some {e with asked:=wrap64 (e.asked+1),due:=wrap64 (e.due+2)}
def asksE (now:Int) (e:bD):Bool:= !decide (now<e.due)&& !(e.known||decide (e.asked=3))
def neighbours (s:St):St:=
 (lL ((s.cache.filter (asksE s.now)).map (·.ip))).foldl (fun t ip=>t.ask t.address ip) {s with cache:=s.cache.filterMap (keepE s.now)}
def msgO (kind:UInt8) (os:List bK):List bK:=[⟨53,[kind]⟩]++os++(if kind=4 then []else [⟨55,[1,3,51,54,58,59]⟩])
def msg (s:St) (kind:UInt8) (os:List bK):List UInt8:=(fP false s.xid s.address 0 0 (dO s.c.card) (msgO kind os)).1
def say (s:St) (kind:UInt8) (alone:Bool) (os:List bK):St:=
 if alone then s.udp s.server 68 67 (s.msg kind os)else s.took.send lE 2048 (s.packet 4294967295 68 67 (s.msg kind os))
def both (s:St):List bK:=[⟨50,big 4 s.addr⟩,⟨54,big 4 s.server⟩]
def asks (s:St):St:=if s.lease=1 then s.say 1 false []else s.say 3 false s.both
def goes (s:St) (l:Nat):St:={s with lease:=l,lsends:=1,lagain:=wrap64 (s.now+s.wait 0)}.asks
def tell (s:St):St:=s.udp s.source s.port s.goal s.last
def waits (s:St) (m:tK):St:={s with last:=(bU m).1,goal:=if s.phase=1 then 69 else s.peer,tsends:=1,tagain:=wrap64 (s.now+s.wait 0)}
def bNm:List UInt8:=[98,108,107,115,105,122,101]
def wNm:List UInt8:=[119,105,110,100,111,119,115,105,122,101]
def tNm:List UInt8:=[116,115,105,122,101]
def read (s:St):St:=
 ({s with phase:=1,port:=1024+s.draw%60000,peer:=0,block:=512,wind:=1,next:=1,came:=0,image:=[]}.waits
  ⟨1,0,s.c.name,[],[⟨bNm,dec s.c.block⟩,⟨wNm,dec s.c.window⟩,⟨tNm,[48]⟩]⟩).tell
def got (s:St):St:={s.waits ⟨4,(s.next+65535)%65536,[],[],[]⟩with came:=0}.tell
def wrong (s:St) (port code:Nat) (text:List UInt8):St:=s.udp s.source s.port port (bU ⟨5,code,text,[],[]⟩).1
def leases (s:St):St:=
 if s.lease=0 then {s with xid:=s.draw}.goes 1
 else if s.lease=1∨s.lease=2 then
  if s.now<s.lagain then s else if s.lsends=4 then s.fail else {s with lagain:=wrap64 (s.now+s.wait s.lsends),lsends:=s.lsends+1}.asks
 else if s.lease=3 then if s.now<s.lagain then s else {s with lease:=4}.read
 else if s.untl=0 then s
 else if s.untl≤s.now then s.drop
 else
  let l:=if s.t2≤s.now then 6 else if s.t1≤s.now∧s.lease=4 then 5 else s.lease
  if l≠4∧(l≠s.lease∨s.lagain≤s.now)then {s with lease:=l,lagain:=wrap64 (s.now+8)}.say 3 (l==5) []else {s with lease:=l}
def busy (s:St):Bool:=s.phase==1||s.phase==2
def again (s:St):St:=
 if s.busy=false∨s.now<s.tagain then s
 else if s.tsends=4 then s.fail
 else {s with tagain:=wrap64 (s.now+s.wait s.tsends),tsends:=s.tsends+1}.tell
def tick (s:St) (draw:Nat):St:=
 let s:={s with now:=wrap64 (s.now+1),draw:=draw}
 if s.over then s else s.neighbours.leases.again
def decline (s:St):St:=(s.say 4 false s.both).fail
def learn (s:St) (a:Di) (mine:Bool):St:=
 let e:bD:=⟨a.fi,a.fm,true,wrap64 (s.now+60),0,[]⟩
 match oT s.cache a.fi with
 |some o=>let t:={s with cache:=bY s.cache a.fi fun _=>e}
  if o.waits=[]then t else t.send a.fm 2048 o.waits
 |none=>if mine then {s with cache:=enter s.cache e}else s
def asked (s:St) (a:Di):Bool:=s.address !=0&&a.ti==s.address&&a.op==1
def arped (s:St) (a:Di):St:=
 if s.lease=3∧a.fi=s.addr∧a.fm≠s.c.card then s.decline
 else
  let m:=s.asked a
  let t:=if a.fi≠0∧a.fi≠s.address then s.learn a m else s
  if m then t.arp 2 a.fm a.fm t.address a.fi else t
def number (os:List bK) (code:UInt8):Option Nat:=match eF os code with
 |some d=>if d.length=4 then some (num d)else none
 |none=>none
def routerOf (os:List bK):Option Nat:=match eF os 3 with
 |some d=>if 4≤d.length then some (num (d.take 4))else none
 |none=>none
def times (s:St) (d:sI) (time:Nat):St:=
 if time=4294967295 then {s with t1:=0,t2:=0,untl:=0}
 else
  let p:=match number d.os 58,number d.os 59 with
   |some x,some y=>if x<y∧y<time then(x,y)else(time/2,time/8*7)
   |_,_=>(time/2,time/8*7)
  {s with t1:=wrap64 (s.now+p.1),t2:=wrap64 (s.now+p.2),untl:=wrap64 (s.now+time)}
def granted (s:St) (d:sI) (fm:Nat):St:=
 match number d.os 51 with
 |none=>s
 |some time=>
  if ¬(s.lease=2∨s.lease=5∨s.lease=6)∨time=0∨d.yours≠s.addr then s
  else
   let t:=({s with server:=fm,mask:=(number d.os 1).getD 4294967295,router:=(routerOf d.os).getD 0,source:=if d.next≠0 then d.next else fm}).times d time
   if s.lease=2 then {t with lease:=3,lagain:=wrap64 (s.now+2)}.ask 0 s.addr else {t with lease:=4}
def leased (s:St) (d:sI):St:=
 match eF d.os 53,number d.os 54 with
 |some [k],some fm=>
  if k=2 then if s.lease=1∧d.yours≠0 then {s with addr:=d.yours,server:=fm}.goes 2 else s
  else if k=5 then if fm=s.server∨s.lease=6 then s.granted d fm else s
  else if k=6 then if(fm=s.server∨s.lease=6)∧2≤s.lease∧s.lease≠3 then s.drop else s
  else s
 |_,_=>s
def eSize:List UInt8:=[115,105,122,101]
def ePort:List UInt8:=[112,111,114,116]
def eOpt:List UInt8:=[111,112,116,105,111,110]
def agree (port:Nat):List eH→St→St
 |[],s=>{s with phase:=2,peer:=port}.got
 |f::r,s=>match vW f.value with
  |none=>(s.wrong port 8 eOpt).fail
  |some n=>
   if f.name=bNm∧8≤n∧n≤s.c.block then agree port r {s with block:=n}
   else if f.name=wNm∧1≤n∧n≤s.c.window then agree port r {s with wind:=n}
   else if f.name=tNm then if n≤s.c.cap then agree port r s else(s.wrong port 3 eSize).fail
   else(s.wrong port 8 eOpt).fail
def data (s:St) (t:tK):St:=
 if s.block<t.data.length then s
 else if t.block≠s.next%65536 then s.got
 else if s.c.cap<s.image.length+t.data.length then(s.wrong s.peer 3 eSize).fail
 else
  let u:={s with image:=s.image++t.data,next:=s.next+1,came:=wrap64 (s.came+1)}
  if t.data.length=s.block then if u.came=u.wind then u.got else u.waits ⟨4,t.block,[],[],[]⟩
  else if sha u.image=s.c.digest then {u.got with phase:=3}else u.got.fail
def loads (s:St) (port:Nat) (t:tK):St:=
 if s.phase=2∧port≠s.peer then if t.op=5 then s else s.wrong port 5 ePort
 else if t.op=5 then s.fail
 else if s.phase=2 then if t.op=3 then s.data t else s
 else if t.op=3 then if t.block=1 then {s with phase:=2,peer:=port}.data t else s
 else if t.op=6 then agree port t.fs s else s
end St
end Go.Proofs.YtcbkaiakdhiloacGreatDoor
