/- Parts of the walk; written by programs, merged. -/
import Derived.Test.YtcllkmllflheiaaGreatDoorLaf
import Derived.Test.YtcllkmllflheiaaGreatDoorShelf
import Derived.Lib.MapLaws
import Derived.Lib.TrimAscii
set_option linter.unusedSimpArgs false
set_option linter.unusedVariables false
set_option maxRecDepth 20000
set_option maxHeartbeats 8000000
namespace Go.Proofs.YtcllkmllflheiaaGreatDoor
open Go.RowKit Go.Proofs
attribute [local go_sem] aG aD aE aF
structure Ae where
 op:Nat
 fm:Mac
 fi:Nat
 tm:Mac
 ti:Nat
def Gx:Ae:=⟨0,(0,0,0,0,0,0),0,(0,0,0,0,0,0),0⟩
def oX (a:Ae):Array Value:= #[.int .u16 (a.op:Int),.int .u8 (a.fm.1.toNat:Int),.int .u8 (a.fm.2.1.toNat:Int),.int .u8 (a.fm.2.2.1.toNat:Int),.int .u8 (a.fm.2.2.2.1.toNat:Int),.int .u8 (a.fm.2.2.2.2.1.toNat:Int),.int .u8 (a.fm.2.2.2.2.2.toNat:Int),
 .int .u32 (a.fi:Int),.int .u8 (a.tm.1.toNat:Int),.int .u8 (a.tm.2.1.toNat:Int),.int .u8 (a.tm.2.2.1.toNat:Int),.int .u8 (a.tm.2.2.2.1.toNat:Int),.int .u8 (a.tm.2.2.2.2.1.toNat:Int),.int .u8 (a.tm.2.2.2.2.2.toNat:Int),.int .u32 (a.ti:Int)]
def bJ (l:List UInt8):Ae×Nat:=
 if l.length<28 then(Gx,1)
 else if sub l 0 6=[0,1,8,0,6,4]∧(num (sub l 6 8)=1∨num (sub l 6 8)=2)then
  (⟨num (sub l 6 8),fX (sub l 8 l.length),num (sub l 14 18),fX (sub l 18 l.length),num (sub l 24 28)⟩,0)
 else(Gx,2)
theorem tH (l:List UInt8) (h:l.length<28):bJ l=(Gx,1):=by unfold bJ;rw[if_pos h]
def Di (l:List UInt8) (c:Array Value):Prop:=∃x,c=oX x∧bJ l=(x,0)
def zS (l:List UInt8) (er:Int):Prop:=∃k:Nat,er=k∧bJ l=(Gx,k)
attribute [local simp] oX xQ ibq ibn eqN ltN leN eqL ltL gtL leL geL
theorem IW (l:List UInt8) (hl:l.length≤9223372036854775807) (p:Nat) (w:World) (hR:Rd w p l):
 Calls Tryz.prog 157 #[.pointer (some ⟨p,0,none⟩)] w (iJ (Di l) (zS l) p w):=by
 obtain⟨z,hz⟩:∃z,bJ l=z:=⟨_,rfl⟩
 have bad:∀k:Nat,z=(Gx,k)→∀w',Fr (aJ p) w w'→iJ (Di l) (zS l) p w (.panicked (cP k)) w':=fun k h w' hf=>⟨.inr ⟨_,⟨k,rfl,hz.trans h⟩,rfl⟩,hf⟩
 have HB:∀m w',l.length<m→m≤28→Fr (aJ p) w w'→iJ (Di l) (zS l) p w (.panicked (cP 1)) w':=fun m w' h h2 hf=>bad 1 (hz.symm.trans (tH l (by omega))) w' hf
 have hA:RA p l 0 w [] w:=⟨by rw[List.drop_zero];exact hR,Fr.refl _ _,List.forall_mem_nil _⟩
 clear hR
 refine en Tryz.func157 Tryz.ntmps157 ?_
 refine W ?_
 refine sA ?_
 intro w1 hX f
 replace hA:=hA.new hX f
 clear hX f
 refine W ?_
 refine sR 6 (oV 6 hA (Nat.zero_le _) hl (by decide)) ?_
 intro h6 w2 hA
 refine W ?_
 refine sR 8 (Dc hA h6 hl) ?_
 intro h8 w3 hA
 refine W ?_
 refine sR 14 (GP hA h8 hl) ?_
 intro h14 w4 hA
 refine W ?_
 refine sR 18 (nIP hA h14 hl) ?_
 intro h18 w5 hA
 refine W ?_
 refine sR 24 (GP hA h18 hl) ?_
 intro h24 w6 hA
 refine W ?_
 refine sR 28 (nIP hA h24 hl) ?_
 intro h28 w7 hA
 have hy:=hz
 unfold bJ at hz
 rw[if_neg (by omega),iF,iF]at hz
 generalize num (sub l 6 8)=x2 at*
 generalize num (sub l 14 18)=x4 at*
 generalize num (sub l 24 28)=x6 at*
 generalize fX (l.drop 8)=m3 at*
 generalize fX (l.drop 18)=m5 at*
 generalize sub l 0 6=x1 at*
 refine W ?_
 refine sA ?_
 intro w8 hG f
 refine W ?_
 refine sT ?_
 intro w9 hG f2
 replace hA:=hA.new hG (bA f (Nat.le_refl _) f2)
 have hG:=hA.at_ 0
 have hX:=hA.at_ 1
 by_cases h1:x1=[0,1,8,0,6,4]
 rotate_left
 ·rw[if_neg (fun h=>h1 h.1)]at hz
  have h1b:(x1==[0,1,8,0,6,4])=false:=by simpa using h1
  refine W ?_
  refine sMn (dM _ _) ?_
  exact⟨rfl,bad 2 hz.symm _ hA.fr⟩
 have h1b:(x1==[0,1,8,0,6,4])=true:=by simpa using h1
 clear h1
 by_cases h2:x2=1∨x2=2
 rotate_left
 ·rw[if_neg (fun h=>h2 h.2)]at hz
  have h3:¬x2=1:=fun h=>h2 (.inl h)
  have h4:¬x2=2:=fun h=>h2 (.inr h)
  refine W ?_
  refine sMn (dM _ _) ?_
  exact⟨rfl,bad 2 hz.symm _ hA.fr⟩
 rw[if_pos ⟨eq_of_beq h1b,h2⟩]at hz
 rcases h2 with rfl|rfl
 all_goals
  refine W ?_
  refine sC (eX _ _) ?_
  rintro _ rfl
  refine W ?_
  refine sT ?_
  intro w10 hX f
  refine W ?_
  refine zC hX Tryz.underlying125 ?_
  exact⟨.inl ⟨_,⟨⟨_,m3,x4,m5,x6⟩,rfl,hy.trans hz.symm⟩,rfl⟩,hA.fr.trans' f fun b hb e=>by have e':b=w.heap.size:=e;omega⟩
def sY (l:List UInt8) (w:World) (e:Ending) (w':World):Prop:=e= .returned (.tuple #[.agg (oX (bJ l).1),.int .i64 ((bJ l).2:Int)])∧Fr noB w w'
theorem Gt (l:List UInt8) (w:World) (hl:l.length≤9223372036854775807):
 Calls Tryz.prog 156 #[.string (bs l),.func (.func 157) #[] #[]] w (sY l w):=by
 refine(Em 0 (by decide) l w 157 #[] (Di l) (zS l) (by rintro c ⟨x,rfl,_⟩;exact⟨rfl,by kernel_rfl⟩) (fun p w1 _ hR _=>IW l hl p w1 hR)).mono ?_
 rintro e w' ⟨⟨c,⟨x,rfl,hx⟩,rfl⟩|⟨er,⟨k,rfl,hk⟩,rfl⟩,hf⟩
 ·exact⟨by rw[hx];rfl,hf⟩
 ·exact⟨by rw[hk];rfl,hf⟩
end Go.Proofs.YtcllkmllflheiaaGreatDoor
namespace Go.Proofs.YtcllkmllflheiaaGreatDoor
open Go.RowKit Go.Proofs
attribute [local go_sem] aG aD cV aF
structure IpD where
 id:Nat
 ttl:Nat
 pr:Nat
 fm:Nat
 «to»:Nat
 by':List UInt8
def ip0:IpD:=⟨0,0,0,0,0,[]⟩
def ipC (a:IpD):Array Value:= #[.int .u16 (a.id:Int),.int .u8 (a.ttl:Int),.int .u8 (a.pr:Int),.int .u32 (a.fm:Int),.int .u32 (a.«to»:Int),.string (bs a.by')]
def aV (l:List UInt8):IpD×Nat:=
 if l.length<20 then(ip0,1)
 else if num (sub l 0 1)/16≠4∨num (sub l 0 1)%16<5 then(ip0,2)
 else if 5<num (sub l 0 1)%16 then(ip0,4)
 else if num (sub l 2 4)<20 then(ip0,2)
 else if l.length<num (sub l 2 4)then(ip0,1)
 else if fB (sub l 0 20)≠0 then(ip0,6)
 else if 32768≤num (sub l 6 8)∨num (sub l 8 9)=0 then(ip0,2)
 else if num (sub l 6 8)%16384≠0 then(ip0,5)
 else(⟨num (sub l 4 6),num (sub l 8 9),num (sub l 9 10),num (sub l 12 16),num (sub l 16 20),sub l 20 (num (sub l 2 4))⟩,0)
theorem tU (l:List UInt8) (h:l.length<20):aV l=(ip0,1):=by unfold aV;rw[if_pos h]
theorem vI (x:Nat) (h:x<65536):x&&&32768=if x<32768 then 0 else 32768:=by
 have h1:=Nat.and_div_two_pow (a:=x) (b:=32768) (n:=15)
 have h2:=Nat.and_mod_two_pow (a:=x) (b:=32768) (n:=15)
 rw[show(32768:Nat)/2^15=1 by decide,Nat.and_one_is_mod]at h1
 rw[show(32768:Nat)%2^15=0 by decide,Nat.and_zero]at h2
 split<;>omega
theorem DJ (x:Nat) (h:x<65536):bits .and .u16 (x:Int) 32768=((if x<32768 then 0 else 32768:Nat):Int):=by
 rw[show(32768:Int)=((32768:Nat):Int)from rfl,u16_and_nat x 32768 (by omega) (by omega),vI x h]
theorem DP (x:Nat) (h:x<65536):bits .and .u16 (x:Int) 16383=((x%16384:Nat):Int):=by
 rw[show(16383:Int)=((16383:Nat):Int)from rfl,u16_and_nat x 16383 (by omega) (by omega)]
 congr 1
 exact Nat.and_two_pow_sub_one_eq_mod x 14
theorem IX (x:Nat) (h:x<256):bits .and .u8 (x:Int) 15=((x%16:Nat):Int):=by
 rw[show(15:Int)=((15:Nat):Int)from rfl,u8_and_nat x 15 (by omega) (by omega)]
 congr 1
 exact Nat.and_two_pow_sub_one_eq_mod x 4
theorem rI (A:Option Addr) (c:Nat) (p:List UInt8) (w:World) (hr:SlR w noB 1 A 1 (E6 [p])) (hz:p.length≤9223372036854775807):
 Calls Tryz.prog 162 #[.slice A 1 c] w fun e w'=>e= .returned (.int .u16 (fB p))∧w=w':=by
 have h:=iD A 1 c [p] w noB hr (by omega) (by simpa using hz)
 simpa using h
def IH (l:List UInt8) (c:Array Value):Prop:=∃x,c=ipC x∧aV l=(x,0)
def FS (l:List UInt8) (er:Int):Prop:=∃k:Nat,er=k∧aV l=(ip0,k)
attribute [local simp] ipC ibq ibn eqN ltN leN eqL ltL gtL leL geL
theorem Ll (l:List UInt8) (hl:l.length≤9223372036854775807) (p q:Nat) (w:World) (hR:Rd w p l) (hq:Bk w q 9 #[.string (bs l)]) (hpq:p≠q):
 Calls Tryz.prog 160 #[.pointer (some ⟨p,0,none⟩),.pointer (some ⟨q,0,none⟩)] w (iJ (IH l) (FS l) p w):=by
 obtain⟨z,hz⟩:∃z,aV l=z:=⟨_,rfl⟩
 have bad:∀k:Nat,z=(ip0,k)→∀w',Fr (aJ p) w w'→iJ (IH l) (FS l) p w (.panicked (cP k)) w':=fun k h w' hf=>⟨.inr ⟨_,⟨k,rfl,hz.trans h⟩,rfl⟩,hf⟩
 have hA:RA p l 0 w [(q,9,#[.string (bs l)])] w:=⟨by rw[List.drop_zero];exact hR,Fr.refl _ _,List.forall_mem_cons.2 ⟨⟨Ne.symm hpq,hq⟩,List.forall_mem_nil _⟩⟩
 clear hR hq
 refine en Tryz.func160 Tryz.ntmps160 ?_
 refine W ?_
 refine sA ?_
 intro w1 hX f
 replace hA:=hA.new hX f
 have hq:=hA.at_ 1
 refine W ?_
 refine sM (dK _ _ _) (fun h=> ?_) fun h20=> ?_
 ·exact⟨rfl,bad 1 (hz.symm.trans (tU l (by omega))) _ hA.fr⟩
 have h20':¬l.length<20:=by omega
 have hy:=hz
 unfold aV at hz
 rw[if_neg h20']at hz
 clear hX f hq h20'
 refine W ?_
 refine sR 1 (nU8 hA (by omega) hl) ?_
 intro _ w2 hA
 have n1:num (sub l 0 1)<256:=kW ..
 generalize num (sub l 0 1)=x1 at*
 have h15:=IX x1 n1
 by_cases t1:x1/16=4
 rotate_left
 ·have t1':¬(x1:Int)/16=4:=by omega
  refine W ?_
  refine sMn (dM _ _) ?_
  exact⟨rfl,bad 2 (hz.symm.trans (if_pos (.inl t1))) _ hA.fr⟩
 have t1':(x1:Int)/16=4:=by omega
 refine W ?_
 refine sM (dK _ _ _) (fun h=> ?_) fun t2=> ?_
 ·exact⟨rfl,bad 2 (hz.symm.trans (if_pos (.inr (by omega)))) _ hA.fr⟩
 rw[if_neg (by omega)]at hz
 clear t1' t1
 refine W ?_
 refine sM (dK _ _ _) (fun h=> ?_) fun t3=> ?_
 ·exact⟨rfl,bad 4 (hz.symm.trans (if_pos (by omega))) _ hA.fr⟩
 rw[if_neg (by omega)]at hz
 clear t2 t3 n1
 refine W ?_
 refine sR 2 (nU8 hA (by omega) hl) ?_
 intro _ w3 hA
 refine W ?_
 refine sR 4 (Dc hA (by omega) hl) ?_
 intro _ w4 hA
 have n3:num (sub l 2 4)<65536:=kW ..
 generalize num (sub l 2 4)=x3 at*
 have e3:IntKind.i64.wrap (x3:Int)=x3:=IntWalk.i64_in _ ⟨by omega,by omega⟩
 refine W ?_
 refine sR 6 (Dc hA (by omega) hl) ?_
 intro _ w5 hA
 refine W ?_
 refine sA ?_
 intro w6 hG f6
 refine W ?_
 refine sT ?_
 intro w7 hG f7
 have hg0:w.heap.size<w5.heap.size:=(hA.at_ 0).lt
 have hgq:q<w5.heap.size:=(hA.at_ 1).lt
 replace hA:=hA.new hG (bA f6 (Nat.le_refl _) f7)
 have hne:∀x∈[(w.heap.size,130,rdZ 2),(q,9,#[.string (bs l)])],x.1≠w5.heap.size:=List.forall_mem_cons.2 ⟨Nat.ne_of_lt hg0,List.forall_mem_cons.2 ⟨Nat.ne_of_lt hgq,List.forall_mem_nil _⟩⟩
 clear hG f6 f7 hgq
 generalize w5.heap.size=g at*
 refine W ?_
 refine sR 8 (Dc hA (by omega) hl) ?_
 intro _ w8 hA
 have n5:num (sub l 6 8)<65536:=kW ..
 generalize num (sub l 6 8)=x5 at*
 refine W ?_
 refine sR 9 (nU8 hA (by omega) hl) ?_
 intro _ w9 hA
 refine W ?_
 refine sR 10 (nU8 hA (by omega) hl) ?_
 intro _ w10 hA
 generalize num (sub l 4 6)=x4 at*
 generalize num (sub l 8 9)=x6 at*
 generalize num (sub l 9 10)=x7 at*
 refine W ?_
 refine sK (ipC ⟨x4,x6,0,0,0,[]⟩) (hA.at_ 0) ?_
 intro w11 hG f
 replace hA:=hA.put hG f (Nat.le_of_lt hg0) hne
 refine W ?_
 refine sK (ipC ⟨x4,x6,x7,0,0,[]⟩) (hA.at_ 0) ?_
 intro w12 hG f
 replace hA:=hA.put hG f (Nat.le_of_lt hg0) hne
 refine W ?_
 refine sR 12 (Dc hA (by omega) hl) ?_
 intro _ w13 hA
 refine W ?_
 refine sR 16 (nIP hA (by omega) hl) ?_
 intro _ w14 hA
 refine W ?_
 refine sR 20 (nIP hA (by omega) hl) ?_
 intro _ w15 hA
 generalize num (sub l 12 16)=x9 at*
 generalize num (sub l 16 20)=x10 at*
 refine W ?_
 refine sK (ipC ⟨x4,x6,x7,x9,0,[]⟩) (hA.at_ 0) ?_
 intro w16 hG f
 replace hA:=hA.put hG f (Nat.le_of_lt hg0) hne
 refine W ?_
 refine sK (ipC ⟨x4,x6,x7,x9,x10,[]⟩) (hA.at_ 0) ?_
 intro w17 hG f
 replace hA:=hA.put hG f (Nat.le_of_lt hg0) hne
 refine W ?_
 refine sM (dK _ _ _) (fun h=> ?_) fun t4=> ?_
 ·exact⟨rfl,bad 2 (hz.symm.trans (if_pos (by omega))) _ hA.fr⟩
 rw[if_neg (by omega)]at hz
 have hq:=hA.at_ 2
 refine W ?_
 refine sM (dK _ _ _) (fun h=> ?_) fun t5=> ?_
 ·exact⟨rfl,bad 1 (hz.symm.trans (if_pos (by omega))) _ hA.fr⟩
 rw[if_neg (by omega)]at hz
 refine W ?_
 refine sA ?_
 intro w18 hB f
 replace hA:=hA.none f
 refine W ?_
 refine sC (rI (some ⟨w17.heap.size,0,none⟩) 1 (sub l 0 20) w18 (SlR.of_bk hB id rfl) (by have:=iM l 0 20;omega)) ?_
 rintro _ rfl
 refine W ?_
 refine sM (dK _ _ _) (fun h=> ?_) fun t6=> ?_
 ·exact⟨rfl,bad 6 (hz.symm.trans (if_pos (by omega))) _ hA.fr⟩
 rw[if_neg (by omega)]at hz
 have hb:=DJ x5 n5
 have hb2:=DP x5 n5
 by_cases t7:x5<32768
 rotate_left
 ·rw[if_neg t7]at hb
  refine W ?_
  refine sMn (dM _ _) ?_
  exact⟨rfl,bad 2 (hz.symm.trans (if_pos (.inl (by omega)))) _ hA.fr⟩
 rw[if_pos t7]at hb
 have hG:=hA.at_ 0
 refine W ?_
 refine sM (dK _ _ _) (fun h=> ?_) fun t8=> ?_
 ·exact⟨rfl,bad 2 (hz.symm.trans (if_pos (.inr (by omega)))) _ hA.fr⟩
 rw[if_neg (by omega)]at hz
 refine W ?_
 refine sM (dK _ _ _) (fun h=> ?_) fun t9=> ?_
 ·exact⟨rfl,bad 5 (hz.symm.trans (if_pos (by omega))) _ hA.fr⟩
 rw[if_neg (by omega)]at hz
 have e8:IntKind.i64.wrap ((x3:Int)-20)=((x3-20:Nat):Int):=(IntWalk.i64_in _ ⟨by omega,by omega⟩).trans (by omega)
 clear e3
 refine W ?_
 refine sR x3 (oV (x3-20) hA (by omega) hl (by omega)) ?_ (hm:=by omega)
 intro _ w19 hA
 generalize sub l 20 x3=x11 at*
 refine W ?_
 refine sK (ipC ⟨x4,x6,x7,x9,x10,x11⟩) (hA.at_ 0) ?_
 intro w20 hG f
 replace hA:=hA.put hG f (Nat.le_of_lt hg0) hne
 have hX:=hA.at_ 1
 clear hq
 refine W ?_
 refine sT ?_
 intro w21 hX f
 refine W ?_
 refine zC hX Tryz.underlying130 ?_
 exact⟨.inl ⟨_,⟨⟨x4,x6,x7,x9,x10,x11⟩,rfl,hy.trans hz.symm⟩,rfl⟩,hA.fr.trans' f fun b hb e=>by have e':b=w.heap.size:=e;omega⟩
def zV (l:List UInt8) (w:World) (e:Ending) (w':World):Prop:=e= .returned (.tuple #[.agg (ipC (aV l).1),.int .i64 ((aV l).2:Int)])∧Fr noB w w'
theorem Il (l:List UInt8) (q:Nat) (w:World) (hq:Bk w q 9 #[.string (bs l)]) (hl:l.length≤9223372036854775807):
 Calls Tryz.prog 159 #[.string (bs l),.func (.func 160) #[] #[.pointer (some ⟨q,0,none⟩)]] w (zV l w):=by
 refine(Em 2 (by decide) l w 160 #[_] (IH l) (FS l) (by rintro c ⟨x,rfl,_⟩;exact⟨rfl,by kernel_rfl⟩) (fun p w1 hp hR hf=>Ll l hl p q w1 hR (hq.keep hf (fun x=>x)) (by have:=hq.lt;omega))).mono ?_
 rintro e w' ⟨⟨c,⟨x,rfl,hx⟩,rfl⟩|⟨er,⟨k,rfl,hk⟩,rfl⟩,hf⟩
 ·exact⟨by rw[hx];rfl,hf⟩
 ·exact⟨by rw[hk];rfl,hf⟩
end Go.Proofs.YtcllkmllflheiaaGreatDoor
namespace Go.Proofs.YtcllkmllflheiaaGreatDoor
open Go.RowKit Go.Proofs
attribute [local go_sem] aG aD cV aF
structure EJ where
 fm:Nat
 tp:Nat
 ld:List UInt8
def Ep:EJ:=⟨0,0,[]⟩
def AW (a:EJ):Array Value:= #[.int .u16 (a.fm:Int),.int .u16 (a.tp:Int),.string (bs a.ld)]
def bB (l:List UInt8) (fi ti:Nat):EJ×Nat:=
 if l.length<8 then(Ep,1)
 else if num (sub l 4 6)<8 then(Ep,2)
 else if l.length<num (sub l 4 6)then(Ep,1)
 else if num (sub l 6 8)≠0∧fB (bC fi ti (num (sub l 4 6))++sub l 0 (num (sub l 4 6)))≠0 then(Ep,6)
 else(⟨num (sub l 0 2),num (sub l 2 4),sub l 8 (num (sub l 4 6))⟩,0)
theorem qZ (l:List UInt8) (fi ti:Nat) (h:l.length<8):bB l fi ti=(Ep,1):=by unfold bB;rw[if_pos h]
def Dh (l:List UInt8) (fi ti:Nat) (c:Array Value):Prop:=∃x,c=AW x∧bB l fi ti=(x,0)
def Aa (l:List UInt8) (fi ti:Nat) (er:Int):Prop:=∃k:Nat,er=k∧bB l fi ti=(Ep,k)
attribute [local simp] AW ibq ibn eqN ltN leN eqL ltL gtL leL geL
theorem Jo (l:List UInt8) (fi ti:Nat) (hfi:fi<4294967296) (hti:ti<4294967296) (hl:l.length≤9223372036854775807) (p q qi qt:Nat) (w:World) (hR:Rd w p l)
 (hq:Bk w q 9 #[.string (bs l)]) (hqi:Bk w qi 53 #[.int .u32 (fi:Int)]) (hqt:Bk w qt 53 #[.int .u32 (ti:Int)]) (n1:q≠p) (n2:qi≠p) (n3':qt≠p):
 Calls Tryz.prog 164 #[.pointer (some ⟨p,0,none⟩),.pointer (some ⟨q,0,none⟩),.pointer (some ⟨qi,0,none⟩),.pointer (some ⟨qt,0,none⟩)] w (iJ (Dh l fi ti) (Aa l fi ti) p w):=by
 obtain⟨z,hz⟩:∃z,bB l fi ti=z:=⟨_,rfl⟩
 have bad:∀k:Nat,z=(Ep,k)→∀w',Fr (aJ p) w w'→iJ (Dh l fi ti) (Aa l fi ti) p w (.panicked (cP k)) w':=fun k h w' hf=>⟨.inr ⟨_,⟨k,rfl,hz.trans h⟩,rfl⟩,hf⟩
 have HB:∀m w',l.length<m→m≤8→Fr (aJ p) w w'→iJ (Dh l fi ti) (Aa l fi ti) p w (.panicked (cP 1)) w':=fun m w' h h2 hf=>bad 1 (hz.symm.trans (qZ l fi ti (by omega))) w' hf
 have hA:RA p l 0 w [(q,9,#[.string (bs l)]),(qi,53,#[.int .u32 (fi:Int)]),(qt,53,#[.int .u32 (ti:Int)])] w:=⟨by rw[List.drop_zero];exact hR,Fr.refl _ _,List.forall_mem_cons.2 ⟨⟨n1,hq⟩,List.forall_mem_cons.2 ⟨⟨n2,hqi⟩,List.forall_mem_cons.2 ⟨⟨n3',hqt⟩,List.forall_mem_nil _⟩⟩⟩⟩
 clear hR hq hqi hqt
 refine en Tryz.func164 Tryz.ntmps164 ?_
 refine W ?_
 refine sA ?_
 intro w1 hX f
 replace hA:=hA.new hX f
 clear hX f
 refine W ?_
 refine sR 2 (Dc hA (Nat.zero_le _) hl) ?_
 intro h2 w2 hA
 refine W ?_
 refine sR 4 (Dc hA h2 hl) ?_
 intro h4 w3 hA
 generalize hx1:num (sub l 0 2)=x1 at*
 generalize hx2:num (sub l 2 4)=x2 at*
 refine W ?_
 refine sA ?_
 intro w4 hG f
 refine W ?_
 refine sT ?_
 intro w5 hG f2
 have hg0:w.heap.size<w3.heap.size:=(hA.at_ 0).lt
 have hne:∀x∈[(w.heap.size,134,rdZ 3),(q,9,#[.string (bs l)]),(qi,53,#[.int .u32 (fi:Int)]),(qt,53,#[.int .u32 (ti:Int)])],x.1≠w3.heap.size:=fun x hx=>Nat.ne_of_lt (hA.bk x hx).2.lt
 replace hA:=hA.new hG (bA f (Nat.le_refl _) f2)
 clear hG f f2
 generalize w3.heap.size=g at*
 refine W ?_
 refine sR 6 (Dc hA h4 hl) ?_
 intro h6 w6 hA
 have n3:num (sub l 4 6)<65536:=kW ..
 generalize hx3:num (sub l 4 6)=x3 at*
 have e3:IntKind.i64.wrap (x3:Int)=x3:=IntWalk.i64_in _ ⟨by omega,by omega⟩
 refine W ?_
 refine sR 8 (Dc hA h6 hl) ?_
 intro h8 w7 hA
 have hy:=hz
 unfold bB at hz
 rw[if_neg (by omega),hx1,hx2,hx3]at hz
 clear hx1 hx2 hx3
 generalize num (sub l 6 8)=x4 at*
 refine W ?_
 refine sM (dK _ _ _) (fun h=> ?_) fun t4=> ?_
 ·exact⟨rfl,bad 2 (hz.symm.trans (if_pos (by omega))) _ hA.fr⟩
 rw[if_neg (by omega)]at hz
 have hq:=hA.at_ 2
 have hqi:=hA.at_ 3
 have hqt:=hA.at_ 4
 dsimp only at hq hqi hqt
 refine W ?_
 refine sM (dK _ _ _) (fun h=> ?_) fun t5=> ?_
 ·exact⟨rfl,bad 1 (hz.symm.trans (if_pos (by omega))) _ hA.fr⟩
 rw[if_neg (by omega)]at hz
 clear e3
 refine W ?_
 obtain⟨y,hy7⟩:∃y,Hid (y=w7):=⟨_,Lib.hid rfl⟩
 have f0:Fr noB y w7:=hy7.out▸Fr.refl _ _
 replace hA:=fun w' (f:Fr noB y w')=>hA.none (hy7.out▸f)
 refine cM [0,5,6,7] [] (fun w'=>¬(x4≠0∧fB (bC fi ti x3++sub l 0 x3)≠0)∧Fr noB y w') ?_ ?_
 ·refine dI (An hq (An hqi (An hqt f0))) [14] [0,1,2,3,4,5,7,8,9,6,10,11,12,13,14] (h:= ?_)
  clear hq hqi hqt f0
  intro w8 h8 _
  by_cases h0:x4=0
  ·refine D ?_
   refine dP (eX 6 w8) ?_
   rintro e w9 ⟨rfl,rfl⟩
   refine D ?_
   refine tN ?_
   exact mt ⟨fun h=>h.1 h0,h8.2.2.2⟩
  refine D ?_
  refine dC (yW fi ti (x3:Int) w8 hfi hti (by omega) (by omega)) ?_ ?_
  ·intro w' fw
   exact⟨h8.1.keep fw id,h8.2.1.keep fw id,h8.2.2.1.keep fw id,h8.2.2.2.none fw⟩
  intro w9 _ h9
  rw[Int.toNat_natCast]
  clear h8
  refine D ?_
  refine dA2 (by infer_instance) h9 ?_
  intro w10 h10 hB _
  refine D ?_
  refine dC (lL (some ⟨w9.heap.size,0,none⟩) 2 (bC fi ti x3) (sub l 0 x3) w10 (SlR.of_bk hB (fun x=>x) rfl) (by simp[bC,aH]) (by have:=iM l 0 x3;omega)) ?_ ?_
  ·rintro _ rfl
   exact h10
  rintro _ rfl _
  clear hB h9
  by_cases hc:fB (bC fi ti x3++sub l 0 x3)=0
  ·refine D ?_
   refine dP (eX 6 w10) ?_
   rintro e w11 ⟨rfl,rfl⟩
   refine D ?_
   refine tN ?_
   exact mt ⟨fun h=>h.2 hc,h10.2.2.2⟩
  ·refine D ?_
   refine dP (dM 6 w10) ?_
   rintro e w11 ⟨rfl,rfl⟩
   exact⟨rfl,bad 6 (hz.symm.trans (if_pos ⟨h0,hc⟩)) _ (hA _ h10.2.2.2).fr⟩
 clear hq hqi hqt f0
 rintro u w8 ⟨hor,f8⟩
 replace hA:=hA _ f8
 rw[if_neg hor]at hz
 have e8:IntKind.i64.wrap ((x3:Int)-8)=((x3-8:Nat):Int):=(IntWalk.i64_in _ ⟨by omega,by omega⟩).trans (by omega)
 refine W ?_
 refine sR x3 (oV (x3-8) hA h8 hl (by omega)) ?_ (hm:=by omega)
 intro _ w9 hA
 generalize sub l 8 x3=x5 at*
 refine W ?_
 refine sK (AW ⟨x1,x2,x5⟩) (hA.at_ 0) ?_
 intro w10 hG f
 replace hA:=hA.put hG f (Nat.le_of_lt hg0) hne
 have hX:=hA.at_ 1
 refine W ?_
 refine sT ?_
 intro w11 hX f
 refine W ?_
 refine zC hX Tryz.underlying134 ?_
 exact⟨.inl ⟨_,⟨⟨x1,x2,x5⟩,rfl,hy.trans hz.symm⟩,rfl⟩,hA.fr.trans' f fun b hb e=>by have e':b=w.heap.size:=e;omega⟩
def rB (l:List UInt8) (fi ti:Nat) (w:World) (e:Ending) (w':World):Prop:=e= .returned (.tuple #[.agg (AW (bB l fi ti).1),.int .i64 ((bB l fi ti).2:Int)])∧Fr noB w w'
theorem FG (l:List UInt8) (fi ti q qi qt:Nat) (w:World) (hfi:fi<4294967296) (hti:ti<4294967296) (hq:Bk w q 9 #[.string (bs l)]) (hqi:Bk w qi 53 #[.int .u32 (fi:Int)]) (hqt:Bk w qt 53 #[.int .u32 (ti:Int)]) (hl:l.length≤9223372036854775807):
 Calls Tryz.prog 163 #[.string (bs l),.func (.func 164) #[] #[.pointer (some ⟨q,0,none⟩),.pointer (some ⟨qi,0,none⟩),.pointer (some ⟨qt,0,none⟩)]] w (rB l fi ti w):=by
 refine(Em 3 (by decide) l w 164 #[_,_,_] (Dh l fi ti) (Aa l fi ti) (by rintro c ⟨x,rfl,_⟩;exact⟨rfl,by kernel_rfl⟩) (fun p w1 hp hR hf=>Jo l fi ti hfi hti hl p q qi qt w1 hR (hq.keep hf (fun x=>x)) (hqi.keep hf (fun x=>x)) (hqt.keep hf (fun x=>x)) (by have:=hq.lt;omega) (by have:=hqi.lt;omega) (by have:=hqt.lt;omega))).mono ?_
 rintro e w' ⟨⟨c,⟨x,rfl,hx⟩,rfl⟩|⟨er,⟨k,rfl,hk⟩,rfl⟩,hf⟩
 ·exact⟨by rw[hx];rfl,hf⟩
 ·exact⟨by rw[hk];rfl,hf⟩
end Go.Proofs.YtcllkmllflheiaaGreatDoor
namespace Go.Proofs.YtcllkmllflheiaaGreatDoor
structure aX where
 code:UInt8
 data:List UInt8
def jX:Nat→UInt8→List UInt8→List UInt8
 |0,c,d=>[c,UInt8.ofNat d.length]++d
 |n+1,c,d=>if d.length≤255 then [c,UInt8.ofNat d.length]++d else [c,255]++d.take 255++jX n c (d.drop 255)
def lZ (c:UInt8) (d:List UInt8):List UInt8:=jX d.length c d
theorem vP:∀(n m:Nat) (c:UInt8) (d:List UInt8),d.length≤n→d.length≤m→jX n c d=jX m c d
 |0,0,_,_,_,_=>rfl
 |0,m+1,c,d,h,_=>by
  have:d=[]:=List.eq_nil_of_length_eq_zero (by omega)
  subst this;simp[jX]
 |n+1,0,c,d,_,h=>by
  have:d=[]:=List.eq_nil_of_length_eq_zero (by omega)
  subst this;simp[jX]
 |n+1,m+1,c,d,h1,h2=>by
  simp only[jX]
  split
  ·rfl
  ·rename_i h
   rw[vP n m c (d.drop 255) (by rw[List.length_drop];omega) (by rw[List.length_drop];omega)]
theorem iG (c:UInt8) (d:List UInt8) (h:d.length≤255):lZ c d=[c,UInt8.ofNat d.length]++d:=by
 unfold lZ
 cases hd:d.length with
 |zero=>simp[jX,hd]
 |succ n=>simp only[jX];rw[if_pos h,hd]
theorem nS (c:UInt8) (d:List UInt8) (h:255<d.length):lZ c d=[c,255]++d.take 255++lZ c (d.drop 255):=by
 unfold lZ
 obtain⟨n,hn⟩:∃n,d.length=n+1:=⟨d.length-1,by omega⟩
 rw[hn]
 simp only[jX]
 rw[if_neg (by omega),vP n (d.drop 255).length c (d.drop 255) (by rw[List.length_drop];omega) (Nat.le_refl _)]
def mT (l:List UInt8) (n:Nat):List UInt8:=l++List.replicate (n-l.length) 0
def iL (o:aX):Bool:=o.code==0||o.code==255||o.code==52
def gK (reply:Bool) (xid client yours next:Nat) (mac:List UInt8):List UInt8:=
 mT ([if reply then 2 else 1,1,6,0]++big 4 xid++[0,0]++(if client=0 then [128,0]else [0,0])++big 4 client++big 4 yours++big 4 next++big 4 0++mac) 236++[99,130,83,99]
def mN (head:List UInt8) (os:List aX):List UInt8:=mT (head++os.flatMap (fun o=>lZ o.code o.data)++[255]) 300
def fH (reply:Bool) (xid client yours next:Nat) (mac:List UInt8) (os:List aX):List UInt8×Nat:=
 if os.any iL then([],2)
 else if 1472<(mN (gK reply xid client yours next mac) os).length then([],7)
 else(mN (gK reply xid client yours next mac) os,0)
theorem rN (l:List UInt8) (n:Nat):(mT l n).length=max l.length n:=by unfold mT;simp;omega
theorem kC (reply:Bool) (xid client yours next:Nat) (mac:List UInt8) (hm:mac.length=6):(gK reply xid client yours next mac).length=240:=by
 unfold gK
 rw[List.length_append,rN]
 by_cases hc:client=0<;>cases reply<;>simp[hc,aH,hm]
def eS:List aX→UInt8→List UInt8→List aX
 |[],c,d=>[⟨c,d⟩]
 |o::r,c,d=>if o.code=c then⟨o.code,o.data++d⟩::r else o::eS r c d
def bF:List aX→UInt8→Option (List UInt8)
 |[],_=>none
 |o::r,c=>if o.code=c then some o.data else bF r c
def gM:Nat→List aX→List UInt8→Option (List aX)
 |0,_,_=>none
 |_+1,_,[]=>none
 |n+1,os,c::r=>
  if c=255 then some os
  else if c=0 then gM n os r
  else match r with
   |[]=>none
   |k::r=>if r.length<k.toNat then none else gM n (eS os c (r.take k.toNat)) (r.drop k.toNat)
end Go.Proofs.YtcllkmllflheiaaGreatDoor
namespace Go.Proofs.YtcllkmllflheiaaGreatDoor
theorem jH:∀(n m:Nat) (os:List aX) (l:List UInt8),l.length<n→l.length<m→gM n os l=gM m os l
 |0,_,_,_,h,_=>absurd h (Nat.not_lt_zero _)
 |_,0,_,_,_,h=>absurd h (Nat.not_lt_zero _)
 |n+1,m+1,os,[],_,_=>rfl
 |n+1,m+1,os,c::r,h1,h2=>by
  simp only[List.length_cons]at h1 h2
  simp only[gM]
  split
  ·rfl
  ·split
   ·exact jH n m os r (by omega) (by omega)
   ·cases r with
    |nil=>rfl
    |cons k r=>
     simp only[List.length_cons]at h1 h2
     simp only
     split
     ·rfl
     ·exact jH n m _ _ (by rw[List.length_drop];omega) (by rw[List.length_drop];omega)
theorem eZ (n:Nat) (os:List aX) (c:UInt8) (r:List UInt8):gM (n+1) os (c::r)=
 (if c=255 then some os
 else if c=0 then gM n os r
 else match r with
  |[]=>none
  |k::r=>if r.length<k.toNat then none else gM n (eS os c (r.take k.toNat)) (r.drop k.toNat)):=rfl
def bT (os:List aX) (l:List UInt8):Option (List aX):=gM (l.length+1) os l
theorem vV (os:List aX) (r:List UInt8):bT os (255::r)=some os:=rfl
theorem wR (os:List aX) (r:List UInt8):bT os (0::r)=bT os r:=by
 unfold bT
 rw[List.length_cons,eZ,if_neg (by decide),if_pos rfl]
theorem tW (os:List aX) (c:UInt8) (h1:c≠255) (h2:c≠0):bT os [c]=none:=by
 unfold bT
 rw[List.length_cons,eZ,if_neg h1,if_neg h2]
theorem oM (os:List aX) (c k:UInt8) (r:List UInt8) (h1:c≠255) (h2:c≠0) (h:r.length<k.toNat):bT os (c::k::r)=none:=by
 unfold bT
 rw[List.length_cons,eZ,if_neg h1,if_neg h2]
 exact if_pos h
theorem uE (os:List aX) (c k:UInt8) (r:List UInt8) (h1:c≠255) (h2:c≠0) (h:¬r.length<k.toNat):
 bT os (c::k::r)=bT (eS os c (r.take k.toNat)) (r.drop k.toNat):=by
 unfold bT
 rw[List.length_cons,eZ,if_neg h1,if_neg h2]
 refine(if_neg h).trans ?_
 exact jH _ _ _ _ (by rw[List.length_drop,List.length_cons];omega) (by omega)
structure kF where
 reply:Bool
 xid:Nat
 client:Nat
 yours:Nat
 next:Nat
 mac:Mac
 os:List aX
def ES:kF:=⟨false,0,0,0,0,(0,0,0,0,0,0),[]⟩
def gB (os:List aX) (name file:List UInt8):List aX×Nat:=
 match bF os 52 with
 |none=>(os,0)
 |some [x]=>
  if x.toNat<1∨3<x.toNat then([],2)
  else match (if x.toNat%2=1 then bT (os.filter (fun o=> !(o.code==52))) file else some (os.filter (fun o=> !(o.code==52))))with
  |none=>([],1)
  |some a=>match (if 2≤x.toNat then bT a name else some a)with
   |none=>([],1)
   |some a=>if(bF a 52).isSome then([],2)else(a,0)
 |some _=>([],2)
def aT (l:List UInt8):kF×Nat:=
 if l.length<240 then(ES,1)
 else if ¬((sub l 0 1=[1]∨sub l 0 1=[2])∧sub l 1 3=[1,6]∧sub l 236 240=[99,130,83,99])then(ES,2)
 else match bT [] (l.drop 240)with
 |none=>(ES,1)
 |some os=>match gB os (sub l 44 108) (sub l 108 236)with
  |(a,0)=>(⟨sub l 0 1==[2],num (sub l 4 8),num (sub l 12 16),num (sub l 16 20),num (sub l 20 24),fX (l.drop 28),a⟩,0)
  |(_,e+1)=>(ES,e+1)
end Go.Proofs.YtcllkmllflheiaaGreatDoor
namespace Go.Proofs.YtcllkmllflheiaaGreatDoor
def Dd (x:UInt32) (n:Nat):UInt32:=UInt32.ofNat ((x.toNat/2^n)|||(x.toNat*2^(32-n))%4294967296)
def shr (x:UInt32) (n:Nat):UInt32:=UInt32.ofNat (x.toNat/2^n)
def sg0 (x:UInt32):UInt32:=Dd x 7^^^Dd x 18^^^shr x 3
def sg1 (x:UInt32):UInt32:=Dd x 17^^^Dd x 19^^^shr x 10
def bg0 (x:UInt32):UInt32:=Dd x 2^^^Dd x 13^^^Dd x 22
def bg1 (x:UInt32):UInt32:=Dd x 6^^^Dd x 11^^^Dd x 25
def chs (e f g:UInt32):UInt32:=(e&&&f)^^^(~~~e&&&g)
def maj (a b c:UInt32):UInt32:=(a&&&b)^^^(a&&&c)^^^(b&&&c)
def I2 (w:List UInt32):UInt32:=w.getD (w.length-16) 0+sg0 (w.getD (w.length-15) 0)+w.getD (w.length-7) 0+sg1 (w.getD (w.length-2) 0)
def Gg (w:List UInt32):Nat→List UInt32
 |0=>w
 |k+1=>Gg w k++[I2 (Gg w k)]
def wd (a b c d:UInt8):UInt32:=UInt32.ofNat (a.toNat*16777216+b.toNat*65536+c.toNat*256+d.toNat)
def Fe (b:List UInt8) (k:Nat):List UInt32:=(List.range k).map fun i=>wd (b.getD (4*i) 0) (b.getD (4*i+1) 0) (b.getD (4*i+2) 0) (b.getD (4*i+3) 0)
structure S8 where
 a:UInt32
 b:UInt32
 c:UInt32
 d:UInt32
 e:UInt32
 f:UInt32
 g:UInt32
 h:UInt32
def S8.list (v:S8):List UInt32:=[v.a,v.b,v.c,v.d,v.e,v.f,v.g,v.h]
def rnd (v:S8) (k w:UInt32):S8:=
 ⟨(v.h+bg1 v.e+chs v.e v.f v.g+k+w)+(bg0 v.a+maj v.a v.b v.c),v.a,v.b,v.c,v.d+(v.h+bg1 v.e+chs v.e v.f v.g+k+w),v.e,v.f,v.g⟩
def GA:List UInt32:=[
 0x428a2f98,0x71374491,0xb5c0fbcf,0xe9b5dba5,0x3956c25b,0x59f111f1,0x923f82a4,0xab1c5ed5,
 0xd807aa98,0x12835b01,0x243185be,0x550c7dc3,0x72be5d74,0x80deb1fe,0x9bdc06a7,0xc19bf174,
 0xe49b69c1,0xefbe4786,0x0fc19dc6,0x240ca1cc,0x2de92c6f,0x4a7484aa,0x5cb0a9dc,0x76f988da,
 0x983e5152,0xa831c66d,0xb00327c8,0xbf597fc7,0xc6e00bf3,0xd5a79147,0x06ca6351,0x14292967,
 0x27b70a85,0x2e1b2138,0x4d2c6dfc,0x53380d13,0x650a7354,0x766a0abb,0x81c2c92e,0x92722c85,
 0xa2bfe8a1,0xa81a664b,0xc24b8b70,0xc76c51a3,0xd192e819,0xd6990624,0xf40e3585,0x106aa070,
 0x19a4c116,0x1e376c08,0x2748774c,0x34b0bcb5,0x391c0cb3,0x4ed8aa4a,0x5b9cca4f,0x682e6ff3,
 0x748f82ee,0x78a5636f,0x84c87814,0x8cc70208,0x90befffa,0xa4506ceb,0xbef9a3f7,0xc67178f2]
def h0:S8:=⟨0x6a09e667,0xbb67ae85,0x3c6ef372,0xa54ff53a,0x510e527f,0x9b05688c,0x1f83d9ab,0x5be0cd19⟩
def JI (v:S8) (ws:List UInt32):Nat→S8
 |0=>v
 |k+1=>rnd (JI v ws k) (GA.getD k 0) (ws.getD k 0)
def S8.add (x y:S8):S8:=⟨x.a+y.a,x.b+y.b,x.c+y.c,x.d+y.d,x.e+y.e,x.f+y.f,x.g+y.g,x.h+y.h⟩
def blk (h:S8) (b:List UInt8):S8:=h.add (JI h (Gg (Fe b 16) 48) 64)
def HI:Nat→S8→List UInt8→S8×List UInt8
 |0,h,l=>(h,l)
 |n+1,h,l=>HI n (blk h (l.take 64)) (l.drop 64)
def Li (h:S8) (l:List UInt8):S8×List UInt8:=HI (l.length/64) h l
def JH (v:S8):List UInt8:=v.list.flatMap fun x=>big 4 x.toNat
def I8 (l:List UInt8):List UInt8:=l++[128]++List.replicate ((119-l.length%64)%64) 0
def DH (l:List UInt8):List UInt8:=I8 l++big 8 (8*l.length)
def sha (l:List UInt8):List UInt8:=JH (Li h0 (DH l)).1
end Go.Proofs.YtcllkmllflheiaaGreatDoor
namespace Go.Proofs.YtcllkmllflheiaaGreatDoor
open Go.RowKit Go.Proofs
structure aS where
 ip:Nat
 card:Mac
 known:Bool
 due:Int
 asked:Int
 waits:List UInt8
structure JM where
 card:Mac
 name:List UInt8
 cap:Nat
 digest:List UInt8
 block:Nat
 window:Nat
 rx:Nat
 tx:Nat
structure St where
 c:JM
 rx:List (List UInt8)
 tx:List (List UInt8)
 now:Int
 draw:Nat
 boots:Int
 lost:Int
 id:Nat
 cache:List aS
 lease:Nat
 xid:Nat
 addr:Nat
 mask:Nat
 router:Nat
 server:Nat
 source:Nat
 t1:Int
 t2:Int
 untl:Int
 lagain:Int
 lsends:Nat
 phase:Nat
 port:Nat
 peer:Nat
 block:Nat
 wind:Nat
 next:Nat
 came:Int
 tagain:Int
 tsends:Nat
 goal:Nat
 last:List UInt8
 image:List UInt8
def nA:Mac:=(0,0,0,0,0,0)
def Bp:Mac:=(255,255,255,255,255,255)
def JE:Nat→Nat→List UInt8
 |0,_=>[]
 |f+1,n=>if n<10 then [UInt8.ofNat (48+n)]else JE f (n/10)++[UInt8.ofNat (48+n%10)]
def dec (n:Nat):List UInt8:=JE (n+1) n
def KB (l:List UInt8):Option Nat:=
 if l.length<1∨7<l.length∨(1<l.length∧l[0]? =some 48)then none
 else if l.all fun c=>decide (48≤c.toNat)&&decide (c.toNat≤57)then some (l.foldl (fun n c=>10*n+(c.toNat-48)) 0)else none
def FR (x:Nat):List Nat→List Nat
 |[]=>[x]
 |y::r=>if x≤y then x::y::r else y::FR x r
def jV:List Nat→List Nat
 |[]=>[]
 |x::r=>FR x (jV r)
def lB (l:List aS) (ip:Nat):Option aS:=l.find? fun e=>e.ip==ip
def gN (a b:aS):Bool:=decide (a.due<b.due)||(decide (a.due=b.due)&&decide (a.ip<b.ip))
def IE (l:List aS):Nat→Nat→Nat
 |k,i=>match l[k]?,l[i]? with
  |some a,some b=>if gN a b then k else i
  |_,_=>i
def tK:List aS→aS→aS
 |[],b=>b
 |a::r,b=>tK r (if gN a b then a else b)
def enter (l:List aS) (e:aS):List aS:=
 if l.length<4 then l++[e]else match l with
  |[]=>[e]
  |b::r=>l.map fun x=>if x.ip=(tK r b).ip then e else x
def bM (l:List aS) (ip:Nat) (f:aS→aS):List aS:=l.map fun e=>if e.ip=ip then f e else e
namespace St
def address (s:St):Nat:=if 4≤s.lease then s.addr else 0
def over (s:St):Bool:=s.phase==3||s.phase==4
def wait (s:St) (k:Nat):Int:=((2*2^k+s.draw%3:Nat):Int)-1
def put (s:St) (f:List UInt8):St×Bool:=if s.rx.length=s.c.rx then(s,false)else({s with rx:=s.rx++[f]},true)
def take (s:St):St×Option (List UInt8):=match s.tx with
 |[]=>(s,none)
 |f::r=>({s with tx:=r},some f)
def drop (s:St):St:=⟨s.c,s.rx,s.tx,s.now,s.draw,s.boots,s.lost,s.id,[],0,0,0,0,0,0,0,0,0,0,0,0,0,0,0,0,0,0,0,0,0,0,[],[]⟩
def fail (s:St):St:=
 let t:={s.drop with boots:=wrap64 (s.boots+1)}
 if wrap64 (s.boots+1)=3 then {t with phase:=4}else t
def send (s:St) (dst:Mac) (kind:Nat) (load:List UInt8):St:=
 if s.tx.length=s.c.tx then {s with lost:=wrap64 (s.lost+1)}else {s with tx:=s.tx++[(eG dst s.c.card kind load).1]}
def arp (s:St) (op:Nat) (dst whose:Mac) (fm ip:Nat):St:=s.send dst 2054 (lC op s.c.card fm whose ip).1
def ask (s:St) (fm ip:Nat):St:=s.arp 1 Bp nA fm ip
def packet (s:St) (dst fm port:Nat) (load:List UInt8):List UInt8:=(Be (s.id%65536) 64 17 s.address dst (mI fm port s.address dst load).1).1
def took (s:St):St:={s with id:=s.id+1}
def hop (s:St) (dst:Nat):Nat:=if s.router≠0∧dst&&&s.mask≠s.addr&&&s.mask then s.router else dst
def udp (s:St) (dst fm port:Nat) (load:List UInt8):St:=
 let p:=s.packet dst fm port load
 let h:=s.hop dst
 match lB s.cache h with
 |none=>{s.took with cache:=enter s.cache ⟨h,nA,false,wrap64 (s.now+2),1,p⟩}.ask s.addr h
 |some e=>if e.known then s.took.send e.card 2048 p else {s.took with cache:=bM s.cache h fun e=>{e with waits:=p}}
def keepE (now:Int) (e:aS):Option aS:=
 if now<e.due then some e else if e.known||decide (e.asked=3)then none else some {e with asked:=wrap64 (e.asked+1),due:=wrap64 (e.due+2)}
def asksE (now:Int) (e:aS):Bool:= !decide (now<e.due)&& !(e.known||decide (e.asked=3))
def neighbours (s:St):St:=
 (jV ((s.cache.filter (asksE s.now)).map (·.ip))).foldl (fun t ip=>t.ask t.address ip) {s with cache:=s.cache.filterMap (keepE s.now)}
def msgO (kind:UInt8) (os:List aX):List aX:=[⟨53,[kind]⟩]++os++(if kind=4 then []else [⟨55,[1,3,51,54,58,59]⟩])
def msg (s:St) (kind:UInt8) (os:List aX):List UInt8:=(fH false s.xid s.address 0 0 (cG s.c.card) (msgO kind os)).1
def say (s:St) (kind:UInt8) (alone:Bool) (os:List aX):St:=
 if alone then s.udp s.server 68 67 (s.msg kind os)else s.took.send Bp 2048 (s.packet 4294967295 68 67 (s.msg kind os))
def both (s:St):List aX:=[⟨50,big 4 s.addr⟩,⟨54,big 4 s.server⟩]
def asks (s:St):St:=if s.lease=1 then s.say 1 false []else s.say 3 false s.both
def goes (s:St) (l:Nat):St:={s with lease:=l,lsends:=1,lagain:=wrap64 (s.now+s.wait 0)}.asks
def tell (s:St):St:=s.udp s.source s.port s.goal s.last
def waits (s:St) (m:FY):St:={s with last:=(EG m).1,goal:=if s.phase=1 then 69 else s.peer,tsends:=1,tagain:=wrap64 (s.now+s.wait 0)}
def bNm:List UInt8:=[98,108,107,115,105,122,101]
def wNm:List UInt8:=[119,105,110,100,111,119,115,105,122,101]
def tNm:List UInt8:=[116,115,105,122,101]
def read (s:St):St:=
 ({s with phase:=1,port:=1024+s.draw%60000,peer:=0,block:=512,wind:=1,next:=1,came:=0,image:=[]}.waits
  ⟨1,0,s.c.name,[],[⟨bNm,dec s.c.block⟩,⟨wNm,dec s.c.window⟩,⟨tNm,[48]⟩]⟩).tell
def got (s:St):St:={s.waits ⟨4,(s.next+65535)%65536,[],[],[]⟩with came:=0}.tell
def wrong (s:St) (port code:Nat) (text:List UInt8):St:=s.udp s.source s.port port (EG ⟨5,code,text,[],[]⟩).1
def leases (s:St):St:=
 if s.lease=0 then {s with xid:=s.draw}.goes 1
 else if s.lease=1∨s.lease=2 then
  if s.now<s.lagain then s else if s.lsends=4 then s.fail else {s with lagain:=wrap64 (s.now+s.wait s.lsends),lsends:=s.lsends+1}.asks
 else if s.lease=3 then if s.now<s.lagain then s else {s with lease:=4}.read
 else if s.untl=0 then s
 else if s.untl≤s.now then s.drop
 else
  let l:=if s.t2≤s.now then 6 else if s.t1≤s.now∧s.lease=4 then 5 else s.lease
  if l≠4∧(l≠s.lease∨s.lagain≤s.now)then {s with lease:=l,lagain:=wrap64 (s.now+8)}.say 3 (l==5) []else {s with lease:=l}
def busy (s:St):Bool:=s.phase==1||s.phase==2
def again (s:St):St:=
 if s.busy=false∨s.now<s.tagain then s
 else if s.tsends=4 then s.fail
 else {s with tagain:=wrap64 (s.now+s.wait s.tsends),tsends:=s.tsends+1}.tell
def tick (s:St) (draw:Nat):St:=
 let s:={s with now:=wrap64 (s.now+1),draw:=draw}
 if s.over then s else s.neighbours.leases.again
def decline (s:St):St:=(s.say 4 false s.both).fail
def learn (s:St) (a:Ae) (mine:Bool):St:=
 let e:aS:=⟨a.fi,a.fm,true,wrap64 (s.now+60),0,[]⟩
 match lB s.cache a.fi with
 |some o=>let t:={s with cache:=bM s.cache a.fi fun _=>e}
  if o.waits=[]then t else t.send a.fm 2048 o.waits
 |none=>if mine then {s with cache:=enter s.cache e}else s
def asked (s:St) (a:Ae):Bool:=s.address !=0&&a.ti==s.address&&a.op==1
def arped (s:St) (a:Ae):St:=
 if s.lease=3∧a.fi=s.addr∧a.fm≠s.c.card then s.decline
 else
  let m:=s.asked a
  let t:=if a.fi≠0∧a.fi≠s.address then s.learn a m else s
  if m then t.arp 2 a.fm a.fm t.address a.fi else t
def number (os:List aX) (code:UInt8):Option Nat:=match bF os code with
 |some d=>if d.length=4 then some (num d)else none
 |none=>none
def routerOf (os:List aX):Option Nat:=match bF os 3 with
 |some d=>if 4≤d.length then some (num (d.take 4))else none
 |none=>none
def times (s:St) (d:kF) (time:Nat):St:=
 if time=4294967295 then {s with t1:=0,t2:=0,untl:=0}
 else
  let p:=match number d.os 58,number d.os 59 with
   |some x,some y=>if x<y∧y<time then(x,y)else(time/2,time/8*7)
   |_,_=>(time/2,time/8*7)
  {s with t1:=wrap64 (s.now+p.1),t2:=wrap64 (s.now+p.2),untl:=wrap64 (s.now+time)}
def granted (s:St) (d:kF) (fm:Nat):St:=
 match number d.os 51 with
 |none=>s
 |some time=>
  if ¬(s.lease=2∨s.lease=5∨s.lease=6)∨time=0∨d.yours≠s.addr then s
  else
   let t:=({s with server:=fm,mask:=(number d.os 1).getD 4294967295,router:=(routerOf d.os).getD 0,source:=if d.next≠0 then d.next else fm}).times d time
   if s.lease=2 then {t with lease:=3,lagain:=wrap64 (s.now+2)}.ask 0 s.addr else {t with lease:=4}
def leased (s:St) (d:kF):St:=
 match bF d.os 53,number d.os 54 with
 |some [k],some fm=>
  if k=2 then if s.lease=1∧d.yours≠0 then {s with addr:=d.yours,server:=fm}.goes 2 else s
  else if k=5 then if fm=s.server∨s.lease=6 then s.granted d fm else s
  else if k=6 then if(fm=s.server∨s.lease=6)∧2≤s.lease∧s.lease≠3 then s.drop else s
  else s
 |_,_=>s
def GZ:List UInt8:=[115,105,122,101]
def I4:List UInt8:=[112,111,114,116]
def JG:List UInt8:=[111,112,116,105,111,110]
def D1 (port:Nat):List CP→St→St
 |[],s=>{s with phase:=2,peer:=port}.got
 |f::r,s=>match KB f.value with
  |none=>(s.wrong port 8 JG).fail
  |some n=>
   if f.name=bNm∧8≤n∧n≤s.c.block then D1 port r {s with block:=n}
   else if f.name=wNm∧1≤n∧n≤s.c.window then D1 port r {s with wind:=n}
   else if f.name=tNm then if n≤s.c.cap then D1 port r s else(s.wrong port 3 GZ).fail
   else(s.wrong port 8 JG).fail
def data (s:St) (t:FY):St:=
 if s.block<t.data.length then s
 else if t.block≠s.next%65536 then s.got
 else if s.c.cap<s.image.length+t.data.length then(s.wrong s.peer 3 GZ).fail
 else
  let u:={s with image:=s.image++t.data,next:=s.next+1,came:=wrap64 (s.came+1)}
  if t.data.length=s.block then if u.came=u.wind then u.got else u.waits ⟨4,t.block,[],[],[]⟩
  else if sha u.image=s.c.digest then {u.got with phase:=3}else u.got.fail
def loads (s:St) (port:Nat) (t:FY):St:=
 if s.phase=2∧port≠s.peer then if t.op=5 then s else s.wrong port 5 I4
 else if t.op=5 then s.fail
 else if s.phase=2 then if t.op=3 then s.data t else s
 else if t.op=3 then if t.block=1 then {s with phase:=2,peer:=port}.data t else s
 else if t.op=6 then D1 port t.fs s else s
def frame (s:St) (f:List UInt8):St:=
 let e:=aO f
 if e.2≠0∨(e.1.«to»≠s.c.card∧e.1.«to»≠Bp)then s
 else if e.1.ty=2054 then let a:=bJ e.1.by'
  if a.2=0 then s.arped a.1 else s
 else if e.1.ty=2048 then
  let p:=aV e.1.by'
  if p.2≠0∨p.1.pr≠17 then s
  else
   let u:=bB p.1.by' p.1.fm p.1.«to»
   if u.2≠0 then s
   else if u.1.tp=68 then
    let d:=aT u.1.ld
    if d.2=0∧d.1.reply=true∧d.1.xid=s.xid∧d.1.mac=s.c.card then s.leased d.1 else s
   else if s.busy=true∧s.address≠0∧p.1.«to»=s.address∧p.1.fm=s.source∧u.1.tp=s.port then
    let t:=sH u.1.ld
    if t.2=0 then s.loads u.1.fm t.1 else s
   else s
 else s
end St
end Go.Proofs.YtcllkmllflheiaaGreatDoor
namespace Go.Proofs.YtcllkmllflheiaaGreatDoor
open Go.RowKit Go.Proofs
attribute [local go_sem] aG aD aE aF
def nM (cs:Array Value) (n i:Nat) (q:List (List UInt8)):Prop:=
 (∀k f,q[k]? =some f→cs[(i+k)%n*2]? =some (.bool true)∧cs[(i+k)%n*2+1]? =some (.string (bs f)))∧
 (∀k,q.length≤k→k<n→cs[(i+k)%n*2]? =some (.bool false)∧∃s,cs[(i+k)%n*2+1]? =some (.string s))
def jU (g n j i:Nat):Array Value:= #[.slice (some ⟨g,0,none⟩) n n,.int .i64 (j:Int),.int .i64 (i:Int)]
def fG (w:World) (r g n:Nat) (q:List (List UInt8)):Prop:=
 ∃(i:Nat) (cs:Array Value),Bk w r 97 (jU g n ((i+q.length)%n) i)∧Bk w g 101 cs∧cs.size=n*2∧i<n∧q.length≤n∧r≠g∧nM cs n i q
theorem fG.keep {w w':World} {S:Nat→Prop} {r g n:Nat} {q:List (List UInt8)} (h:fG w r g n q) (hf:Fr S w w') (h1:¬S r) (h2:¬S g):fG w' r g n q:=by
 obtain⟨i,cs,a,b,c⟩:=h
 exact⟨i,cs,a.keep hf h1,b.keep hf h2,c⟩
theorem EL {n i k j:Nat} (hn:0<n) (hk:k<n) (hj:j<n) (h:k≠j):(i+k)%n≠(i+j)%n:=by
 intro e
 have h1:(i+k)%n=(i%n+k)%n:=by simp[Nat.add_mod]
 have h2:(i+j)%n=(i%n+j)%n:=by simp[Nat.add_mod]
 have hi:=Nat.mod_lt i hn
 rw[h1,h2]at e
 have f:∀x,x<n→(i%n+x)%n=if i%n+x<n then i%n+x else i%n+x-n:=by
  intro x hx
  split
  ·next h=>exact Nat.mod_eq_of_lt h
  ·next h=>rw[Nat.mod_eq_sub_mod (by omega),Nat.mod_eq_of_lt (by omega)]
 rw[f k hk,f j hj]at e
 split at e<;>split at e<;>omega
theorem Cq {cs:Array Value} {n i:Nat} {q:List (List UInt8)} {f:List UInt8} (hn:0<n) (hs:cs.size=n*2) (hl:q.length<n) (h:nM cs n i q):
 nM ((cs.setIfInBounds ((i+q.length)%n*2) (.bool true)).setIfInBounds ((i+q.length)%n*2+1) (.string (bs f))) n i (q++[f]):=by
 have hm:=Nat.mod_lt (i+q.length) hn
 have other:∀k,k<n→k≠q.length→∀d,d<2→((cs.setIfInBounds ((i+q.length)%n*2) (.bool true)).setIfInBounds ((i+q.length)%n*2+1) (.string (bs f)))[(i+k)%n*2+d]? =cs[(i+k)%n*2+d]? :=by
  intro k hk hne d hd
  have:=EL (i:=i) hn hk hl hne
  rw[Array.getElem?_setIfInBounds_ne (by omega),Array.getElem?_setIfInBounds_ne (by omega)]
 have same0:((cs.setIfInBounds ((i+q.length)%n*2) (.bool true)).setIfInBounds ((i+q.length)%n*2+1) (.string (bs f)))[(i+q.length)%n*2]? =some (.bool true):=by
  rw[Array.getElem?_setIfInBounds_ne (by omega),Array.getElem?_setIfInBounds_self_of_lt (by omega)]
 have same1:((cs.setIfInBounds ((i+q.length)%n*2) (.bool true)).setIfInBounds ((i+q.length)%n*2+1) (.string (bs f)))[(i+q.length)%n*2+1]? =some (.string (bs f)):=by
  rw[Array.getElem?_setIfInBounds_self_of_lt (by simp;omega)]
 refine⟨fun k x hx=> ?_,fun k h1 h2=> ?_⟩
 ·by_cases hk:k=q.length
  ·subst hk
   rw[List.getElem?_append_right (Nat.le_refl _)]at hx
   simp at hx;subst hx
   exact⟨same0,same1⟩
  ·have hlt:k<q.length:=by
    rcases Nat.lt_or_ge k (q++[f]).length with h1|h1
    ·simp at h1;omega
    ·rw[List.getElem?_eq_none h1]at hx;cases hx
   rw[List.getElem?_append_left hlt]at hx
   have:=h.1 k x hx
   have o0:=other k (by omega) hk 0 (by omega)
   have o1:=other k (by omega) hk 1 (by omega)
   simp only[Nat.add_zero]at o0
   rw[o0,o1];exact this
 ·simp only[List.length_append,List.length_cons,List.length_nil]at h1
  have:=h.2 k (by omega) h2
  have o0:=other k h2 (by omega) 0 (by omega)
  have o1:=other k h2 (by omega) 1 (by omega)
  simp only[Nat.add_zero]at o0
  rw[o0,o1];exact this
theorem Am {cs:Array Value} {n i:Nat} {q:List (List UInt8)} {f:List UInt8} (hn:0<n) (hi:i<n) (hs:cs.size=n*2) (hl:(f::q).length≤n) (h:nM cs n i (f::q)):
 nM ((cs.setIfInBounds (i*2) (.bool false)).setIfInBounds (i*2+1) (.string ⟨#[]⟩)) n ((i+1)%n) q:=by
 simp only[List.length_cons]at hl
 have e:∀k,((i+1)%n+k)%n=(i+(k+1))%n:=fun k=>by rw[Nat.mod_add_mod];congr 1;omega
 have e0:(i+0)%n=i:=by rw[Nat.add_zero,Nat.mod_eq_of_lt hi]
 have other:∀k,k+1<n→∀d,d<2→((cs.setIfInBounds (i*2) (.bool false)).setIfInBounds (i*2+1) (.string ⟨#[]⟩))[(i+(k+1))%n*2+d]? =cs[(i+(k+1))%n*2+d]? :=by
  intro k hk d hd
  have:=EL (i:=i) hn hk hn (Nat.succ_ne_zero k)
  rw[e0]at this
  rw[Array.getElem?_setIfInBounds_ne (by omega),Array.getElem?_setIfInBounds_ne (by omega)]
 refine⟨fun k x hx=> ?_,fun k h1 h2=> ?_⟩
 ·have hlt:k<q.length:=by
   rcases Nat.lt_or_ge k q.length with h1|h1
   ·exact h1
   ·rw[List.getElem?_eq_none h1]at hx;cases hx
  have:=h.1 (k+1) x (by simpa using hx)
  have o0:=other k (by omega) 0 (by omega)
  have o1:=other k (by omega) 1 (by omega)
  simp only[Nat.add_zero]at o0
  rw[e,o0,o1];exact this
 ·rw[e]
  by_cases hk:k+1=n
  ·have e3:(i+(k+1))%n=i:=by rw[hk];simp[Nat.mod_eq_of_lt hi]
   rw[e3,Array.getElem?_setIfInBounds_ne (by omega),Array.getElem?_setIfInBounds_self_of_lt (by omega),Array.getElem?_setIfInBounds_self_of_lt (by simp;omega)]
   exact⟨rfl,_,rfl⟩
  ·have:=h.2 (k+1) (by simp;omega) (by omega)
   have o0:=other k (by omega) 0 (by omega)
   have o1:=other k (by omega) 1 (by omega)
   simp only[Nat.add_zero]at o0
   rw[o0,o1];exact this
def sD (r g n:Nat) (q:List (List UInt8)) (f:List UInt8) (w:World) (e:Ending) (w':World):Prop:=
 e= .returned (.bool (decide (q.length<n)))∧fG w' r g n (if q.length<n then q++[f]else q)∧Fr (fun b=>b=r∨b=g) w w'
def DS (r g n:Nat) (q:List (List UInt8)) (w:World) (e:Ending) (w':World):Prop:=
 e= .returned (.tuple #[.string (bs (q.headD [])),.bool (!q.isEmpty)])∧fG w' r g n q.tail∧Fr (fun b=>b=r∨b=g) w w'
theorem Cd (r g n:Nat) (q:List (List UInt8)) (f:List UInt8) (w:World) (hn:0<n) (hn2:n≤1000) (h:fG w r g n q):
 Calls Tryz.prog 32 #[.pointer (some ⟨r,0,none⟩),.string (bs f)] w (sD r g n q f w):=by
 obtain⟨i,cs,hr,hg,hs,hi,hq,hrg,hso⟩:=h
 have hm:=Nat.mod_lt (i+q.length) hn
 obtain⟨j,hj⟩:∃j,(i+q.length)%n=j:=⟨_,rfl⟩
 rw[hj]at hr hm
 have hrc:=hr.cells
 have hgf:=hg.frees
 by_cases hlt:q.length<n
 ·obtain⟨c0,s0,c1⟩:=hso.2 q.length (Nat.le_refl _) hlt
  rw[hj]at c0 c1
  have hg0:w.cell? ⟨g,j*2,none⟩=some (.bool false):=(hg.cell _).trans c0
  have hg1:w.cell? ⟨g,j*2+1,none⟩=some (.string s0):=(hg.cell _).trans c1
  have hne1:¬g=r:=fun x=>hrg x.symm
  unfold jU at hrc
  have hfr:=hr.frees
  go_enter Tryz.func32,Tryz.ntmps32
  go_wp2_with fail
  go_quiet (fail)
  have hr1:=hr.drewN nq
  have hg1':=hg.drewN nq
  have hf1:Fr (fun b=>b=r∨b=g) w (w.drewN nq):=(Fr.refl _ _).drewN nq
  obtain⟨w1,hw1⟩:∃w1,w.drewN nq=w1:=⟨_,rfl⟩
  rw[hw1]at hr1 hg1' hf1⊢
  clear hw1 hrc hgf hg0 hg1
  have hg0:w1.cell? ⟨g,j*2,none⟩=some (.bool false):=(hg1'.cell _).trans c0
  have hg1:w1.cell? ⟨g,j*2+1,none⟩=some (.string s0):=(hg1'.cell _).trans c1
  have hgf:=hg1'.frees
  go_upto_region 5 with fail
  have hg5:=(hg1'.set (j*2) (.bool true)).set (j*2+1) (.string (bs f))
  have hr5:=(hr1.far (p:=⟨g,j*2,none⟩) hrg (.bool true)).far (p:=⟨g,j*2+1,none⟩) hrg (.string (bs f))
  have hf5:Fr (fun b=>b=r∨b=g) w ((w1.setCell ⟨g,j*2,none⟩ (.bool true)).setCell ⟨g,j*2+1,none⟩ (.string (bs f))):=(hf1.setCell (p:=⟨g,j*2,none⟩) (fun _=> .inr rfl) _).setCell (p:=⟨g,j*2+1,none⟩) (fun _=> .inr rfl) _
  generalize(w1.setCell ⟨g,j*2,none⟩ (.bool true)).setCell ⟨g,j*2+1,none⟩ (.string (bs f))=w5 at*
  clear hg0 hg1 hgf hr1 hg1' hf1 hfr
  have q1:IntKind.i64.wrap ((j:Int)+1)=(j:Int)+1:=IntWalk.i64_in _ (by omega)
  have q3:¬n=0:=by omega
  refine wpr (fun w'=>Bk w' r 97 (jU g n j i)∧Bk w' g 101 ((cs.setIfInBounds (j*2) (.bool true)).setIfInBounds (j*2+1) (.string (bs f)))∧Fr (fun b=>b=r∨b=g) w w') [14] (.p 0 (.p 1 (.p 2 (.p 3 (.p 6 (.p 7 (.p 8 (.q 4 (.p 5 (.q 9 (.p 10 (.p 11 (.p 12 (.p 13 (.e 14 (.nil)))))))))))))))) (⟨hr5,hg5,hf5.drew⟩) ?_
  intro ops Q' hO hQ' wr1 hR1
  iterate 7 refine pP hO ?_
  refine pQ hO rfl rfl (fun w' hS=>by have hSc:=hS.1.cells;unfold jU at hSc;exact qd) ?_
  refine pP hO ?_
  refine pQ hO rfl rfl (fun w' hS=>by have hSc:=hS.1.cells;unfold jU at hSc;exact qd) ?_
  iterate 4 refine pP hO ?_
  refine gC hO rfl rfl rfl (fun K hK=> ?_)
  have hcz:=hR1.1.cells
  have hfz:=hR1.1.frees
  unfold jU at hcz
  go_simp
  refine hK _ _ ?_
  clear hK K
  refine bV (hQ' _ _ ?_)
  obtain⟨hr6,hg6,hf6⟩:=hR1
  have hr7:=hr6.set 1 (.int .i64 (((j:Int)+1).tmod (n:Int)))
  have hg7:=hg6.far (p:=⟨r,1,none⟩) (fun x=>hrg x.symm) (.int .i64 (((j:Int)+1).tmod (n:Int)))
  have hf7:=hf6.setCell (p:=⟨r,1,none⟩) (fun _=> .inl rfl) (.int .i64 (((j:Int)+1).tmod (n:Int)))
  have hjm:((j:Int)+1).tmod (n:Int)=(((i+(q++[f]).length)%n:Nat):Int):=by
   rw[List.length_append,List.length_cons,List.length_nil,←Nat.add_assoc,←Nat.mod_add_mod,hj];rfl
  have Hjm:=Lib.hid hjm
  have hso2:=Cq (f:=f) hn hs hlt hso
  rw[hj]at hso2
  have Hso2:=Lib.hid hso2
  clear hjm hj hso2
  go_wp2_with fail
  go_ret
  unfold sD
  rw[decide_eq_true hlt,if_pos hlt]
  refine⟨rfl,?_,hf7⟩
  refine⟨i,_,?_,hg7,by simp[hs],hi,by simp;omega,hrg,?_⟩
  ·rw[show jU g n ((i+(q++[f]).length)%n) i=(jU g n j i).setIfInBounds 1 (.int .i64 (((i+(q++[f]).length)%n:Nat):Int))from rfl,←Hjm.out];exact hr7
  ·exact Hso2.out
 ·have hqn:q.length=n:=by omega
  obtain⟨f0,q0⟩:∃f0,q[0]? =some f0:=⟨_,List.getElem?_eq_getElem (by omega)⟩
  obtain⟨c0,c1⟩:=hso.1 0 f0 q0
  have hji:j=i:=by rw[←hj,hqn];simp[Nat.mod_eq_of_lt hi]
  rw[Nat.add_zero,Nat.mod_eq_of_lt hi,←hji]at c0
  have hg0:w.cell? ⟨g,j*2,none⟩=some (.bool true):=(hg.cell _).trans c0
  have hpre:=hj
  unfold jU at hrc
  have Hj:=Lib.hid hj
  have Hlt:=Lib.hid hlt
  clear hj hpre hji c0 c1 hqn q0 hlt
  go_enter Tryz.func32,Tryz.ntmps32
  go_wp2_with fail
  go_quiet (fail)
  go_wp2_with fail
  go_ret
  unfold sD
  rw[decide_eq_false Hlt.out,if_neg Hlt.out]
  exact⟨rfl,⟨i,cs,by rw[Hj.out];exact hr.drewN nq,hg.drewN nq,hs,hi,hq,hrg,hso⟩,(Fr.refl _ _).drewN nq⟩
theorem zW (r g n:Nat) (q:List (List UInt8)) (w:World) (hn:0<n) (hn2:n≤1000) (h:fG w r g n q):
 Calls Tryz.prog 33 #[.pointer (some ⟨r,0,none⟩)] w (DS r g n q w):=by
 obtain⟨i,cs,hr,hg,hs,hi,hq,hrg,hso⟩:=h
 have hm:=Nat.mod_lt (i+q.length) hn
 have hrc:=hr.cells
 unfold jU at hrc
 cases q with
 |nil=>
  obtain⟨c0,s0,c1⟩:=hso.2 0 (Nat.zero_le _) hn
  rw[Nat.add_zero,Nat.mod_eq_of_lt hi]at c0
  have hg0:w.cell? ⟨g,i*2,none⟩=some (.bool false):=(hg.cell _).trans c0
  clear c0 c1
  go_enter Tryz.func33,Tryz.ntmps33
  go_wp2_with fail
  go_quiet (fail)
  go_wp2_with fail
  go_ret2
  exact⟨rfl,⟨i,cs,hr.drewN nq,hg.drewN nq,hs,hi,hq,hrg,hso⟩,(Fr.refl _ _).drewN nq⟩
 |cons f q=>
  obtain⟨c0,c1⟩:=hso.1 0 f rfl
  simp only[Nat.add_zero,Nat.mod_eq_of_lt hi]at c0 c1
  obtain⟨j,hj⟩:∃j,(i+(f::q).length)%n=j:=⟨_,rfl⟩
  rw[hj]at hr hm hrc
  have hg0:w.cell? ⟨g,i*2,none⟩=some (.bool true):=(hg.cell _).trans c0
  have hg1:w.cell? ⟨g,i*2+1,none⟩=some (.string (bs f)):=(hg.cell _).trans c1
  have hne1:¬g=r:=fun x=>hrg x.symm
  have hso2:=Am hn hi hs hq hso
  have Hso2:=Lib.hid hso2
  have hjj:j=((i+1)%n+q.length)%n:=by rw[Nat.mod_add_mod,←hj];congr 1;simp only[List.length_cons];omega
  have Hjj:=Lib.hid hjj
  have hq2:q.length≤n:=by simp only[List.length_cons]at hq;omega
  clear hso hso2 hjj hj hq
  go_enter Tryz.func33,Tryz.ntmps33
  go_wp2_with fail
  go_quiet (fail)
  have hr1:=hr.drewN nq
  have hg1':=hg.drewN nq
  have hf1:Fr (fun b=>b=r∨b=g) w (w.drewN nq):=(Fr.refl _ _).drewN nq
  obtain⟨w1,hw1⟩:∃w1,w.drewN nq=w1:=⟨_,rfl⟩
  rw[hw1]at hr1 hg1' hf1⊢
  clear hw1 hrc hg0 hg1
  have hg0:w1.cell? ⟨g,i*2,none⟩=some (.bool true):=(hg1'.cell _).trans c0
  have hg1:w1.cell? ⟨g,i*2+1,none⟩=some (.string (bs f)):=(hg1'.cell _).trans c1
  have hgf:=hg1'.frees
  go_upto_region 6 with fail
  have hg5:=(hg1'.set (i*2) (.bool false)).set (i*2+1) (.string ⟨#[]⟩)
  have hr5:=(hr1.far (p:=⟨g,i*2,none⟩) hrg (.bool false)).far (p:=⟨g,i*2+1,none⟩) hrg (.string ⟨#[]⟩)
  have hf5:Fr (fun b=>b=r∨b=g) w ((w1.setCell ⟨g,i*2,none⟩ (.bool false)).setCell ⟨g,i*2+1,none⟩ (.string ⟨#[]⟩)):=(hf1.setCell (p:=⟨g,i*2,none⟩) (fun _=> .inr rfl) _).setCell (p:=⟨g,i*2+1,none⟩) (fun _=> .inr rfl) _
  generalize(w1.setCell ⟨g,i*2,none⟩ (.bool false)).setCell ⟨g,i*2+1,none⟩ (.string ⟨#[]⟩)=w5 at*
  clear hg0 hg1 hgf hr1 hg1' hf1
  have q1:IntKind.i64.wrap ((i:Int)+1)=(i:Int)+1:=IntWalk.i64_in _ (by omega)
  have q3:¬n=0:=by omega
  refine wpr (fun w'=>Bk w' r 97 (jU g n j i)∧Bk w' g 101 ((cs.setIfInBounds (i*2) (.bool false)).setIfInBounds (i*2+1) (.string ⟨#[]⟩))∧Fr (fun b=>b=r∨b=g) w w') [14] (.p 0 (.p 1 (.p 2 (.p 3 (.p 6 (.p 7 (.p 8 (.q 4 (.p 5 (.q 9 (.p 10 (.p 11 (.p 12 (.p 13 (.e 14 (.nil)))))))))))))))) (⟨hr5,hg5,hf5.drew⟩) ?_
  intro ops Q' hO hQ' wr1 hR1
  iterate 7 refine pP hO ?_
  refine pQ hO rfl rfl (fun w' hS=>by have hSc:=hS.1.cells;unfold jU at hSc;exact qd) ?_
  refine pP hO ?_
  refine pQ hO rfl rfl (fun w' hS=>by have hSc:=hS.1.cells;unfold jU at hSc;exact qd) ?_
  iterate 4 refine pP hO ?_
  refine gC hO rfl rfl rfl (fun K hK=> ?_)
  have hcz:=hR1.1.cells
  have hfz:=hR1.1.frees
  unfold jU at hcz
  go_simp
  refine hK _ _ ?_
  clear hK K
  refine bV (hQ' _ _ ?_)
  obtain⟨hr6,hg6,hf6⟩:=hR1
  have hr7:=hr6.set 2 (.int .i64 (((i:Int)+1).tmod (n:Int)))
  have hg7:=hg6.far (p:=⟨r,2,none⟩) (fun x=>hrg x.symm) (.int .i64 (((i:Int)+1).tmod (n:Int)))
  have hf7:=hf6.setCell (p:=⟨r,2,none⟩) (fun _=> .inl rfl) (.int .i64 (((i:Int)+1).tmod (n:Int)))
  have hjm:((i:Int)+1).tmod (n:Int)=(((i+1)%n:Nat):Int):=rfl
  have Hjm:=Lib.hid hjm
  clear hjm
  go_wp2_with fail
  go_ret2
  refine⟨rfl,⟨(i+1)%n,_,?_,hg7,by simp[hs],Nat.mod_lt _ hn,hq2,hrg,Hso2.out⟩,hf7⟩
  rw[List.tail_cons,←Hjj.out,show jU g n j ((i+1)%n)=(jU g n j i).setIfInBounds 2 (.int .i64 ((((i+1)%n:Nat)):Int))from rfl,←Hjm.out]
  exact hr7
end Go.Proofs.YtcllkmllflheiaaGreatDoor
namespace Go.Proofs.YtcllkmllflheiaaGreatDoor
open Go.RowKit Go.Proofs
attribute [local go_sem] aG aD aE
def Gy (w:World):Prop:=Lib.Utf8Tabs 8 9 w
theorem bK {w:World} {a:Addr} {v:Value} (h:w.cell? a=some v):a.block<w.heap.size:=by
 rcases Nat.lt_or_ge a.block w.heap.size with h1|h1
 ·exact h1
 ·unfold World.cell? at h;rw[Array.getElem?_eq_none h1]at h;cases h
theorem Gy.keep {w w':World} {S:Nat→Prop} (h:Gy w) (hf:Fr S w w') (h1:¬S 8) (h2:¬S 9):Gy w':=by
 refine⟨fun c hc=> ?_,fun i hi=>⟨?_,?_⟩⟩
 ·have:=h.1 c hc;exact(hf.cell (bK this) h1).trans this
 ·have:=(h.2 i hi).1;exact(hf.cell (bK this) h2).trans this
 ·have:=(h.2 i hi).2;exact(hf.cell (bK this) h2).trans this
theorem Gy.lt {w:World} (h:Gy w):8<w.heap.size∧9<w.heap.size:=⟨bK (h.1 0 (by omega)),bK (h.2 0 (by omega)).1⟩
end Go.Proofs.YtcllkmllflheiaaGreatDoor
namespace Go.Proofs.YtcllkmllflheiaaGreatDoor
open Go.RowKit Go.Proofs
def RU (w:World) (g:Nat) (l:List UInt32):Prop:=g<w.heap.size∧∀(k:Nat) (x:UInt32),l[k]? =some x→w.cell? ⟨g,k,none⟩=some (.int .u32 (x.toNat:Int))
theorem RU.keep {S:Nat→Prop} {w w':World} {g:Nat} {l:List UInt32} (h:RU w g l) (hf:Fr S w w') (hg:¬S g):RU w' g l:=
 ⟨Nat.lt_of_lt_of_le h.1 hf.size,fun k x hx=>(hf.cell (a:=⟨g,k,none⟩) h.1 hg).trans (h.2 k x hx)⟩
end Go.Proofs.YtcllkmllflheiaaGreatDoor
