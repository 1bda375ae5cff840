/- Parts of the walk; written by programs, merged. -/
import Derived.Test.YtcbkaiakdhiloacGreatDoorRap
import Derived.Laws.StructEq
import Derived.DeepKeys
set_option linter.unusedSimpArgs false
set_option linter.unusedVariables false
set_option maxRecDepth 20000
set_option maxHeartbeats 8000000
namespace Go.Proofs.YtcbkaiakdhiloacGreatDoor
open Go.RowKit Go.Proofs
attribute [local simp] dM ibq ibn eqN ltN leN eqL ltL gtL leL geL
attribute [local go_sem] aG aD aC aE
structure CB (w:World) (L:Lay) (d:sI) (A:Option Addr) (cap n g:Nat):Prop where
 bk:Bk w g 62 #[.bool d.reply,.int .u32 (d.xid:Int),.int .u32 (d.client:Int),.int .u32 (d.yours:Int),.int .u32 (d.next:Int),.int .u8 (d.mac.1.toNat:Int),.int .u8 (d.mac.2.1.toNat:Int),.int .u8 (d.mac.2.2.1.toNat:Int),.int .u8 (d.mac.2.2.2.1.toNat:Int),.int .u8 (d.mac.2.2.2.2.1.toNat:Int),.int .u8 (d.mac.2.2.2.2.2.toNat:Int),.slice A n cap]
 sl:SlR w (bM L) 2 A n (fY d.os)
 ng:¬bM L g
 hn:d.os.length=n
 wt:wtO d.os≤1099511627776
 yours:d.yours<4294967296
 next:d.next<4294967296
theorem CB.keep {w w':World} {L:Lay} {d:sI} {A:Option Addr} {cap n g:Nat} (h:CB w L d A cap n g) (hf:Fr (bM L) w w'):CB w' L d A cap n g:=
 ⟨h.bk.keep hf h.ng,h.sl.keep hf,h.ng,h.hn,h.wt,h.yours,h.next⟩
theorem CB.none {w w':World} {L:Lay} {d:sI} {A:Option Addr} {cap n g:Nat} (h:CB w L d A cap n g) (hf:Fr noB w w'):CB w' L d A cap n g:=h.keep (hf.of_no _)
theorem Dl (os:List bK):St.routerOf os=fT os 3 true:=by
 unfold St.routerOf fT
 cases eF os 3 with
 |none=>rfl
 |some d=>
  simp only
  by_cases h:4≤d.length
  ·rw[if_pos h,if_pos (.inr ⟨trivial,h⟩)]
  ·rw[if_neg h,if_neg (by rintro(x|⟨_,x⟩)<;>omega)]
def St.ackedP (s:St) (d:sI) (fm:Nat):St:=if fm=s.server∨s.lease=6 then s.granted d fm else s
theorem AC (s:St) (d:sI) (t:Nat):(s.times d t).lease=s.lease∧(s.times d t).addr=s.addr∧(s.times d t).now=s.now:=by
 unfold St.times;split<;>exact⟨rfl,rfl,rfl⟩
theorem CL (L:Lay) (s:St) (d:sI) (A:Option Addr) (cap n fm:Nat) (w:World) (h:aA w L s) (hn:d.os.length=n) (hA:SlR w (bM L) 2 A n (fY d.os)) (hwt:wtO d.os≤1099511627776) (hfm:fm<4294967296) (hy:d.yours<4294967296) (hnx:d.next<4294967296):
 Calls Tryz.prog 190 #[.pointer (some ⟨L.p,0,none⟩),.agg #[.bool d.reply,.int .u32 (d.xid:Int),.int .u32 (d.client:Int),.int .u32 (d.yours:Int),.int .u32 (d.next:Int),.int .u8 (d.mac.1.toNat:Int),.int .u8 (d.mac.2.1.toNat:Int),.int .u8 (d.mac.2.2.1.toNat:Int),.int .u8 (d.mac.2.2.2.1.toNat:Int),.int .u8 (d.mac.2.2.2.2.1.toNat:Int),.int .u8 (d.mac.2.2.2.2.2.toNat:Int),.slice A n cap],.int .u32 (fm:Int)] w (bH L (s.ackedP d fm) (.tuple #[]) w):=by
 have num51:St.number d.os 51=fT d.os 51 false:=kG _ _
 refine en Tryz.func190 Tryz.ntmps190 ?_
 refine W ?_
 refine sA ?_
 intro w1 hG f1
 have h1:=h.none f1
 have hD:CB w1 L d A cap n w.heap.size:=⟨hG,hA.keep (f1.of_no _),fun hx=>Nat.lt_irrefl _ (h.lt _ hx),hn,hwt,hy,hnx⟩
 generalize w.heap.size=g at*
 clear hG h
 refine W ?_
 refine sC (gT d A cap n 51 false w1 hn (hD.sl.sub fun b _ x=>x.elim) hwt) ?_
 intro w2 f2
 have h2:=h1.none f2
 have hD2:=hD.none f2
 have f02:=f1.none f2
 clear h1 hD f1 f2
 refine V ?_
 obtain⟨b,hb⟩:∃b,b=decide (s.lease=2∨s.lease=5∨s.lease=6):=⟨_,rfl⟩
 refine cS ?_
 refine cM [0,2,4,6,7,8] [(9,.bool b)] (fun w'=>w'=w2) ?_ ?_
 ·have hlt:s.lease=2∨s.lease=5∨s.lease=6∨s.lease≠2∧s.lease≠5∧s.lease≠6:=by omega
  rcases hlt with y|y|y|⟨y,y',y''⟩<;>refine W ?_<;>exact mt rfl
 intro u w' hw
 subst w'
 refine cS ?_
 refine cS ?_
 have Hb:=Lib.hid hb
 obtain⟨c,hc⟩:∃c,c=decide (¬(b=true∧(fT d.os 51 false).isSome=true∧(fT d.os 51 false).getD 0≠0∧d.yours=s.addr∧(fm=s.server∨s.lease=6))):=⟨_,rfl⟩
 clear hb
 refine cM [0,2,4,6,7] [(74,.bool c)] (fun w'=>Fr noB w2 w') ?_ ?_
 ·cases b
  rotate_left
  by_cases a2:(fT d.os 51 false).isSome=true
  by_cases a3:(fT d.os 51 false).getD 0=0
  rotate_left
  by_cases a4:d.yours=s.addr
  by_cases a5:fm=s.server
  rotate_left
  by_cases a6:s.lease=6
  all_goals
   refine dI (An h2 hD2.bk) [] (up 34 0) (h:= ?_)
   intro w3 hS f3
   refine D ?_
   refine tN ?_
   exact mt f3
 intro u w3 f3
 have h3:=h2.none f3
 have hD3:=hD2.none f3
 have f03:=f02.none f3
 clear h2 hD2 f02 f3
 refine cC (fun h=> ?_) fun h=> ?_
 ·have hno:=of_decide_eq_true (hc.symm.trans h)
  rw[Hb.out,decide_eq_true_eq]at hno
  clear hc
  refine W ?_
  refine⟨rfl,?_,f03.of_no _⟩
  have he:s.ackedP d fm=s:=by
   unfold St.ackedP
   by_cases hk:fm=s.server∨s.lease=6
   ·rw[if_pos hk]
    unfold St.granted
    rw[num51]
    cases hq:fT d.os 51 false with
    |none=>rfl
    |some t=>
     simp only
     rw[if_pos]
     refine Decidable.byContradiction fun hc=>hno ?_
     simp only[not_or,Decidable.not_not]at hc
     rw[hq]
     exact⟨by omega,rfl,hc.2.1,hc.2.2,hk⟩
   ·rw[if_neg hk]
  rw[he];exact h3
 obtain⟨y1,y2,y3,y4,y5⟩:=Decidable.not_not.1 (of_decide_eq_false (hc.symm.trans h))
 rw[Hb.out,decide_eq_true_eq]at y1
 obtain⟨t,ht⟩:=Option.isSome_iff_exists.1 y2
 have htl:=nV _ _ _ _ ht
 rw[ht]at y3⊢
 rw[Option.getD_some]at y3⊢
 clear h hc
 refine W ?_
 refine sB {s with server:=fm} {h3.ok with server:=hfm} h3 ?_
 intro w4 h4 f4
 refine W ?_
 refine sB {s with server:=fm,mask:=4294967295} {h4.ok with mask:=Nat.lt_succ_self _} h4 ?_
 intro w5 h5 f5
 refine W ?_
 refine sB {s with server:=fm,mask:=4294967295,router:=0} {h5.ok with router:=Nat.zero_lt_succ _} h5 ?_
 intro w6 h6 f6
 refine W ?_
 refine sB {s with server:=fm,mask:=4294967295,router:=0,source:=fm} {h6.ok with source:=hfm} h6 ?_
 intro w7 h7 f7
 have f37:=(f03.of_no (bM L)).trans (((f4.trans f5).trans f6).trans f7)
 have hD7:=hD3.keep (((f4.trans f5).trans f6).trans f7)
 clear f4 f5 f6 f7 h4 h5 h6 h3 hD3 f03
 obtain⟨v,hv⟩:∃v:St,v={s with server:=fm,mask:=4294967295,router:=0,source:=fm}:=⟨_,rfl⟩
 rw[←hv]at h7
 have he:s.ackedP d fm=(if v.lease=2 then({({v with mask:=(fT d.os 1 false).getD 4294967295,router:=(fT d.os 3 true).getD 0,source:=if d.next≠0 then d.next else v.source}:St).times d t with lease:=3,lagain:=wrap64 (v.now+2)}:St).ask 0 v.addr else {({v with mask:=(fT d.os 1 false).getD 4294967295,router:=(fT d.os 3 true).getD 0,source:=if d.next≠0 then d.next else v.source}:St).times d t with lease:=4}):=by
  subst hv
  unfold St.ackedP
  rw[if_pos y5]
  unfold St.granted
  rw[num51,ht]
  simp only
  rw[if_neg (by rintro(x|x|x);exact x y1;exact y3 x;exact x y4),kG,Dl]
 have hm:v.mask=4294967295:=by rw[hv]
 have hr:v.router=0:=by rw[hv]
 clear hv y5 y4 y1 y2 Hb num51
 rw[he]
 clear he
 refine V ?_
 refine cS ?_
 refine cM [0,4,6,7] [] (fun w'=>aA w' L {v with mask:=(fT d.os 1 false).getD 4294967295}∧Fr (bM L) w7 w') ?_ ?_
 ·refine W ?_
  refine sC (gT d A cap n 1 false w7 hn (hD7.sl.sub fun b _ x=>x.elim) hwt) ?_
  intro w8 f8
  have h8:=h7.none f8
  cases hq:fT d.os 1 false with
  |none=>refine W ?_;exact mt ⟨by rw[Option.getD_none,←hm];exact h8,f8.of_no _⟩
  |some x=>
   refine W ?_
   refine sB {v with mask:=x} {h8.ok with mask:=nV _ _ _ _ hq} h8 ?_
   intro w9 h9 f9
   refine W ?_
   exact mt ⟨h9,(f8.of_no _).trans f9⟩
 rintro u w8 ⟨h8,f8⟩
 have hD8:=hD7.keep f8
 refine cS ?_
 refine cM [0,4,6,7] [] (fun w'=>aA w' L {v with mask:=(fT d.os 1 false).getD 4294967295,router:=(fT d.os 3 true).getD 0}∧Fr (bM L) w8 w') ?_ ?_
 ·refine W ?_
  refine sC (gT d A cap n 3 true w8 hn (hD8.sl.sub fun b _ x=>x.elim) hwt) ?_
  intro w9 f9
  have h9:=h8.none f9
  cases hq:fT d.os 3 true with
  |none=>refine W ?_;exact mt ⟨by rw[Option.getD_none,←hr];exact h9,f9.of_no _⟩
  |some x=>
   refine W ?_
   refine sB {v with mask:=(fT d.os 1 false).getD 4294967295,router:=x} {h9.ok with router:=nV _ _ _ _ hq} h9 ?_
   intro w10 h10 f10
   refine W ?_
   exact mt ⟨h10,(f9.of_no _).trans f10⟩
 rintro u w9 ⟨h9,f9⟩
 have hD9:=hD8.keep f9
 generalize(fT d.os 1 false).getD 4294967295=m1 at*
 generalize(fT d.os 3 true).getD 0=m2 at*
 refine cS ?_
 refine cM [0,4,6,7] [] (fun w'=>aA w' L {v with mask:=m1,router:=m2,source:=if d.next≠0 then d.next else v.source}∧Fr (bM L) w9 w') ?_ ?_
 ·by_cases hz:d.next=0
  ·refine W ?_
   rw[if_neg (fun x=>x hz)]
   exact mt ⟨h9,Fr.refl _ _⟩
  ·refine W ?_
   rw[if_pos hz]
   refine sB {v with mask:=m1,router:=m2,source:=d.next} {h9.ok with source:=hnx} h9 ?_
   intro w10 h10 f10
   refine W ?_
   exact mt ⟨h10,f10⟩
 rintro u w10 ⟨h10,f10⟩
 have hD10:=hD9.keep f10
 generalize(if d.next≠0 then d.next else v.source)=m3 at*
 refine W ?_
 refine sC (Db L _ d A cap n t w10 h10 hn hD10.sl hwt htl) ?_
 rintro w11 ⟨h11,f11⟩
 have f:=f37.trans (((f8.trans f9).trans f10).trans f11)
 have hT:=AC ({v with mask:=m1,router:=m2,source:=m3}:St) d t
 clear f8 f9 f10 f11 f37 h10 h9 h8 h7 hD7 hD8 hD9 hD10
 generalize({v with mask:=m1,router:=m2,source:=m3}:St).times d t=x at*
 dsimp only at hT
 obtain⟨t1,t2,t3⟩:=hT
 rw[←t1,←t2,←t3]
 clear t1 t2 t3
 by_cases hl:x.lease=2
 ·rw[if_pos hl]
  refine W ?_
  refine sB {x with lease:=3} {h11.ok with} h11 ?_
  intro w12 h12 f12
  refine W ?_
  rw[mM]
  refine sB {x with lease:=3,lagain:=wrap64 (x.now+2)} {h12.ok with} h12 ?_
  intro w13 h13 f13
  refine W ?_
  refine sC (wK L _ 0 x.addr w13 h13 (by decide) h13.ok.addr) ?_
  rintro w14 ⟨h14,f14⟩
  refine W ?_
  exact⟨rfl,h14,f.trans ((f12.trans f13).trans f14)⟩
 ·rw[if_neg hl]
  refine W ?_
  refine sB {x with lease:=4} {h11.ok with} h11 ?_
  intro w12 h12 f12
  refine W ?_
  exact⟨rfl,h12,f.trans f12⟩
end Go.Proofs.YtcbkaiakdhiloacGreatDoor
namespace Go.Proofs.YtcbkaiakdhiloacGreatDoor
open Go.RowKit Go.Proofs
section
variable {P:Program} (w:World)
def Dh (P:Program) (e:TypeId) (xs:Array Value) (off:Nat):Option Value:=
 match P.underlying e with
 |some (.struct _)=>some (.agg (xs.extract off (off+P.cellsOf e)))
 |some (.array _ _)=>some (.agg (xs.extract off (off+P.cellsOf e)))
 |some _=>xs[off]?
 |none=>none
theorem zU {e:TypeId} {xs:Array Value} {off:Nat} {a:Value} (h:Dh P e xs off=some a):(part e xs off).run P w= .ok a w:=by
 unfold Dh at h
 cases hu:P.underlying e with
 |none=>simp[hu]at h
 |some kd=>
  obtain⟨i,hi⟩:=info_of_underlying hu
  cases kd<;>simp[hu]at h<;>first|(subst h;simp[part,isAgg,run_underlying hu,run_sizeOf w hi])|simp[part,isAgg,run_underlying hu,h]
end
end Go.Proofs.YtcbkaiakdhiloacGreatDoor
namespace Go.Proofs.YtcbkaiakdhiloacGreatDoor
open Go.RowKit Go.Proofs
theorem fN {P:Program} (w:World) (d:Nat) {e:TypeId} {c:Nat} {xs ys:Array Value} {i:Nat} {is:List Nat} (a b:UInt8) (hu:P.underlying e=some (.int .u8))
 (h1:Dh P e xs (i*c)=some (.int .u8 (a.toNat:Int))) (h2:Dh P e ys (i*c)=some (.int .u8 (b.toNat:Int))):
 (Op.eqItems (d+1) e c xs ys (i::is)).run P w=if a=b then(Op.eqItems (d+1) e c xs ys is).run P w else .ok false w:=by
 simp only[Op.eqItems,Sem.run_bind,zU w h1,zU w h2,Result.andThen_ok,run_equalIn_int w d e _ _ _ _ hu]
 by_cases h:a=b
 ·subst h
  simp
 ·have:((a.toNat:Int)==(b.toNat:Int))=false:=by
   rw[beq_eq_false_iff_ne];intro x;exact h (UInt8.toNat_inj.1 (by omega))
  simp[this,h]
def xF (a:Mac):Array Value:= #[.int .u8 (a.1.toNat:Int),.int .u8 (a.2.1.toNat:Int),.int .u8 (a.2.2.1.toNat:Int),.int .u8 (a.2.2.2.1.toNat:Int),.int .u8 (a.2.2.2.2.1.toNat:Int),.int .u8 (a.2.2.2.2.2.toNat:Int)]
theorem D5 (a b:Mac) (w:World):(Op.equalIn 10000 26 (.agg (xF a)) (.agg (xF b))).run Tryz.prog w= .ok (decide (a=b)) w:=by
 obtain⟨a0,a1,a2,a3,a4,a5⟩:=a
 obtain⟨b0,b1,b2,b3,b4,b5⟩:=b
 obtain⟨i,hi⟩:=info_of_underlying (P:=Tryz.prog) Tryz.underlying5
 have hp:∀(xs:Array Value) (k:Nat),Dh Tryz.prog 5 xs k=xs[k]? :=fun xs k=>by unfold Dh;rw[Tryz.underlying5]
 have hc:Tryz.prog.cellsOf 5=1:=by kernel_rfl
 rw[show(10000:Nat)=9998+1+1 from rfl,run_equalIn_array w (9998+1) _ _ Tryz.underlying26 hi,hc]
 simp only[show(List.range 6)=[0,1,2,3,4,5]from rfl]
 rw[fN w 9998 a0 b0 Tryz.underlying5 (by rw[hp];rfl) (by rw[hp];rfl),fN w 9998 a1 b1 Tryz.underlying5 (by rw[hp];rfl) (by rw[hp];rfl),
  fN w 9998 a2 b2 Tryz.underlying5 (by rw[hp];rfl) (by rw[hp];rfl),fN w 9998 a3 b3 Tryz.underlying5 (by rw[hp];rfl) (by rw[hp];rfl),
  fN w 9998 a4 b4 Tryz.underlying5 (by rw[hp];rfl) (by rw[hp];rfl),fN w 9998 a5 b5 Tryz.underlying5 (by rw[hp];rfl) (by rw[hp];rfl)]
 simp only[Op.eqItems,Sem.run_pure,Prod.mk.injEq]
 by_cases h0:a0=b0<;>simp[h0]
 by_cases h1:a1=b1<;>simp[h1]
 by_cases h2:a2=b2<;>simp[h2]
 by_cases h3:a3=b3<;>simp[h3]
 by_cases h4:a4=b4<;>simp[h4]
 by_cases h5:a5=b5<;>simp[h5]
theorem Jp (a b:Mac) (w:World):(binOp .eql 26 (.agg (xF a)) (.agg (xF b))).run Tryz.prog w= .ok (.bool (decide (a=b))) w:=by
 rw[run_eql_struct w _ _ _,D5];rfl
theorem mH (a b:Mac) (w:World):(binOp .neq 26 (.agg (xF a)) (.agg (xF b))).run Tryz.prog w= .ok (.bool (decide (a≠b))) w:=by
 rw[run_neq_struct w _ _ _,D5]
 simp[Result.andThen]
theorem iA:Tryz.prog.eqGuardType Tryz.prog.depth 26=false:=by kernel_rfl
end Go.Proofs.YtcbkaiakdhiloacGreatDoor
namespace Go.Proofs.YtcbkaiakdhiloacGreatDoor
open Go.RowKit Go.Proofs
attribute [local go_sem] aG aD aC
def Jt (p:Nat) (w:World):Nat:=match w.cell? ⟨p,0,none⟩with
 |some (.string s)=>s.size
 |_=>0
theorem nC {p:Nat} {w:World} {l:List UInt8} (h:Rd w p l):Jt p w=l.length:=by
 unfold Jt
 rw[Bk.cell h 0]
 exact aG l
def prB (p:Nat) (F:Nat→Prop):Nat→Prop:=fun k=>k=p∨F k
def MI (pl:Nat) (F:Nat→Prop) (p:Nat) (os:List bK) (l:List UInt8) (w:World) (e:Ending) (w':World):Prop:=
 (∃os' r,eG os l=some os'∧e= .returned (.tuple #[])∧LsA w' pl F os'∧Rd w' p r∧wtO os'≤wtO os+l.length∧Fr (prB p F) w w')∨
 (eG os l=none∧e= .panicked (cE 1)∧Fr (prB p F) w w')
theorem EA {a:List UInt8} (h:a.length=1):∃c:UInt8,a=[c]∧num a=c.toNat:=by
 match a,h with
 |[c],_=>exact⟨c,rfl,by simp[num]⟩
theorem EC (pl:Nat) (F:Nat→Prop) (p:Nat) (os:List bK) (l:List UInt8) (w:World) (hL:LsA w pl F os) (hR:Rd w p l) (hpb:¬F p) (hF:∀k,w.heap.size≤k→F k) (hwt:wtO os+l.length≤1099511627000):
 Calls Tryz.prog 100 #[.pointer (some ⟨pl,0,none⟩),.pointer (some ⟨p,0,none⟩)] w (MI pl F p os l w):=by
 have HF:=Lib.hid hF
 clear hF
 go_enter Tryz.func100,Tryz.ntmps100
 go_wp2_with fail
 go_loopw [] (fun wr=>∃os1 l1,eG os l=eG os1 l1∧LsA wr pl F os1∧Rd wr p l1∧wtO os1+l1.length≤wtO os+l.length∧Fr (prB p F) w wr) (fun wr=>Jt p wr)
 case atStart=>exact⟨os,l,rfl,hL,hR,by omega,Fr.refl _ _⟩
 case round=>
  obtain⟨os1,l1,e1,hL1,hR1,hw1,hf1⟩:=hrel
  have hno:∀k,F k→¬aI p k:=fun k hk e=>by unfold aI at e;exact hpb (e▸hk)
  have hone:∀{x y:World},Fr (aI p) x y→Fr (prB p F) x y:=fun h=>h.mono fun b _ e=> .inl e
  go_wp2_with fail
  refine(tU8 p l1 _ hR1 (by omega)).mono ?_
  rintro e w2 (⟨a1,r1,c1,b1,rfl,hR2,hf2⟩|⟨hlt,rfl,hf2⟩)
  rotate_left
  ·refine⟨rfl,.inr ⟨?_,rfl,hf1.trans (hone hf2)⟩⟩
   rw[e1,List.eq_nil_of_length_eq_zero (by omega:l1.length=0)];rfl
  obtain⟨c,rfl,hn1⟩:=EA c1.2
  have hl1:l1=c::r1:=c1.1
  have hL2:=hL1.keep hf2 hno
  have hf3:=hf1.trans (hone hf2)
  have hlen:l1.length=r1.length+1:=by rw[hl1];rfl
  have hmu:=nC hR1
  have hmu2:=nC hR2
  have hv:(fun a=>Value.int .u8 (num a)) [c]= .int .u8 (c.toNat:Int):=by simp only[hn1]
  rw[hv]
  clear hv
  have E1:=Lib.hid e1
  have HL1:=Lib.hid hl1
  clear e1 hl1 c1 hn1 hR1 hL1
  by_cases h0:c=0
  ·subst h0
   have hrel2:Hid (eG os l=eG os1 r1):=Lib.hid (by rw[E1.out,HL1.out,DJ])
   go_wp2_with fail
   exact⟨⟨os1,r1,hrel2.out,hL2,hR2,by omega,hf3⟩,by omega⟩
  ·have h0i:¬(c.toNat:Int)=0:=fun e=>h0 (UInt8.toNat.inj (by simpa using e))
   by_cases h5:c=255
   ·subst h5
    have hrel2:Hid (eG os l=some os1):=Lib.hid (by rw[E1.out,HL1.out,xJ])
    go_wp2_with fail
    refine bodyPost_ret (v:= .tuple #[]) ?_ ?_ ?_
    ·exact results_none rfl _ _ _
    ·rfl
    exact .inl ⟨os1,r1,hrel2.out,rfl,hL2,hR2,by omega,hf3⟩
   ·have h5i:¬(c.toNat:Int)=255:=fun e=>h5 (UInt8.toNat.inj (show c.toNat=255 by omega))
    have H0:=Lib.hid h0
    have H5:=Lib.hid h5
    clear h0 h5
    go_wp2_with fail
    refine(tU8 p r1 _ hR2 (by omega)).mono ?_
    rintro e w3 (⟨a2,r2,c2,b2,rfl,hR3,hf4⟩|⟨hlt,rfl,hf4⟩)
    rotate_left
    ·refine⟨rfl,.inr ⟨?_,rfl,hf3.trans (hone hf4)⟩⟩
     rw[E1.out,HL1.out,List.eq_nil_of_length_eq_zero (by omega:r1.length=0)]
     exact DF _ _ H5.out H0.out
    obtain⟨k,rfl,hn2⟩:=EA c2.2
    have hl2:r1=k::r2:=c2.1
    have hL3:=hL2.keep hf4 hno
    have hf5:=hf3.trans (hone hf4)
    have hlen2:r1.length=r2.length+1:=by rw[hl2];rfl
    have hmu3:=nC hR3
    have hv:(fun a=>Value.int .u8 (num a)) [k]= .int .u8 (k.toNat:Int):=by simp only[hn2]
    rw[hv]
    clear hv
    have HL2:=Lib.hid hl2
    have hk:=k.toNat_lt
    clear hl2 c2 hn2 hR2 hL2
    go_wp2_with fail
    refine(L5 k.toNat p r2 _ hR3 (by omega) (by omega)).mono ?_
    rintro e w4 (⟨a3,r3,c3,b3,rfl,hR4,hf6⟩|⟨hlt,rfl,hf6⟩)
    rotate_left
    ·refine⟨rfl,.inr ⟨?_,rfl,hf5.trans (hone hf6)⟩⟩
     rw[E1.out,HL1.out,HL2.out]
     exact Bh _ _ _ _ H5.out H0.out hlt
    have hL4:=hL3.keep hf6 hno
    have hf7:=hf5.trans (hone hf6)
    have hl3:r2=a3++r3:=c3.1
    have hla:a3.length=k.toNat:=c3.2
    have hlen3:r2.length=a3.length+r3.length:=by rw[hl3,List.length_append]
    have hmu4:=nC hR4
    have HL3:=Lib.hid hl3
    clear hl3 c3 hR3 hL3
    go_wp2_with fail
    refine(JN pl F os1 c a3 _ hL4 (by omega) (fun k hk=>HF.out k (Nat.le_trans hf7.size hk))).mono ?_
    rintro e w5 ⟨rfl,hL5,hf8⟩
    have hwa:=Be os1 c a3
    have hR5:Rd w5 p r3:=Bk.keep hR4 hf8 hpb
    have hmu5:=nC hR5
    have hf9:Fr (prB p F) w w5:=hf7.trans (hf8.mono fun b _ e=> .inr e)
    have hrel2:Hid (eG os l=eG (fQ os1 c a3) r3):=Lib.hid (by
     rw[E1.out,HL1.out,HL2.out,xO _ _ _ _ H5.out H0.out (by omega),HL3.out,←hla,List.take_left,List.drop_left])
    go_wp2_with fail
    exact⟨⟨_,r3,hrel2.out,hL5,hR5,by omega,hf9⟩,by omega⟩
end Go.Proofs.YtcbkaiakdhiloacGreatDoor
namespace Go.Proofs.YtcbkaiakdhiloacGreatDoor
open Go.RowKit Go.Proofs
attribute [local go_sem] aG aD aC
def EK (pl:Nat) (F:Nat→Prop) (os:List bK) (l:List UInt8) (x:Value) (w:World):Prop:=
 x= .int .i64 0∧∃os',eG os l=some os'∧LsA w pl F os'∧wtO os'≤wtO os+l.length
def Cn (os:List bK) (l:List UInt8) (er:Int):Prop:=er=1∧eG os l=none
theorem GL (pl:Nat) (F:Nat→Prop) (p:Nat) (os:List bK) (l:List UInt8) (w:World) (hL:LsA w pl F os) (hR:Rd w p l) (hpb:¬F p) (hF:∀k,w.heap.size≤k→F k) (hwt:wtO os+l.length≤1099511627000):
 Calls Tryz.prog 155 #[.pointer (some ⟨p,0,none⟩),.pointer (some ⟨pl,0,none⟩)] w (mD F (EK pl F os l) (Cn os l) p w):=by
 go_enter Tryz.func155,Tryz.ntmps155
 go_wp2_with fail
 refine(EC pl F p os l w hL hR hpb hF hwt).mono ?_
 rintro e w1 (⟨os',r,h1,rfl,h2,h3,h4,h5⟩|⟨h1,rfl,h2⟩)
 ·have H1:=Lib.hid h1
  clear h1
  go_wp2_with fail
  go_ret
  exact⟨.inl ⟨_,⟨rfl,os',H1.out,h2,h4⟩,rfl⟩,h5⟩
 ·exact⟨rfl,.inr ⟨1,⟨rfl,h1⟩,rfl⟩,h2⟩
theorem LsA.at_size {w:World} {F:Nat→Prop} {pl:Nat} {os:List bK} (h:LsA w pl F os) (n:Nat):LsA w pl (fun k=>(F k∧k<w.heap.size)∨w.heap.size+n≤k) os:=by
 obtain⟨h1,A,cap,h2,h3,h4⟩:=h
 refine⟨.inl ⟨h1,h2.lt⟩,A,cap,h2,h3,?_⟩
 rintro a rfl
 refine .inl ⟨h4 a rfl,?_⟩
 obtain⟨_,⟨h5,_⟩|⟨g,_,cur,h5,_,hg,_⟩⟩:=h3
 ·cases h5
 ·cases h5;exact Bk.lt hg
theorem LsA.lt {w:World} {F:Nat→Prop} {pl:Nat} {os:List bK} (h:LsA w pl F os):pl<w.heap.size:=by obtain⟨_,_,_,h,_⟩:=h;exact h.lt
theorem Ab (pl:Nat) (F:Nat→Prop) (os:List bK) (l:List UInt8) (w:World) (hL:LsA w pl F os) (hwt:wtO os+l.length≤1099511627000):
 Calls Tryz.prog 154 #[.string (bs l),.func (.func 155) #[] #[.pointer (some ⟨pl,0,none⟩)]] w fun e w'=>
  ((∃os2,eG os l=some os2∧e= .returned (.tuple #[.int .i64 0,.int .i64 0])∧LsA w' pl (fun k=>F k∨w.heap.size≤k) os2∧wtO os2≤wtO os+l.length)∨
   (eG os l=none∧e= .returned (.tuple #[.int .i64 0,.int .i64 1])))∧Fr F w w':=by
 have hL1:=hL.at_size 3
 refine(Ey 6 (by decide) l w 155 #[_] (fun k=>(F k∧k<w.heap.size)∨w.heap.size+3≤k) (EK pl (fun k=>(F k∧k<w.heap.size)∨w.heap.size+3≤k) os l) (Cn os l) ?_ ?_ ?_ ?_).mono ?_
 ·rintro k h1 h2 (h|h)<;>omega
 ·rintro x w1 ⟨rfl,_⟩;exact⟨#[_],rfl,0,rfl⟩
 ·rintro x w1 w2 ⟨rfl,os',h1,h2,h3⟩ hf
  exact⟨rfl,os',h1,h2.keep hf (by rintro k (h|h) (e|e)<;>omega),h3⟩
 ·rintro p w1 rfl hR hf
  exact GL pl _ _ os l w1 (hL1.keep hf (fun _ _ x=>x)) hR (by rintro(h|h)<;>omega) (fun k hk=> .inr (by have:=Bk.lt hR;omega)) hwt
 ·rintro e w1 ⟨⟨x,⟨rfl,os',h1,h2,h3⟩,rfl⟩|⟨er,⟨rfl,h1⟩,rfl⟩,hf⟩
  ·exact⟨.inl ⟨os',h1,rfl,h2.mono (by rintro k (h|h);exact .inl h.1;exact .inr (by omega)),h3⟩,hf.mono (by rintro b hb (h|h);exact h.1;omega)⟩
  ·exact⟨.inr ⟨h1,rfl⟩,hf.mono (by rintro b hb (h|h);exact h.1;omega)⟩
def Mg (S:Nat→Prop) (os:List bK) (name file:List UInt8) (w:World) (e:Ending) (w':World):Prop:=
 ((∃os' A' cap',iI os name file=(os',0)∧e= .returned (.slice A' os'.length cap')∧SlR w' S 2 A' os'.length (fY os')∧wtO os'≤wtO os+name.length+file.length)∨
  (∃k:Nat,(iI os name file).2=k+1∧e= .panicked (cE ((k+1:Nat):Int))))∧Fr noB w w'
def pA (o:bK):Bool:= !(o.code==52)
theorem kW:∀os:List bK,wtO (os.filter pA)≤wtO os
 |[]=>Nat.le_refl _
 |o::r=>by
  have:=kW r
  rw[List.filter_cons]
  split<;>simp only[wtO]<;>omega
theorem A8 {os:List bK} {i:Nat} {o:bK} (h:os[i]? =some o):(os.take (i+1)).filter pA=(os.take i).filter pA++(if pA o then [o]else []):=by
 have hi:i<os.length:=by
  rcases Nat.lt_or_ge i os.length with h1|h1
  ·exact h1
  ·rw[List.getElem?_eq_none h1]at h;cases h
 rw[List.getElem?_eq_getElem hi]at h
 cases h
 rw[List.take_succ_eq_append_getElem hi,List.filter_append,List.filter_cons,List.filter_nil]
def vY (name file:List UInt8):Nat→Nat
 |0=>0
 |1=>file.length
 |_=>file.length+name.length
def uT (x:UInt8) (name file:List UInt8) (a:List bK):Nat→Option (List bK)
 |0=>if x.toNat%2=1 then eG a file else some a
 |_=>if 2≤x.toNat then eG a name else some a
def As (x:UInt8) (name file:List UInt8) (a:List bK):Nat→Option (List bK)
 |0=>some a
 |i+1=>(As x name file a i).bind fun b=>uT x name file b i
theorem CU (os:List bK) (name file:List UInt8) (x:UInt8) (h:eF os 52=some [x]):iI os name file=
 if x.toNat<1∨3<x.toNat then([],2)else match As x name file (os.filter pA) 2 with
  |none=>([],1)
  |some a=>if(eF a 52).isSome then([],2)else(a,0):=by
 unfold iI
 rw[h]
 simp only
 split
 ·rfl
 ·simp only[As,Option.bind_some,uT]
  rw[show(fun o:bK=> !(o.code==52))=pA from rfl]
  cases(if x.toNat%2=1 then eG (os.filter pA) file else some (os.filter pA))with
  |none=>rfl
  |some a=>simp only[Option.bind_some];cases(if 2≤x.toNat then eG a name else some a)<;>rfl
theorem EP (os:List bK) (name file:List UInt8) (d:List UInt8) (h:eF os 52=some d) (hd:d.length≠1):iI os name file=([],2):=by
 unfold iI
 rw[h]
 match d,hd with
 |[],_=>rfl
 |[_],hd=>exact absurd rfl hd
 |_::_::_,_=>rfl
theorem JA (S:Nat→Prop) (A:Option Addr) (cap:Nat) (os:List bK) (name file:List UInt8) (w:World) (hAS:SlR w S 2 A os.length (fY os)) (hS:∀k,w.heap.size≤k→¬S k) (hwt:wtO os+name.length+file.length≤1099511627000):
 Calls Tryz.prog 101 #[.slice A os.length cap,.string (bs name),.string (bs file)] w (Mg S os name file w):=by
 have hA:=hAS.sub (T:=noB) (fun _ _ x=>x.elim)
 have HAS:=Lib.hid hAS
 have HS0:=Lib.hid hS
 clear hAS hS
 have hlw:=jO os
 obtain⟨n,hn⟩:∃n,os.length=n:=⟨_,rfl⟩
 rw[hn]at hA⊢
 go_enter Tryz.func101,Tryz.ntmps101
 go_wp2_with fail
 have hOf:=FN noB A n cap os 52 w hA (by omega)
 rw[show(((52:UInt8).toNat:Nat):Int)=52 by decide]at hOf
 refine hOf.mono ?_
 clear hOf
 rintro e w1 ⟨rfl,hf1⟩
 have hA1:=hA.keep hf1
 clear hA
 cases ho:eF os 52 with
 |none=>
  have Ho:=Lib.hid ho
  clear ho
  go_wp2_with fail
  go_ret
  refine⟨.inl ⟨os,A,cap,?_,by rw[hn];rfl,HAS.out.keep (hf1.of_no S),by omega⟩,hf1⟩
  show iI os name file=(os,0)
  unfold iI;rw[Ho.out]
 |some d=>
  simp only[Option.getD_some,Option.isSome_some]
  by_cases hd:d.length=1
  rotate_left
  ·have Hb:=Lib.hid (EP os name file d ho hd)
   clear ho
   have hdi:¬(d.length:Int)=1:=by omega
   go_wp2_with fail
   refine(dH 2 _).mono ?_
   rintro x w2 ⟨rfl,rfl⟩
   exact⟨rfl,.inr ⟨1,by rw[Hb.out],rfl⟩,hf1⟩
  match d,hd with
  |[x],_=>
  have Hs:=Lib.hid (CU os name file x ho)
  clear ho
  have hx:=x.toNat_lt
  have hg0:∀h:0<(bs [x]).size,(bs [x])[0]'h=x:=fun h=>by rw[jZ];rfl
  by_cases hx1:x.toNat<1
  ·have Hb:Hid (iI os name file=([],2)):=Lib.hid (by rw[Hs.out,if_pos (.inl hx1)])
   clear Hs
   have hxi:¬(1:Int)≤(x.toNat:Int):=by omega
   go_wp2_with fail
   refine(dH 2 _).mono ?_
   rintro e w2 ⟨rfl,rfl⟩
   exact⟨rfl,.inr ⟨1,by rw[Hb.out],rfl⟩,hf1⟩
  have hxi:(1:Int)≤(x.toNat:Int):=by omega
  by_cases hx3:3<x.toNat
  ·have Hb:Hid (iI os name file=([],2)):=Lib.hid (by rw[Hs.out,if_pos (.inr hx3)])
   clear Hs
   have hxj:¬(x.toNat:Int)≤(3:Int):=by omega
   go_wp2_with fail
   refine(dH 2 _).mono ?_
   rintro e w2 ⟨rfl,rfl⟩
   exact⟨rfl,.inr ⟨1,by rw[Hb.out],rfl⟩,hf1⟩
  have hxj:(x.toNat:Int)≤(3:Int):=by omega
  have HS:Hid (iI os name file=match As x name file (os.filter pA) 2 with
   |none=>([],1)
   |some a=>if(eF a 52).isSome then([],2)else(a,0)):=Lib.hid (by rw[Hs.out,if_neg (by omega)])
  clear Hs
  go_wp2_with fail
  refine(eU 2 _).mono ?_
  rintro e w2 ⟨rfl,rfl⟩
  go_wp2_with fail
  have hL0:LsA (w1.alloc (.cells #[.slice none 0 0] 184)) w1.heap.size (lK w1.heap.size) []:=
   ⟨Nat.le_refl _,none,0,Bk.new _ _ _,⟨rfl,.inl ⟨rfl,rfl⟩⟩,fun a h=>by cases h⟩
  have hfa:Fr noB w1 (w1.alloc (.cells #[.slice none 0 0] 184)):=(Fr.refl _ _).alloc _
  obtain⟨pl,hpl⟩:∃pl,pl=w1.heap.size:=⟨_,rfl⟩
  rw[←hpl]at hL0⊢
  have Hpl:=Lib.hid hpl
  clear hpl
  generalize w1.alloc (.cells #[.slice none 0 0] 184)=w3 at*
  obtain⟨i0,hi0,hz0,hz1,hz2⟩:=info_parts pU
  go_loopw [42] (fun iv wr=>∃(i:Nat),i≤n∧iv= .int .i64 (i:Int)∧LsA wr pl (lK pl) ((os.take i).filter pA)∧Fr noB w1 wr) (fun iv _=>n-(intOf iv).toNat)
  case atStart=>exact⟨0,by omega,rfl,hL0,hfa⟩
  case round=>
   obtain⟨i,hi,rfl,hL,hw⟩:=hrel
   by_cases hlt:i<n
   ·obtain⟨o,ho⟩:∃o,os[i]? =some o:=⟨_,List.getElem?_eq_getElem (by omega)⟩
    obtain⟨ad,rfl,c1,c2⟩:=(hA1.keep hw).optAt ho
    have hft:=Lib.hid (A8 ho)
    clear ho
    have hne:=Fr.alloc hw (.cells #[.int .u8 (o.code.toNat:Int),.string (bs o.data)] 66)
    have hL2:=hL.keep ((Fr.refl noB wr).alloc (.cells #[.int .u8 (o.code.toNat:Int),.string (bs o.data)] 66)) (fun _ _ x=>x)
    by_cases he:o.code=52
    ·have hei:(o.code.toNat:Int)=52:=by rw[he];decide
     have Hft:Hid ((os.take (i+1)).filter pA=(os.take i).filter pA):=Lib.hid (by
      rw[hft.out,if_neg (by unfold pA;rw[he];decide),List.append_nil])
     clear hft he
     rw[hei]at hL2 hne
     have HL2:=Lib.hid hL2
     clear hL2 hL
     go_wp2_with fail
     exact⟨⟨i+1,by omega,by rw[Int.natCast_add];rfl,by rw[Hft.out];exact HL2.out,hne⟩,by simp only[intOf];omega⟩
    ·have hei:¬(o.code.toNat:Int)=52:=fun e=>he (UInt8.toNat.inj (show o.code.toNat=52 by omega))
     have Hft:Hid ((os.take (i+1)).filter pA=(os.take i).filter pA++[o]):=Lib.hid (by
      rw[hft.out,if_pos (by unfold pA;simpa using he)])
     clear hft he
     obtain⟨hbp,A1,cap1,hB,hO,hAF⟩:=hL2
     have hAp:∀a,A1=some a→a.block≠pl:=by
      rintro a rfl e
      obtain⟨_,⟨h2,_⟩|⟨g,_,cur,h2,_,hg,_⟩⟩:=hO
      ·cases h2
      ·cases h2
       rw[show g=pl from e,hB]at hg
       cases hg
     have hfw:=kW os
     have hlen1:((os.take i).filter pA).length≤i:=Nat.le_trans (List.length_filter_le _ _) (List.length_take_le i os)
     have hc0:=hB.cells
     have hb2:=hB.alloc (.cells #[.int .u8 (o.code.toNat:Int),.string (bs o.data)] 66)
     have hsr:SlR ((wr.alloc (.cells #[.int .u8 (o.code.toNat:Int),.string (bs o.data)] 66)).alloc (.cells #[.int .u8 (o.code.toNat:Int),.string (bs o.data)] 66)) noB 2 (some ⟨wr.heap.size+1,0,none⟩) 1 (fY [o]):=by
      have h:=SlR.of_bk (n:=1) (size:=2) (S:=noB) (Bk.new (wr.alloc (.cells #[.int .u8 (o.code.toNat:Int),.string (bs o.data)] 66)) 66 #[.int .u8 (o.code.toNat:Int),.string (bs o.data)]) (fun x=>x) rfl
      rw[show(wr.alloc (.cells #[.int .u8 (o.code.toNat:Int),.string (bs o.data)] 66)).heap.size=wr.heap.size+1 by simp]at h
      exact h
     have hO2:((wr.alloc (.cells #[.int .u8 (o.code.toNat:Int),.string (bs o.data)] 66)).alloc (.cells #[.int .u8 (o.code.toNat:Int),.string (bs o.data)] 66)).ownsRow 0 66 2 (.slice A1 ((os.take i).filter pA).length cap1) ((os.take i).filter pA).length (fY ((os.take i).filter pA)):=
      eW hO (((Fr.refl noB (wr.alloc (.cells #[.int .u8 (o.code.toNat:Int),.string (bs o.data)] 66))).alloc _)) (fun _ _ x=>x)
     obtain⟨m,hm⟩:∃m,((os.take i).filter pA).length=m:=⟨_,rfl⟩
     have hop:∃l0,fY ((os.take i).filter pA)=l0:=⟨_,rfl⟩
     obtain⟨l0,hl0⟩:=hop
     rw[hm]at hO2 hO hB hc0 hb2 hlen1
     rw[hl0]at hO2 hO
     have Hm:=Lib.hid hm
     have Hl0:=Lib.hid hl0
     clear hm hl0
     go_wp2_with (at_builtin
                  go_must (refine gR rfl (.tmp 49) (.tmp 51) _ rfl 0 66 i0 _ 2 24 Tryz.underlying184 hi0 hz0 hz1 hz2 rfl (by omega) A1 _ _ _ rfl hO2 noB _ 1 1 _ rfl hsr pL (by unfold maxLen;omega) (by omega) (Nat.zero_le _) ?_)
                  intro A2 cap2 w4 hap
                  have hb3:=hb2.keep hap.fr (by rintro⟨a,e,e2⟩;exact hAp a e e2)
                  have hc3:=hb3.cells
                  have hf3:=hb3.frees)
     have hLn:LsA (w4.setCell ⟨pl,0,none⟩ (.slice A2 (m+1) cap2)) pl (lK pl) ((os.take (i+1)).filter pA):=by
      rw[Hft.out]
      refine⟨hbp,A2,cap2,?_,?_,?_⟩
      ·rw[List.length_append,Hm.out];exact(by simpa using hb3.set 0 (.slice A2 (m+1) cap2))
      ·rw[List.length_append,mL,Hm.out,Hl0.out];exact qU hap.own hb3 (by decide) _
      ·intro a e
       rcases hap.at_ a e with h|⟨a0,e0,h⟩
       ·have h1:=hB.lt;simp at h h1;unfold lK;omega
       ·rw[←h];exact hAF a0 e0
     have hfn:Fr noB w1 (w4.setCell ⟨pl,0,none⟩ (.slice A2 (m+1) cap2)):=by
      have hpn:¬pl<w1.heap.size:=by rw[Hpl.out];omega
      refine(((hne.alloc _)).trans' hap.fr ?_).setCell (fun h=>absurd h hpn) _
      rintro b hb ⟨a,e,rfl⟩
      have h:=hAF a e
      unfold lK at h;omega
     exact⟨⟨i+1,by omega,by rw[Int.natCast_add];rfl,hLn,hfn⟩,by simp only[intOf];omega⟩
   ·obtain rfl:i=n:=by omega
    have hL1:LsA wr pl (lK pl) (os.filter pA):=by rw[List.take_of_length_le (by omega)]at hL;exact hL
    clear hL
    have hL2:=(hL1.at_size 1).keep ((Fr.refl noB wr).alloc (.cells #[.string (bs file),.string (bs name)] 9)) (fun _ _ x=>x)
    have hL3:LsA (wr.alloc (.cells #[.string (bs file),.string (bs name)] 9)) pl (fun k=>pl≤k∧k≠wr.heap.size) (os.filter pA):=
     hL2.mono fun k h=>by have:=hL1.lt;unfold lK at h;refine⟨?_,?_⟩<;>rcases h with h|h<;>omega
    have hB2:=Bk.new wr 9 #[.string (bs file),.string (bs name)]
    have hf3:=hw.alloc (.cells #[.string (bs file),.string (bs name)] 9)
    have hpl2:=hL1.lt
    clear hL1 hL2
    go_wp2_with fail
    obtain⟨g2,hg2⟩:∃g2,wr.heap.size=g2:=⟨_,rfl⟩
    rw[hg2]at hL3 hB2 hpl2
    rw[hg2]
    clear hg2
    have hw0:=kW os
    have Hw:=Lib.hid (show w1.heap.size≤pl by rw[Hpl.out];omega)
    generalize wr.alloc (.cells #[.string (bs file),.string (bs name)] 9)=w5 at*
    obtain⟨a0,ha0⟩:∃a0,os.filter pA=a0:=⟨_,rfl⟩
    rw[ha0]at hL3 hw0 HS
    clear ha0
    go_loopw [58] (fun iv wr=>∃(i:Nat),i≤2∧iv= .int .i64 (i:Int)∧∃os1,As x name file a0 i=some os1∧LsA wr pl (fun k=>pl≤k∧k≠g2) os1∧Bk wr g2 9 #[.string (bs file),.string (bs name)]∧
     Fr noB w1 wr∧wtO os1≤wtO os+vY name file i) (fun iv _=>2-(intOf iv).toNat)
    case atStart=>exact⟨0,by omega,rfl,a0,rfl,hL3,hB2,hf3,hw0⟩
    case round=>
     obtain⟨i,hi,rfl,os1,hov,hL,hB,hw,hwo⟩:=hrel
     by_cases hlt:i<2
     ·have hc:=hB.cells
      have Hov:=Lib.hid hov
      clear hov
      rcases(by omega:i=0∨i=1)with rfl|rfl
      ·
       by_cases hbit:x.toNat%2=1
       ·have hb:bits BinOp.and IntKind.u8 (x.toNat:Int) 1=1:=by
         rcases(by omega:x.toNat=1∨x.toNat=3)with h|h<;>rw[h]<;>decide
        have Hn:Hid (As x name file a0 1=eG os1 file):=Lib.hid (by rw[As,Hov.out,Option.bind_some,uT,if_pos hbit])
        clear Hov
        go_wp2_with fail
        refine(Ab pl _ os1 file _ hL (by simp only[vY]at hwo;omega)).mono ?_
        rintro e w6 ⟨⟨os2,h1,rfl,h2,h3⟩|⟨h1,rfl⟩,hf6⟩
        ·have hg:=hB.lt
         have hL6:LsA w6 pl (fun k=>pl≤k∧k≠g2) os2:=h2.mono (by rintro k (h|h);exact h;omega)
         have hB6:=hB.keep hf6 (by rintro⟨_,h⟩;exact h rfl)
         have hw6:Fr noB w1 w6:=hw.trans' hf6 (by rintro b hb ⟨h,_⟩;have:=Hw.out;omega)
         have H1:Hid (As x name file a0 1=some os2):=Lib.hid (by rw[Hn.out,h1])
         clear h1 h2 Hn
         go_wp2_with fail
         refine(eU 0 _).mono ?_
         rintro e w7 ⟨rfl,rfl⟩
         go_wp2_with fail
         exact⟨⟨1,by omega,rfl,os2,H1.out,hL6,hB6,hw6,by simp only[vY]at hwo⊢;omega⟩,by simp[intOf]⟩
        ·have H1:Hid ((iI os name file).2=1):=Lib.hid (by rw[HS.out,As,Hn.out,h1,Option.bind_none])
         have hw6:Fr noB w w6:=hf1.none (hw.trans' hf6 (by rintro b hb ⟨h,_⟩;have:=Hw.out;omega))
         clear h1 Hn
         go_wp2_with fail
         refine(dH 1 _).mono ?_
         rintro e w7 ⟨rfl,rfl⟩
         exact⟨rfl,.inr ⟨0,H1.out,rfl⟩,hw6⟩
       ·have hb:¬bits BinOp.and IntKind.u8 (x.toNat:Int) 1=1:=by
         rw[show x.toNat=2 by omega];decide
        have Hn:Hid (As x name file a0 1=some os1):=Lib.hid (by rw[As,Hov.out,Option.bind_some,uT,if_neg hbit])
        clear Hov
        go_wp2_with fail
        exact⟨⟨1,by omega,rfl,os1,Hn.out,hL,hB,hw,by simp only[vY]at hwo⊢;omega⟩,by simp[intOf]⟩
      ·
       by_cases hbit:2≤x.toNat
       ·have hb:bits BinOp.and IntKind.u8 ((x.toNat:Int)/2) 1=1:=by
         rcases(by omega:x.toNat=2∨x.toNat=3)with h|h<;>rw[h]<;>decide
        have Hn:Hid (As x name file a0 2=eG os1 name):=Lib.hid (by rw[As,Hov.out,Option.bind_some,uT,if_pos hbit];rintro h;cases h)
        clear Hov
        go_wp2_with fail
        refine(Ab pl _ os1 name _ hL (by simp only[vY]at hwo;omega)).mono ?_
        rintro e w6 ⟨⟨os2,h1,rfl,h2,h3⟩|⟨h1,rfl⟩,hf6⟩
        ·have hg:=hB.lt
         have hL6:LsA w6 pl (fun k=>pl≤k∧k≠g2) os2:=h2.mono (by rintro k (h|h);exact h;omega)
         have hB6:=hB.keep hf6 (by rintro⟨_,h⟩;exact h rfl)
         have hw6:Fr noB w1 w6:=hw.trans' hf6 (by rintro b hb ⟨h,_⟩;have:=Hw.out;omega)
         have H1:Hid (As x name file a0 2=some os2):=Lib.hid (by rw[Hn.out,h1])
         clear h1 h2 Hn
         go_wp2_with fail
         refine(eU 0 _).mono ?_
         rintro e w7 ⟨rfl,rfl⟩
         go_wp2_with fail
         exact⟨⟨2,by omega,rfl,os2,H1.out,hL6,hB6,hw6,by simp only[vY]at hwo⊢;omega⟩,by simp[intOf]⟩
        ·have H1:Hid ((iI os name file).2=1):=Lib.hid (by rw[HS.out,Hn.out,h1])
         have hw6:Fr noB w w6:=hf1.none (hw.trans' hf6 (by rintro b hb ⟨h,_⟩;have:=Hw.out;omega))
         clear h1 Hn
         go_wp2_with fail
         refine(dH 1 _).mono ?_
         rintro e w7 ⟨rfl,rfl⟩
         exact⟨rfl,.inr ⟨0,H1.out,rfl⟩,hw6⟩
       ·have hb:¬bits BinOp.and IntKind.u8 ((x.toNat:Int)/2) 1=1:=by
         rw[show x.toNat=1 by omega];decide
        have Hn:Hid (As x name file a0 2=some os1):=Lib.hid (by rw[As,Hov.out,Option.bind_some,uT,if_neg hbit];rintro h;cases h)
        clear Hov
        go_wp2_with fail
        exact⟨⟨2,by omega,rfl,os1,Hn.out,hL,hB,hw,by simp only[vY]at hwo⊢;omega⟩,by simp[intOf]⟩
     ·obtain rfl:i=2:=by omega
      have Hs2:Hid (iI os name file=if(eF os1 52).isSome then([],2)else(os1,0)):=Lib.hid (by rw[HS.out,hov])
      clear hov
      obtain⟨hbp,A1,cap1,hB1,hO1,hAF1⟩:=hL
      have hc1:=hB1.cells
      have hA2:=mJ hO1
      have hl1:=jO os1
      have hOf:=FN noB A1 os1.length cap1 os1 52 wr hA2 (by simp only[vY]at hwo;omega)
      rw[show(((52:UInt8).toNat:Nat):Int)=52 by decide]at hOf
      go_wp2_with fail
      refine hOf.mono ?_
      clear hOf
      rintro e w6 ⟨rfl,hf6⟩
      have hA4:SlR w6 S 2 A1 os1.length (fY os1):=(CA hO1 (by intro a e h;have h1:=hAF1 a e;exact HS0.out _ (by have:=Hw.out;have:=hf1.size;omega) h)).keep (hf6.of_no S)
      have hB3:=hB1.keep hf6 (fun x=>x)
      have hc3:=hB3.cells
      have hw6:Fr noB w w6:=hf1.none (hw.none hf6)
      cases hos:(eF os1 52).isSome with
      |true=>
       have H1:Hid ((iI os name file).2=2):=Lib.hid (by rw[Hs2.out,hos];rfl)
       clear Hs2
       go_wp2_with fail
       refine(dH 2 _).mono ?_
       rintro e w7 ⟨rfl,rfl⟩
       exact⟨rfl,.inr ⟨1,H1.out,rfl⟩,hw6⟩
      |false=>
       have H1:Hid (iI os name file=(os1,0)):=Lib.hid (by rw[Hs2.out,hos];rfl)
       clear Hs2
       go_wp2_with fail
       refine(eU 2 _).mono ?_
       rintro e w7 ⟨rfl,rfl⟩
       go_wp2_with fail
       go_ret
       exact⟨.inl ⟨os1,A1,cap1,H1.out,rfl,hA4,by simp only[vY]at hwo;omega⟩,hw6⟩
end Go.Proofs.YtcbkaiakdhiloacGreatDoor
namespace Go.Proofs.YtcbkaiakdhiloacGreatDoor
open Go.RowKit Go.Proofs
attribute [local go_sem] aG aD aC aE
def yF (d:sI) (A:Option Addr) (cap:Nat):Array Value:=
 #[.bool d.reply,.int .u32 (d.xid:Int),.int .u32 (d.client:Int),.int .u32 (d.yours:Int),.int .u32 (d.next:Int),
  .int .u8 (d.mac.1.toNat:Int),.int .u8 (d.mac.2.1.toNat:Int),.int .u8 (d.mac.2.2.1.toNat:Int),.int .u8 (d.mac.2.2.2.1.toNat:Int),.int .u8 (d.mac.2.2.2.2.1.toNat:Int),.int .u8 (d.mac.2.2.2.2.2.toNat:Int),
  .slice A d.os.length cap]
def Jr (B:Nat) (l:List UInt8) (x:Value) (w:World):Prop:=
 ∃d A cap,x= .agg (yF d A cap)∧aQ l=(d,0)∧SlR w (fun k=>k<B) 2 A d.os.length (fY d.os)∧wtO d.os≤l.length
def D7 (l:List UInt8) (er:Int):Prop:=∃k:Nat,er=((k+1:Nat):Int)∧aQ l=(Ic,k+1)
theorem Jw (l:List UInt8) (i:Nat) (h:i<l.length):∃c,sub l i (i+1)=[c]∧num (sub l i (i+1))=c.toNat:=by
 refine⟨l[i],?_,?_⟩
 ·rw[←nA,List.drop_eq_getElem_cons h];rfl
 ·rw[←nA,List.drop_eq_getElem_cons h,List.take_succ_cons,List.take_zero];simp[num]
attribute [local simp] yF Ib ibq ibn eqN ltN leN eqL ltL gtL leL geL
theorem NH {p n:Nat} {l:List UInt8} {w0 w:World} {B:List (Nat×TypeId×Array Value)} (h:RA p l n w0 B w) (hn:n≤l.length) (hl:l.length≤9223372036854775807):Calls Tryz.prog 99 #[.pointer (some ⟨p,0,none⟩)] w (RT p l n 4 w0 B fun m=> .int .u32 (num (sub l n m))):=
 (MY p _ w h.rd (h.small hl)).mono fun _ _ ht=>h.took hn ht (by rw[xH])
theorem LP (B:Nat) (l:List UInt8) (hl:l.length≤1099511000000) (p q:Nat) (w:World) (hR:Rd w p l) (hq:Bk w q 9 #[.string (bs l)]) (hpq:p≠q) (hB:B≤w.heap.size):
 Calls Tryz.prog 98 #[.pointer (some ⟨p,0,none⟩),.pointer (some ⟨q,0,none⟩)] w (mD noB (Jr B l) (D7 l) p w):=by
 obtain⟨z,hz⟩:∃z,aQ l=z:=⟨_,rfl⟩
 have bad:∀k:Nat,z=(Ic,k+1)→∀w',Fr (aI p) w w'→mD noB (Jr B l) (D7 l) p w (.panicked (cE ((k+1:Nat):Int))) w':=fun k h w' hf=>⟨.inr ⟨_,⟨k,rfl,hz.trans h⟩,rfl⟩,hf.mono fun _ _ e=> .inl e⟩
 have hA:RA p l 0 w [(q,9,#[.string (bs l)])] w:=⟨by rw[List.drop_zero];exact hR,Fr.refl _ _,List.forall_mem_cons.2 ⟨⟨Ne.symm hpq,hq⟩,List.forall_mem_nil _⟩⟩
 have hl63:l.length≤9223372036854775807:=by omega
 clear hR hq
 refine en Tryz.func98 Tryz.ntmps98 ?_
 refine W ?_
 refine sA ?_
 intro w1 hX f
 replace hA:=hA.new hX f
 have hq:=hA.at_ 1
 refine W ?_
 refine sM (eA _ _ _) (fun h=> ?_) fun h240=> ?_
 ·exact⟨rfl,bad 0 (hz.symm.trans (by unfold aQ;rw[if_pos (by omega)])) _ hA.fr⟩
 have hy:=hz
 unfold aQ at hz
 rw[if_neg (by omega)]at hz
 obtain⟨c0,hc0,hn0⟩:=Jw l 0 (by omega)
 rw[Nat.zero_add]at hn0 hc0
 clear hX f hq
 refine W ?_
 refine sR 1 (nU8 hA (Nat.zero_le _) hl63) ?_
 intro _ w2 hA
 rw[hn0]
 refine W ?_
 refine sR 3 (qO 2 hA (by omega) hl63 (by decide)) ?_
 intro _ w3 hA
 refine W ?_
 refine sR 4 (nU8 hA (by omega) hl63) ?_
 intro _ w4 hA
 refine W ?_
 refine sR 8 (NH hA (by omega) hl63) ?_
 intro _ w5 hA
 generalize num (sub l 4 8)=x0 at*
 refine W ?_
 have hb0:(sub l 0 1==[2])=decide (c0.toNat=2):=by
  rw[hc0]
  by_cases h:c0=2
  ·subst h;rfl
  ·rw[show decide (c0.toNat=2)=false from decide_eq_false fun e=>h (UInt8.toNat_inj.1 e)];simpa using h
 obtain⟨b,hb⟩:∃b,decide (c0.toNat=2)=b:=⟨_,rfl⟩
 rw[hb]
 rw[hb0,hb]at hz
 have Hb:=Lib.hid hb
 clear hb hb0
 refine sA ?_
 intro w6 hG f
 refine W ?_
 refine sT ?_
 intro w7 hG f2
 have hg0:w.heap.size<w5.heap.size:=(hA.at_ 0).lt
 have hne:∀x∈[(w.heap.size,62,rdZ 4),(q,9,#[.string (bs l)])],x.1≠w5.heap.size:=fun x hx=>Nat.ne_of_lt (hA.bk x hx).2.lt
 have hgp:p≠w5.heap.size:=Nat.ne_of_lt (Bk.lt hA.rd)
 replace hA:=hA.new hG (bP f (Nat.le_refl _) f2)
 clear hG f f2
 generalize w5.heap.size=g at*
 refine W ?_
 refine sR 12 (qO 4 hA (by omega) hl63 (by decide)) ?_
 intro _ w8 hA
 refine W ?_
 refine sR 16 (nIP hA (by omega) hl63) ?_
 intro _ w9 hA
 refine W ?_
 refine sR 20 (nIP hA (by omega) hl63) ?_
 intro _ w10 hA
 refine W ?_
 refine sR 24 (nIP hA (by omega) hl63) ?_
 intro _ w11 hA
 generalize num (sub l 12 16)=x1 at*
 generalize num (sub l 16 20)=x2 at*
 generalize num (sub l 20 24)=x3 at*
 refine W ?_
 refine sK (yF ⟨b,x0,x1,0,0,(0,0,0,0,0,0),[]⟩ none 0) (hA.at_ 0) ?_
 intro w12 hG f
 replace hA:=hA.put hG f (Nat.le_of_lt hg0) hne
 refine W ?_
 refine sK (yF ⟨b,x0,x1,x2,0,(0,0,0,0,0,0),[]⟩ none 0) (hA.at_ 0) ?_
 intro w13 hG f
 replace hA:=hA.put hG f (Nat.le_of_lt hg0) hne
 refine W ?_
 refine sK (yF ⟨b,x0,x1,x2,x3,(0,0,0,0,0,0),[]⟩ none 0) (hA.at_ 0) ?_
 intro w14 hG f
 replace hA:=hA.put hG f (Nat.le_of_lt hg0) hne
 refine W ?_
 refine sR 28 (qO 4 hA (by omega) hl63 (by decide)) ?_
 intro _ w15 hA
 refine W ?_
 refine sR 34 (KH hA (by omega) hl63) ?_
 intro _ w16 hA
 generalize lF (l.drop 28)=mm at*
 refine W ?_
 refine sKm (yF ⟨b,x0,x1,x2,x3,mm,[]⟩ none 0) (hA.at_ 0) ?_
 intro w17 hG f
 replace hA:=hA.put hG f (Nat.le_of_lt hg0) hne
 refine W ?_
 refine sR 44 (qO 10 hA (by omega) hl63 (by decide)) ?_
 intro _ w18 hA
 refine W ?_
 refine sR 108 (qO 64 hA (by omega) hl63 (by decide)) ?_
 intro _ w19 hA
 refine W ?_
 refine sR 236 (qO 128 hA (by omega) hl63 (by decide)) ?_
 intro _ w20 hA
 refine V ?_
 refine cS ?_
 have H20:RA p l 236 w20 [] w20:=⟨hA.rd,Fr.refl _ _,List.forall_mem_nil _⟩
 refine cM [0,3,6,7,8] [] (fun w'=>(c0.toNat=1∨c0.toNat=2)∧sub l 1 3=[1,6]∧sub l 236 240=[99,130,83,99]∧Rd w' p ((l.drop 236).drop 4)∧Fr (aI p) w20 w') ?_ ?_
 ·have hno:¬((sub l 0 1=[1]∨sub l 0 1=[2])∧sub l 1 3=[1,6]∧sub l 236 240=[99,130,83,99])→z=(Ic,2):=fun h=>by rw[if_pos h]at hz;exact hz.symm
  clear hz
  by_cases hk:sub l 1 3=[1,6]
  rotate_left
  ·replace hno:=Lib.hid (bad 1 (hno (fun h=>hk h.2.1)) _ hA.fr)
   have hkb:(sub l 1 3==[1,6])=false:=by simpa using hk
   clear hk bad
   by_cases k1:c0.toNat=1<;>by_cases k2:c0.toNat=2
   all_goals
    refine W ?_
    refine sMn (dH _ _) ?_
    exact⟨rfl,hno.out⟩
  have hkb:(sub l 1 3==[1,6])=true:=by simpa using hk
  by_cases kd:c0.toNat=1∨c0.toNat=2
  rotate_left
  ·replace hno:=Lib.hid (bad 1 (hno (fun h=>kd (by rw[hc0]at h;exact h.1.imp (fun e=>by injection e with e;rw[e];rfl) fun e=>by injection e with e;rw[e];rfl))) _ hA.fr)
   have k1:¬c0.toNat=1:=fun h=>kd (.inl h)
   have k2:¬c0.toNat=2:=fun h=>kd (.inr h)
   clear hk bad kd
   refine W ?_
   refine sMn (dH _ _) ?_
   exact⟨rfl,hno.out⟩
  have Hk:=Lib.hid (And.intro kd hk)
  clear hk
  by_cases hck:sub l 236 240=[99,130,83,99]
  ·have hb1:(sub l 236 240==[99,130,83,99])=true:=by simpa using hck
   have Hk:=Lib.hid (And.intro Hk.out.1 (And.intro Hk.out.2 hck))
   clear hck hno bad
   rcases kd with kd|kd
   all_goals
    refine W ?_
    refine sR 240 (qO 4 H20 (by omega) hl63 (by decide)) ?_
    intro _ w21 hA'
    refine W ?_
    refine sC (eU _ _) ?_
    rintro _ rfl
    refine W ?_
    exact mt ⟨Hk.out.1,Hk.out.2.1,Hk.out.2.2,by rw[List.drop_drop];exact hA'.rd,hA'.fr⟩
  ·have hb1:(sub l 236 240==[99,130,83,99])=false:=by simpa using hck
   replace hno:=Lib.hid (hno fun h=>hck h.2.2)
   clear hck
   rcases kd with kd|kd
   all_goals
    refine W ?_
    refine sR 240 (qO 4 hA (by omega) hl63 (by decide)) ?_
    intro _ w21 hA
    refine W ?_
    refine sMn (dH _ _) ?_
    exact⟨rfl,bad 1 hno.out _ hA.fr⟩
 clear H20
 rintro u wc ⟨hcc,hck1,hck2,hrc,hfc⟩
 have hspec:¬¬((sub l 0 1=[1]∨sub l 0 1=[2])∧sub l 1 3=[1,6]∧sub l 236 240=[99,130,83,99]):=by
  refine not_not_intro ⟨?_,hck1,hck2⟩
  rw[hc0]
  exact hcc.imp (fun e=>by rw[UInt8.toNat_inj.1 (show c0.toNat=(1:UInt8).toNat from e)]) fun e=>by rw[UInt8.toNat_inj.1 (show c0.toNat=(2:UInt8).toNat from e)]
 rw[if_neg hspec]at hz
 replace hA:=hA.go hrc hfc
 clear hck1 hck2 hspec hcc hrc hfc hc0 Hb hn0
 refine W ?_
 refine sA ?_
 intro wd hP f
 have hL0:LsA wd wc.heap.size (lK wc.heap.size) []:=⟨Nat.le_refl _,none,0,hP,⟨rfl,.inl ⟨rfl,rfl⟩⟩,fun a h=>by cases h⟩
 have hpl:=Bk.lt hA.rd
 have hgl:=(hA.at_ 0).lt
 have hxl:=(hA.at_ 1).lt
 have hwl:=hA.fr.size
 replace hA:=hA.none f
 have hps:=hP.lt
 clear hP f
 generalize wc.heap.size=pl at*
 refine W ?_
 refine sZ (EC pl (lK pl) p [] (l.drop 240) wd hL0 hA.rd (by unfold lK;omega) (fun k hk=>by unfold lK;omega) (by simp only[wtO,List.length_drop];omega)) ?_
 rintro e we (⟨os1,r,h1,rfl,hL1,hR1,hw1,hf1⟩|⟨h1,rfl,hf1⟩)
 rotate_left
 ·rw[h1]at hz
  refine⟨rfl,bad 0 hz.symm _ (hA.fr.trans' hf1 ?_)⟩
  rintro b hb (e|e)
  ·exact e
  ·unfold lK at e;omega
 simp only[h1]at hz
 have hme:=(hA.at_ 0).keep hf1 (by rintro(e|e);exact hgp e.symm;unfold lK at e;omega)
 have hxe:=(hA.at_ 1).keep hf1 (by rintro(e|e);exact(hA.bk _ (List.mem_of_getElem? (i:=1) rfl)).1 e;unfold lK at e;omega)
 have hFe:Fr (aI p) w we:=hA.fr.trans' hf1 (by
  rintro b hb (e|e)
  ·exact e
  ·unfold lK at e;omega)
 obtain⟨hbp,A1,cap1,hB1,hO1,hAF1⟩:=hL1
 have hA1:SlR we (fun k=>k<pl) 2 A1 os1.length (fY os1):=CA hO1 (fun a e=>by have:=hAF1 a e;unfold lK at this;omega)
 have hel:pl<we.heap.size:=hB1.lt
 clear hA
 refine W ?_
 refine sZ (JA (fun k=>k<pl) A1 cap1 os1 (sub l 44 108) (sub l 108 236) we hA1 (fun k hk=>by omega) ?_) ?_
 ·have a1:=Ap l 44 108
  have a2:=Ap l 108 236
  simp only[wtO,List.length_drop]at hw1
  omega
 rintro e wf ⟨⟨os2,A2,cap2,h2,rfl,hA2,hw2⟩|⟨k,h2,rfl⟩,hf2⟩
 rotate_left
 ·obtain⟨a,h3⟩:∃a,iI os1 (sub l 44 108) (sub l 108 236)=(a,k+1):=⟨_,Prod.ext rfl h2⟩
  simp only[h3]at hz
  exact⟨rfl,bad k hz.symm _ (hFe.none hf2)⟩
 simp only[h2]at hz
 have hwt2:wtO os2≤l.length:=by
  have a1:=uX l 44 108 (by omega)
  have a2:=uX l 108 236 (by omega)
  simp only[wtO,List.length_drop]at hw1
  omega
 clear h2 h1 hB1 hO1 hA1
 have hxf:=hxe.keep hf2 id
 have hFf:=hFe.none hf2
 refine W ?_
 refine sK (yF ⟨b,x0,x1,x2,x3,mm,os2⟩ A2 cap2) (hme.keep hf2 id) ?_
 intro wg hmg fg
 have hxg:=hxf.keep fg (fun e=>Nat.ne_of_lt hg0 e)
 have hAg:=hA2.keep (fg.mono fun k _ e=>by have e':k=g:=e;omega)
 refine W ?_
 refine sT ?_
 intro w9 hX f
 refine W ?_
 refine zC hX Tryz.underlying62 ?_
 refine⟨.inl ⟨_,⟨_,A2,cap2,rfl,hy.trans hz.symm,?_,hwt2⟩,rfl⟩,((hFf.trans' fg (fun k hk e=>by have e':k=g:=e;omega)).trans' f fun k hk e=>by have e':k=w.heap.size:=e;omega).mono fun b _ e=> .inl e⟩
 exact(hAg.keep (f.mono fun k _ e=>by have e':k=w.heap.size:=e;omega)).sub (fun b hb h=>by omega)
end Go.Proofs.YtcbkaiakdhiloacGreatDoor
namespace Go.Proofs.YtcbkaiakdhiloacGreatDoor
open Go.RowKit Go.Proofs
attribute [local go_sem] aG aD aC aE
def Eh (l:List UInt8) (w:World) (e:Ending) (w':World):Prop:=
 (∃A cap,e= .returned (.tuple #[.agg (yF (aQ l).1 A cap),.int .i64 ((aQ l).2:Int)])∧SlR w' (fun k=>k<w.heap.size) 2 A (aQ l).1.os.length (fY (aQ l).1.os))∧Fr noB w w'
theorem qI (d:sI) (A:Option Addr) (cap:Nat):(yF d A cap).size=12:=rfl
theorem vF (d:sI) (A:Option Addr) (cap:Nat):(yF d A cap).all (·.oneCell')=true:=by simp[yF,Value.oneCell']
theorem Cx (d:sI) (A:Option Addr) (cap:Nat):(Tryz.prog.info? 62).map (·.size)=some (yF d A cap).size:=by rw[qI];kernel_rfl
theorem B9 (l:List UInt8) (w:World) (hl:l.length≤1099511000000):
 Calls Tryz.prog 51 #[.string (bs l)] w (Eh l w):=by
 go_enter Tryz.func51,Tryz.ntmps51
 have hmf:∀(fn:Fn) (first cap:Array Value) (w:World),(Instr.makeFunc fn first cap).run Tryz.prog w= .ok (.func fn first cap) w:=fun _ _ _ _=>rfl
 go_wp2_with fail
 have hs0:=(Bk.new w 9 #[.string (bs l)]).alloc (.cells (rdZ 4) 62)
 have hx0:=Bk.new (w.alloc (.cells #[.string (bs l)] 9)) 62 (rdZ 4)
 have hf0:Fr noB w ((w.alloc (.cells #[.string (bs l)] 9)).alloc (.cells (rdZ 4) 62)):=((Fr.refl _ _).alloc _).alloc _
 have hsz:((w.alloc (.cells #[.string (bs l)] 9)).alloc (.cells (rdZ 4) 62)).heap.size=w.heap.size+2:=by simp
 rw[show(w.alloc (.cells #[.string (bs l)] 9)).heap.size=w.heap.size+1 by simp]at hx0
 simp only[rdZ]at hs0 hx0 hf0 hsz
 generalize(w.alloc (.cells #[.string (bs l)] 9)).alloc (.cells #[.bool false,.int .u32 0,.int .u32 0,.int .u32 0,.int .u32 0,.int .u8 0,.int .u8 0,.int .u8 0,.int .u8 0,.int .u8 0,.int .u8 0,.slice none 0 0] 62)=w1 at*
 have Hsz:=Lib.hid hsz
 clear hsz
 refine(Ey 4 (by decide) l w1 98 #[.pointer (some ⟨w.heap.size,0,none⟩)] noB (Jr (w1.heap.size+2) l) (D7 l) (fun _ _ _ x=>x) ?_ ?_ ?_).mono ?_
 ·rintro x w2 ⟨d,A,cap,rfl,_⟩;exact⟨_,rfl,rfl,vF d A cap⟩
 ·rintro x w2 w3 ⟨d,A,cap,rfl,h1,h2,h3⟩ hf
  exact⟨d,A,cap,rfl,h1,h2.keep (hf.mono fun b _ e=>by rcases e with e|e<;>omega),h3⟩
 ·rintro p w2 rfl hR hf
  exact LP _ l hl _ w.heap.size w2 hR (hs0.keep hf (fun x=>x)) (by have:=Hsz.out;omega) (by have:=Bk.lt hR;omega)
 rintro e w2 ⟨hcase,hf1⟩
 have hx1:=hx0.keep hf1 (fun x=>x)
 have key:∃A cap,e= .returned (.tuple #[.agg (yF (aQ l).1 A cap),.int .i64 ((aQ l).2:Int)])∧SlR w2 (fun k=>k<w.heap.size+2) 2 A (aQ l).1.os.length (fY (aQ l).1.os):=by
  rcases hcase with⟨x,⟨d,A,cap,rfl,h1,h2,h3⟩,rfl⟩|⟨er,⟨k,rfl,h1⟩,rfl⟩
  ·rw[h1];exact⟨A,cap,rfl,h2.sub (fun b hb h=>by have:=Hsz.out;omega)⟩
  ·rw[h1];exact⟨none,0,rfl,SlR.nil⟩
 obtain⟨A,cap,rfl,hA⟩:=key
 generalize hr:aQ l=r at*
 have Hr:=Lib.hid hr
 clear hr hcase
 have hin:=Lib.hid (Cx r.1 A cap)
 have hon:=Lib.hid (vF r.1 A cap)
 have hsz:=Lib.hid (qI r.1 A cap)
 generalize hc:yF r.1 A cap=c at*
 have Hc:=Lib.hid hc
 clear hc
 go_wp2_with ((refine aN rfl 62 (.tmp 2) (.tmp 7) rfl (w.heap.size+1) _ _ c rfl rfl hx1 hsz.out hin.out hon.out ?_);intro w9 hx9 hf9)
 refine bodyPost_ret (aX Tryz.results51 _ w9 (w.heap.size+1) _ c _ _ rfl rfl hx9 Tryz.underlying62 rfl hin.out) rfl ?_
 refine⟨⟨A,cap,by rw[Hr.out,Hc.out];rfl,?_⟩,(hf0.none hf1).trans' hf9 (fun b hb e=>by unfold aI at e;omega)⟩
 rw[Hr.out]
 exact(hA.keep (hf9.mono fun b hb e=>by unfold aI at e;omega)).sub (fun b hb h=>by omega)
end Go.Proofs.YtcbkaiakdhiloacGreatDoor
