/- Parts of the walk; written by programs, merged. -/
import Derived.Test.YtcllkmllflheiaaGreatDoorLan
set_option linter.unusedSimpArgs false
set_option linter.unusedVariables false
set_option maxRecDepth 20000
set_option maxHeartbeats 8000000
namespace Go.Proofs.YtcllkmllflheiaaGreatDoor
open Go.RowKit Go.Proofs
attribute [local go_sem] aG aD cV aF
attribute [local simp] ibq ibn eqN ltN leN eqL ltL gtL leL geL
theorem Kq (n:Nat) (w:World) (hn:n≤4611686018427387000):Calls Tryz.prog 145 #[.int .i64 (20+(n:Int)),.int .i64 2] w fun e w'=>e= .returned (.string (bs (big 2 (20+n))))∧Fr noB w w':=by
 have h:=iO (20+n) 2 w (by omega) (by omega)
 rw[show((20+n:Nat):Int)=20+(n:Int) by omega]at h
 exact h
theorem Bf (id:Nat) (ttl pr:UInt8) (fi ti:Nat) (ld:List UInt8):
 rS id ttl pr ld.length++big 2 (fB (rS id ttl pr ld.length++[0,0]++tM fi ti))++tM fi ti++ld=sF id ttl pr fi ti ld:=rfl
theorem Bb (id fi ti:Nat) (ttl pr:UInt8) (ld:List UInt8) (w:World) (hid:id<65536) (hfi:fi<4294967296) (hti:ti<4294967296) (hld:ld.length≤9223372036854775807):
 Calls Tryz.prog 151 #[.agg #[.int .u16 (id:Int),.int .u8 (ttl.toNat:Int),.int .u8 (pr.toNat:Int),.int .u32 (fi:Int),.int .u32 (ti:Int),.string (bs ld)]] w (eL (Be id ttl pr fi ti ld) w):=by
 obtain⟨z,hz⟩:∃z,Be id ttl pr fi ti ld=z:=⟨_,rfl⟩
 unfold eL
 rw[hz]
 unfold Be at hz
 refine en Tryz.func151 Tryz.ntmps151 ?_
 refine W ?_
 refine sA ?_
 intro w1 hB f1
 split at hz<;>rename_i h0
 rotate_left
 split at hz<;>rename_i h1
 rotate_left
 have e0:IntKind.i64.wrap (id:Int)=id:=IntWalk.i64_in _ ⟨by omega,by omega⟩
 have e1:IntKind.i64.wrap (20+(ld.length:Int))=20+(ld.length:Int):=IntWalk.i64_in _ ⟨by omega,by omega⟩
 refine W ?_
 refine cM [1] [(4,.string (bs (rS id ttl pr ld.length)))] (fun w'=>Bk w' w.heap.size 130 #[.int .u16 (id:Int),.int .u8 (ttl.toNat:Int),.int .u8 (pr.toNat:Int),.int .u32 (fi:Int),.int .u32 (ti:Int),.string (bs ld)]∧Fr noB w w') ?_ ?_
 ·refine dI (An hB f1) [] ([0,6,12,14,1,2,3,7,8,13,15,2000,4,5,2000,9,10,11,16,4017,18,19,3000,16,2000,9,10,11,4017,18,19,3000,4017,9,10,11,18,19,3000,16,2000,4,5,2000,9,10,11,4017,18,19,3000,4017,9,10,11,18,19,3000,4017,4,5,9,10,11,18,19]) (h:= ?_)
  rintro w2 hS _
  clear hB f1 hz
  refine D2 ?_
  repeat' (first
   |refine dF2 ?_ ?_
   |(have hcv:=cvM [ttl,pr] 2 hE rfl 2;refine dU (h:= ?_) (fun _=>hS);clear hcv;refine D2 ?_)
   |(refine dQc (Kq ld.length _ (by omega)) hS ?_;intro _ f' hS;(try replace hE:=Bk.keep hE f' fun x=>x);refine D2 ?_)
   |(refine dQc (iO id 2 _ (by omega) (by decide)) hS ?_;intro _ f' hS;(try replace hE:=Bk.keep hE f' fun x=>x);refine D2 ?_)
   |(refine dA2 (cs:= #[.int .u8 (ttl.toNat:Int),.int .u8 (pr.toNat:Int)]) inferInstance hS ?_;intro _ hS hE _;refine D2 ?_))
  all_goals
   refine tN ?_
   exact mt hS
 clear hB f1
 rintro u w2 ⟨hB,f1⟩
 have k1:(rS id ttl pr ld.length).length=10:=by simp[rS,aH]
 have k2:(tM fi ti).length=8:=by simp[tM,aH]
 have k3:=Bf id ttl pr fi ti ld
 generalize rS id ttl pr ld.length=A at*
 refine W ?_
 refine cM [1,4] [(5,.string (bs (tM fi ti)))] (fun w'=>Bk w' w.heap.size 130 #[.int .u16 (id:Int),.int .u8 (ttl.toNat:Int),.int .u8 (pr.toNat:Int),.int .u32 (fi:Int),.int .u32 (ti:Int),.string (bs ld)]∧Fr noB w w') ?_ ?_
 ·refine dI (An hB f1) [] [0,3,1,4,2,5,6,7] (h:= ?_)
  rintro w3 hS _
  clear hB f1 hz k3
  refine D2 ?_
  refine dQc (lI fi _ (by omega)) hS ?_
  intro _ _ hS
  refine D2 ?_
  refine dQc (lI ti _ (by omega)) hS ?_
  intro _ _ hS
  refine D2 ?_
  refine tN ?_
  exact mt hS
 clear hB f1
 rintro u w3 ⟨hB,f1⟩
 generalize tM fi ti=B at*
 refine W ?_
 refine dI (An hB f1) [] [0,1,2,3,4,8,10,11,5,6,7,9,12,13,14] (h:= ?_)
 rintro w4 hS _
 clear hB f1
 refine D2 ?_
 have k5:A++[0,0]++B=A++0::0::B:=by simp
 rw[k5]at k3
 refine dQc (gE (A++0::0::B) _ (by simp only[List.length_append,List.length_cons];omega)) hS ?_
 intro _ _ hS
 have k4:=nL (A++0::0::B)
 generalize fB (A++0::0::B)=ck at*
 refine D2 ?_
 refine dQc (iO ck 2 _ (by omega) (by decide)) hS ?_
 intro _ _ hS
 refine D2 ?_
 refine W ?_
 subst hz
 exact⟨by rw[←k3];simp,hS.2⟩
 all_goals
  refine W ?_
  subst hz
  exact⟨rfl,f1⟩
end Go.Proofs.YtcllkmllflheiaaGreatDoor
namespace Go.Proofs.YtcllkmllflheiaaGreatDoor
open Go.RowKit Go.Proofs
attribute [local go_sem] aG aD cV aF
attribute [local simp] ibq ibn eqN ltN leN eqL ltL gtL leL geL
theorem wZ (fm tp fi ti:Nat) (ld:List UInt8) (w:World) (hfm:fm<65536) (htp:tp<65536) (hfi:fi<4294967296) (hti:ti<4294967296) (hld:ld.length≤4611686018427387000):
 Calls Tryz.prog 150 #[.agg #[.int .u16 (fm:Int),.int .u16 (tp:Int),.string (bs ld)],.int .u32 (fi:Int),.int .u32 (ti:Int)] w (eL (mI fm tp fi ti ld) w):=by
 obtain⟨z,hz⟩:∃z,mI fm tp fi ti ld=z:=⟨_,rfl⟩
 unfold eL
 rw[hz]
 unfold mI lK at hz
 have k1:=xJ fm tp (8+ld.length)
 have k2:=lP fi ti (8+ld.length)
 have kw:∀x,Bq fm tp (8+ld.length)++big 2 x++ld=eR fm tp ld x:=fun _=>rfl
 have ka:big 2 fm++big 2 tp++big 2 (8+ld.length)=Bq fm tp (8+ld.length):=rfl
 have ks:fB (bC fi ti (8+ld.length)++Bq fm tp (8+ld.length)++[0,0]++ld)=fY fm tp fi ti ld:=rfl
 obtain⟨n,hn⟩:∃n,8+ld.length=n:=⟨_,rfl⟩
 have e0:IntKind.i64.wrap (8+(ld.length:Int))=n:=(IntWalk.i64_in _ ⟨by omega,by omega⟩).trans (by omega)
 have e1:IntKind.i64.wrap (fm:Int)=fm:=IntWalk.i64_in _ ⟨by omega,by omega⟩
 have e2:IntKind.i64.wrap (tp:Int)=tp:=IntWalk.i64_in _ ⟨by omega,by omega⟩
 rw[hn]at hz kw ka ks k1 k2
 refine en Tryz.func150 Tryz.ntmps150 ?_
 refine W ?_
 refine sA ?_
 intro w1 hB f1
 split at hz<;>rename_i h0
 rotate_left
 refine W ?_
 refine cM [1,2,3,8] [(9,.string (bs (Bq fm tp n)))] (fun w'=>Bk w' w.heap.size 134 #[.int .u16 (fm:Int),.int .u16 (tp:Int),.string (bs ld)]∧Fr noB w w') ?_ ?_
 ·refine dI (An hB f1) [] [0,4,9,1,2,5,6,3,7,8,10,11,12] (h:= ?_)
  rintro w2 hS _
  clear hB f1 hz kw ks
  refine D2 ?_
  refine dQc (iO fm 2 _ (by omega) (by decide)) hS ?_
  intro _ _ hS
  refine D2 ?_
  refine dQc (iO tp 2 _ (by omega) (by decide)) hS ?_
  intro _ _ hS
  refine D2 ?_
  refine dQc (iO n 2 _ (by omega) (by decide)) hS ?_
  intro _ _ hS
  refine D2 ?_
  refine tN ?_
  exact mt hS
 clear hB f1 ka
 rintro u w2 ⟨hB,f1⟩
 generalize Bq fm tp n=A at*
 have k5:bC fi ti n++A++[0,0]++ld=bC fi ti n++(A++0::0::ld):=by simp
 rw[k5]at ks
 refine W ?_
 refine cM [1,2,3,9] [(10,.int .i64 (fY fm tp fi ti ld:Int))] (fun w'=>Bk w' w.heap.size 134 #[.int .u16 (fm:Int),.int .u16 (tp:Int),.string (bs ld)]∧Fr noB w w') ?_ ?_
 ·refine dI (An hB f1) [] [0,1,2,4,7,8,3,5,6,9,10,11] (h:= ?_)
  rintro w3 hS _
  clear hB f1 hz kw
  refine D2 ?_
  refine dQc (uK fi ti (n:Int) _ hfi hti (by omega) (by omega)) hS ?_
  intro _ _ hS
  rw[Int.toNat_natCast]
  generalize bC fi ti n=B at*
  refine D2 ?_
  refine dQc (gE (B++(A++0::0::ld)) _ (by simp only[List.length_append,List.length_cons];omega)) hS ?_
  intro _ _ hS
  rw[ks]
  refine D2 ?_
  refine tN ?_
  exact mt hS
 clear hB f1 ks k5 k2
 rintro u w3 ⟨hB,f1⟩
 have k6:fY fm tp fi ti ld≤65535:=nL _
 generalize fY fm tp fi ti ld=x at*
 refine cS ?_
 refine cM [1,2,3,9] [(10,.int .i64 ((if x=0 then 65535 else x:Nat):Int))] (fun w'=>w'=w3) ?_ ?_
 ·by_cases hx:x=0
  ·rw[if_pos hx]
   refine W ?_
   exact mt rfl
  ·rw[if_neg hx]
   refine W ?_
   exact mt rfl
 rintro u w4 rfl
 have k7:(if x=0 then 65535 else x)≤65535:=by split<;>omega
 generalize(if x=0 then 65535 else x)=y at*
 refine W ?_
 refine dI (An hB f1) [] [0,1,4,5,2,3,6,7,8] (h:= ?_)
 rintro w5 hS _
 clear hB f1
 refine D2 ?_
 refine dQc (iO y 2 _ (by omega) (by decide)) hS ?_
 intro _ _ hS
 refine D2 ?_
 refine W ?_
 subst hz
 exact⟨by rw[←kw];simp,hS.2⟩
 refine W ?_
 subst hz
 exact⟨rfl,f1⟩
end Go.Proofs.YtcllkmllflheiaaGreatDoor
set_option maxRecDepth 20000
namespace Go.Proofs.YtcllkmllflheiaaGreatDoor
open Go.RowKit Go.Proofs
attribute [local go_sem] aG aD aE aF
theorem fR (p T:Nat) (M:bQ) (s:St) (w:World) (h:aA w p T M s):
 Calls Tryz.prog 51 #[.pointer (some ⟨p,0,none⟩)] w fun e w'=>e= .returned (.int .u32 (s.address:Int))∧w'=w:=by
 have c22:=h.g22
 have c24:=h.g24
 unfold St.address
 by_cases h4:4≤s.lease
 ·have e4:¬(s.lease:Int)<4:=by omega
  rw[if_pos h4];clear h4
  go_enter Tryz.func51,Tryz.ntmps51
  go_wp2_with fail
  go_ret
  exact⟨rfl,rfl⟩
 ·have e4:(s.lease:Int)<4:=by omega
  rw[if_neg h4];clear h4
  go_enter Tryz.func51,Tryz.ntmps51
  go_wp2_with fail
  go_ret
  exact⟨rfl,rfl⟩
theorem Co (p T:Nat) (M:bQ) (s:St) (w:World) (h:aA w p T M s):
 Calls Tryz.prog 42 #[.pointer (some ⟨p,0,none⟩)] w fun e w'=>e= .returned (.bool s.over)∧w'=w:=by
 have c34:=h.g34
 unfold St.over
 by_cases h3:s.phase=3
 ·have e3:(s.phase:Int)=3:=by omega
  have e4:(s.phase==3||s.phase==4)=true:=by simp[h3]
  rw[e4];clear h3 e4
  go_enter Tryz.func42,Tryz.ntmps42
  go_wp2_with fail
  go_ret
  exact⟨rfl,rfl⟩
 ·have e3:((s.phase:Int)==3)=false:=by rw[beq_eq_false_iff_ne];omega
  have e5:(s.phase==3||s.phase==4)=((s.phase:Int)==4):=by rw[Bool.eq_iff_iff];simp;omega
  rw[e5];clear h3 e5
  go_enter Tryz.func42,Tryz.ntmps42
  go_wp2_with fail
  go_ret
  exact⟨rfl,rfl⟩
def mwF (u:Nat→Value):Act:=⟨#[u 0,u 1,u 2,u 3,u 4,u 5,u 6,u 7,u 8,u 9,u 10,u 11,u 12,u 13,u 14,u 15,u 16,u 17,u 18,u 19,u 20],[]⟩
set_option maxRecDepth 100000 in
theorem GJ (u:Nat→Value):mwF u=frN 21 u:=rfl
theorem qL {a:Act} (h:Sz 21 a):a=mwF (sl a):=h.eq.trans (GJ _).symm
theorem Ky (a:Act) (w:World) (K:KT) (hs:Sz 21 a)
 (hK:∀a' w',Sz 21 a'→Kp [0,1,5] a a'→w'=w→K .normal a' w'):
 (aB Tryz.f46 0).wp Tryz.prog K a w:=by
 refine rgE hK (qL hs) fun HK=> ?_;clear hK hs
 simp only[mwF]
 go_wp2_with fail
 exact HK.out _ _ ⟨rfl,rfl⟩ kZ rfl
theorem JY (a:Act) (w:World) (K:KT) (hs:Sz 21 a)
 (hK:∀a' w',Sz 21 a'→Kp [0,1,4] a a'→sl a' 5= .int .i64 2→w'=w→K .normal a' w'):
 (aB Tryz.f46 1).wp Tryz.prog K a w:=by
 refine rgE hK (qL hs) fun HK=> ?_;clear hK hs
 simp only[mwF]
 go_wp2_with fail
 exact HK.out _ _ ⟨rfl,rfl⟩ kZ (rfl) rfl
theorem JT (k:Nat) (a:Act) (w:World) (K:KT) (hs:Sz 21 a)
 (h1:sl a 1= .int .i64 (k:Int))
 (hK:∀a' w',Sz 21 a'→Kp [0,1,4,5] a a'→sl a' 7= .bool (decide (0<k))→w'=w→K .normal a' w'):
 (aB Tryz.f46 2).wp Tryz.prog K a w:=by
 refine rgE hK (qL hs) fun HK=> ?_;clear hK hs
 simp only[mwF,h1]
 go_wp2_with fail
 exact HK.out _ _ ⟨rfl,rfl⟩ kZ (by simp[sl]) rfl
theorem J5 (n m:Nat) (a:Act) (w:World) (K:KT) (hs:Sz 21 a)
 (h5:sl a 5= .int .i64 (n:Int)) (q:IntKind.i64.wrap (2*(n:Int))=(m:Int))
 (hK:∀a' w',Sz 21 a'→Kp [0,1,4] a a'→sl a' 5= .int .i64 (m:Int)→w'=w→K .normal a' w'):
 (aB Tryz.f46 4).wp Tryz.prog K a w:=by
 refine rgE hK (qL hs) fun HK=> ?_;clear hK hs
 simp only[mwF,h5]
 clear h5
 go_wp2_with fail
 exact HK.out _ _ ⟨rfl,rfl⟩ kZ (rfl) rfl
theorem KD (k j:Nat) (a:Act) (w:World) (K:KT) (hs:Sz 21 a)
 (h1:sl a 1= .int .i64 (k:Int)) (q:IntKind.i64.wrap ((k:Int)-1)=(j:Int))
 (hK:∀a' w',Sz 21 a'→Kp [0,4,5] a a'→sl a' 1= .int .i64 (j:Int)→w'=w→K .normal a' w'):
 (aB Tryz.f46 3).wp Tryz.prog K a w:=by
 refine rgE hK (qL hs) fun HK=> ?_;clear hK hs
 simp only[mwF,h1]
 clear h1
 go_wp2_with fail
 exact HK.out _ _ ⟨rfl,rfl⟩ kZ (rfl) rfl
theorem J1 (p T:Nat) (M:bQ) (s:St) (n:Nat) (a:Act) (w:World) (K:KT) (hs:Sz 21 a)
 (h0:sl a 0= .pointer (some ⟨p,0,none⟩)) (h5:sl a 5= .int .i64 (n:Int)) (h:aA w p T M s) (hn:n≤100) (hd:s.draw<4294967296)
 (hK:∀a' w',Sz 21 a'→Kp [0,1,5] a a'→sl a' 4= .int .i64 ((n:Int)+(s.draw:Int)%3-1)→w'=w→K .normal a' w'):
 (aB Tryz.f46 5).wp Tryz.prog K a w:=by
 refine rgE hK (qL hs) fun HK=> ?_;clear hK hs
 simp only[mwF,h0,h5]
 have c17:=h.g17
 go_wp2_with fail
 exact HK.out _ _ ⟨rfl,rfl⟩ kZ (rfl) rfl
theorem xN (p T:Nat) (M:bQ) (s:St) (k:Nat) (hk:k≤4) (w:World) (h:aA w p T M s):Calls Tryz.prog 46 #[.pointer (some ⟨p,0,none⟩),.int .i64 (k:Int)] w fun e w'=>e= .returned (.int .i64 (s.wait k))∧w'=w:=by
 go_enter Tryz.func46,Tryz.ntmps46
 refine wp_seq ?_
 refine Ky _ w _ ⟨rfl,rfl⟩ ?_
 intro a0 w0 hs0 k0 hw;subst hw
 have e0:sl a0 0= .pointer (some ⟨p,0,none⟩):=(k0 0 (by decide)).trans rfl
 have e1:sl a0 1= .int .i64 (k:Int):=(k0 1 (by decide)).trans rfl
 clear k0
 refine wp_seq ?_
 refine JY a0 w0 _ hs0 ?_
 intro a1 w1 hs1 k1 o5 hw;subst hw
 refine wp_seq (wp_block ?_)
 refine fQ 21 (fun a' w'=>∃j i:Nat,j+i=k∧sl a' 1= .int .i64 (j:Int)∧sl a' 5= .int .i64 ((2*2^i:Nat):Int)∧sl a' 0= .pointer (some ⟨p,0,none⟩)∧w'=w1) (fun a' _=>(intOf (sl a' 1)).toNat)
  hs1 ⟨k,0,rfl,k1.t e1,o5,k1.t e0,rfl⟩ ?_
 rintro a2 w2 hs2 ⟨j,i,hji,z1,z5,z0,hw⟩;subst hw
 have hpow:2*2^i≤32:=by
  have:i≤4:=by omega
  calc 2*2^i≤2*2^4:=Nat.mul_le_mul_left 2 (Nat.pow_le_pow_right (by decide) this)
   _=32:=by decide
 refine wp_seq (wp_seq ?_)
 refine JT j a2 w2 _ hs2 z1 ?_
 intro a3 w3 hs3 k3 o7 hw;subst hw
 refine fK o7 (fun hb=> ?_) (fun hb=> ?_)
 ·have hj:=of_decide_eq_true hb
  refine wp_skip ?_
  refine wp_seq (wp_block ?_)
  refine J5 (2*2^i) (2*2^(i+1)) a3 w3 _ hs3 (k3.t z5) ((IntWalk.i64_in _ (by omega)).trans (by rw[Nat.pow_succ];omega)) ?_
  intro a4 w4 hs4 k4 o5 hw;subst hw
  refine KD j (j-1) a4 w4 _ hs4 (k4.t (k3.t z1)) ((IntWalk.i64_in _ (by omega)).trans (by omega)) ?_
  intro a5 w5 hs5 k5 o1 hw;subst hw
  refine⟨hs5,⟨j-1,i+1,by omega,o1,k5.t o5,k5.t (k4.t (k3.t z0)),rfl⟩,?_⟩
  rw[o1,z1];simp only[intOf];omega
 ·have hj:j=0:=by have:=of_decide_eq_false hb;omega
  have hik:i=k:=by omega
  subst hik
  refine wp_exit (bD (bD (bU ?_)))
  refine wp_seq ?_
  refine J1 p T M s _ a3 w3 _ hs3 (k3.t z0) (k3.t z5) h (by omega) h.ok.draw ?_
  intro a4 w4 hs4 k4 o4 hw;subst hw
  refine wp_ret ?_
  refine bodyPost_ret (results_tmp rfl _ _ _) hs4.defers ⟨?_,rfl⟩
  have hv:a4.tmps.getD 4 undef= .int .i64 (s.wait i):=by
   refine(show _=_ from o4).trans ?_
   unfold St.wait
   congr 1
  rw[hv]
theorem mC:(Tryz.prog.info? 9).map (fun i=>(i.zero,i.size,i.bytes))=some (some (.string ⟨#[]⟩),1,16):=by kernel_rfl
theorem C3 {w:World} {e:TypeId} {size n:Nat} {v:Value} {xs:List Value} (h:w.ownsRow 0 e size v (n+1) xs):∃g c,v= .slice (some ⟨g,0,none⟩) (n+1) c∧w.ownsRow 0 e size (.slice (some ⟨g,0,none⟩) (n+1) c) (n+1) xs:=by
 rcases h.2 with⟨_,h0⟩|⟨g,c,cur,hv,_⟩
 ·omega
 ·subst hv;exact⟨g,c,rfl,h⟩
def mdF (u:Nat→Value):Act:=⟨#[u 0,u 1,u 2,u 3,u 4,u 5,u 6,u 7,u 8,u 9,u 10,u 11,u 12,u 13,u 14,u 15,u 16,u 17,u 18,u 19,u 20,u 21,u 22,u 23,u 24,u 25,u 26,u 27,u 28,u 29,u 30,u 31,u 32,u 33,u 34,u 35,u 36,u 37,u 38,u 39,u 40,u 41,u 42],[]⟩
set_option maxRecDepth 100000 in
theorem GW (u:Nat→Value):mdF u=frN 43 u:=rfl
theorem EN {a:Act} (h:Sz 43 a):a=mdF (sl a):=h.eq.trans (GW _).symm
theorem Ld (p T:Nat) (M:bQ) (s:St) (a:Act) (w:World) (K:KT) (hs:Sz 43 a)
 (h0:sl a 0= .pointer (some ⟨p,0,none⟩)) (h:aA w p T M s)
 (hK:∀a' w' g,Sz 43 a'→Kp [0] a a'→sl a' 2= .pointer (some ⟨g,0,none⟩)→aA w' p T M s→Bk w' g 57 (lF s.drop T {M with ca:=none,cac:=0,im:=none,imc:=0})→Fr noB w w'→K .normal a' w'):
 (aB Tryz.f65 0).wp Tryz.prog K a w:=by
 refine rgE hK (EN hs) fun HK=> ?_;clear hK hs
 simp only[mdF,h0]
 refine wpr (fun w'=>aA w' p T M s∧Fr noB w w') [38] (.p 0 (.p 1 (.p 2 (.p 4 (.p 5 (.p 6 (.p 8 (.p 9 (.p 10 (.p 12 (.p 13 (.p 14 (.p 16 (.p 17 (.p 18 (.p 20 (.p 21 (.p 22 (.p 24 (.p 25 (.p 26 (.p 28 (.p 29 (.p 30 (.p 32 (.p 33 (.p 34 (.q 3 (.q 7 (.q 11 (.q 15 (.q 19 (.q 23 (.q 27 (.q 31 (.q 35 (.p 36 (.e 37 (.e 38 (.nil)))))))))))))))))))))))))))))))))))))))) (⟨h.drew,(Fr.refl _ _).drew⟩) ?_
 intro ops Q' hO hQ' wr1 hR1
 iterate 27 refine pP hO ?_
 iterate 9 (refine pQ hO rfl rfl (fun w' hS=>by obtain⟨hB,hF⟩:=hS;have c0:=hB.g0;have c1:=hB.g1;have c2:=hB.g2;have c3:=hB.g3;have c4:=hB.g4;have c5:=hB.g5;have c6:=hB.g6;have c7:=hB.g7;have c8:=hB.g8;have c9:=hB.g9;have c10:=hB.g10;have c11:=hB.g11;have c12:=hB.g12;have c13:=hB.g13;have c14:=hB.g14;have c15:=hB.g15;have c16:=hB.g16;have c17:=hB.g17;have c18:=hB.g18;have c19:=hB.g19;have c20:=hB.g20;exact qd) ?_)
 refine GM hO rfl rfl (.agg (lF s.drop T {M with ca:=none,cac:=0,im:=none,imc:=0})) (fun w=>by kernel_rfl) ?_;simp only[Act.put,List.setIfInBounds_toArray,List.set_cons_zero,List.set_cons_succ]
 refine fJ hO rfl rfl rfl (fun K hK=> ?_)
 go_simp
 refine hK _ _ (⟨hR1.1.none ((Fr.refl _ _).alloc _),hR1.2.alloc _⟩) (fun hR_37=> ?_)
 clear hK K
 refine gC hO rfl rfl rfl (fun K hK=> ?_)
 refine eH 57 (.tmp 2) (.tmp 39) rfl wr1.heap.size _ _ (lF s.drop T {M with ca:=none,cac:=0,im:=none,imc:=0}) rfl rfl (Bk.new wr1 _ _) rfl (by kernel_rfl) (by simp[lF,Value.oneCell']) (fun w5 hx5 hf5=> ?_)
 refine hK _ _ ?_
 clear hK K
 refine bV (hQ' _ _ ?_)
 exact HK.out _ _ _ ⟨rfl,rfl⟩ kZ (rfl) (hR1.1.none (((Fr.refl noB wr1).alloc _).trans' hf5 (fun b hb e=>by have e':b=wr1.heap.size:=e;omega))) hx5 (hR1.2.none (((Fr.refl noB wr1).alloc _).trans' hf5 (fun b hb e=>by have e':b=wr1.heap.size:=e;omega)))
theorem wQ (s:St) (T:Nat) (M:bQ):(lF s T M).size=46:=rfl
theorem Ee (s:St) (T:Nat) (M:bQ):(lF s T M).all (·.oneCell')=true:=by simp[lF,Value.oneCell']
theorem Eh:(Tryz.prog.info? 57).map (·.size)=some 46:=by kernel_rfl
theorem KJ (p g:Nat) (c0 cs:Array Value) (a:Act) (w:World) (K:KT) (hs:Sz 43 a)
 (h0:sl a 0= .pointer (some ⟨p,0,none⟩)) (h2:sl a 2= .pointer (some ⟨g,0,none⟩)) (hB:Bk w p 57 c0) (hG:Bk w g 57 cs) (h0s:c0.size=46) (hss:cs.size=46) (hone:cs.all (·.oneCell')=true)
 (hK:∀a' w',Sz 43 a'→Kp [0,2] a a'→Bk w' p 57 cs→Fr (aJ p) w w'→K .normal a' w'):
 (aB Tryz.f65 1).wp Tryz.prog K a w:=by
 refine rgE hK (EN hs) fun HK=> ?_;clear hK hs
 simp only[mdF,h0,h2]
 have hu:=Tryz.underlying57
 have hi:(Tryz.prog.info? 57).map (·.size)=some cs.size:=by rw[hss];exact Eh
 have H:=Lib.hid (And.intro h0s (And.intro hss hone))
 clear h0s hss hone
 go_wp2_with (first|(refine wpList_load_row rfl 57 (.tmp 2) rfl g rfl 57 cs (0,0) _ hG hu rfl hi ?_)|((refine aP rfl 57 (.tmp 42) (.tmp 41) rfl p _ c0 cs rfl rfl hB (H.out.2.1.trans H.out.1.symm) hi H.out.2.2 ?_);intro w9 hx9 hf9))
 exact HK.out _ _ ⟨rfl,rfl⟩ kZ hx9 hf9
theorem BX (p T:Nat) (M:bQ) (s:St) (w:World) (h:aA w p T M s):Calls Tryz.prog 65 #[.pointer (some ⟨p,0,none⟩)] w fun e w'=>e= .returned (.tuple #[])∧bE p T M w s.drop w':=by
 go_enter Tryz.func65,Tryz.ntmps65
 refine wp_seq ?_
 refine Ld p T M s _ w _ ⟨rfl,rfl⟩ rfl h ?_
 intro a1 w1 g hs1 k1 o2 h1 hG1 hf1
 refine KJ p g (lF s T M) _ a1 w1 _ hs1 ((k1 0 (by decide)).trans rfl) o2 h1.bk hG1 (wQ _ _ _) (wQ _ _ _) (Ee _ _ _) ?_
 intro a2 w2 hs2 k2 hB2 hf2
 refine bodyPost_end (results_none rfl _ _ _) hs2.defers ⟨rfl,?_⟩
 have hn:=h1.nd
 have hne:∀(X:List Nat),p∉X→∀b∈X,¬aJ p b:=fun X hX b hb e=>hX (by have e':b=p:=e;exact e'▸hb)
 refine⟨{M with ca:=none,cac:=0,im:=none,imc:=0},fun b hb=> .inl ?_,⟨hB2,aU h1.rx hf2 (hne _ hn.pr),aU h1.tx hf2 (hne _ hn.pt),⟨rfl,.inl ⟨rfl,rfl⟩⟩,⟨rfl,.inl ⟨rfl,rfl⟩⟩,⟨hn.pr,hn.pt,by simp[bH],by simp[bH],hn.rt,by simp[bH],by simp[bH],by simp[bH],by simp[bH],by simp[bH]⟩,sQ h1.ok,h1.rxl,h1.txl,h1.all.keep hf2 (fun e=>h1.ga p (gZ p M) (by have e':1=p:=e;exact e'.symm)),fun b hb=>h1.ga b ?_,by simp[St.drop],by simp[St.drop]⟩,(hf1.of_no _).trans (hf2.mono fun b _ hb=>by obtain rfl:b=p:=hb;exact gZ _ _)⟩
 all_goals
  simp only[bX,aK,bH,List.mem_cons,List.mem_append,List.not_mem_nil,or_false]at hb⊢
  rcases hb with y|y|y
  ·simp[y]
  ·simp[y]
  ·simp[y]
theorem xL (p T:Nat) (M:bQ) (s:St) (w:World) (h:aA w p T M s):Calls Tryz.prog 45 #[.pointer (some ⟨p,0,none⟩)] w fun e w'=>e= .returned (.tuple #[])∧bE p T M w s.fail w':=by
 have hcall:=BX p T M s w h
 have Hcall:=Lib.hid hcall
 clear hcall
 go_enter Tryz.func45,Tryz.ntmps45
 go_wp2_with fail
 refine Hcall.out.mono ?_
 rintro e w1 ⟨rfl,M1,ho,hB,hF⟩
 have c18:=hB.g18
 have c34:=hB.g34
 have hfz:=hB.fr
 rw[show s.drop.boots=s.boots from rfl]at c18
 rw[show s.drop.phase=0 from rfl]at c34
 have hw:=iQ (s.boots+1)
 by_cases h3:wrap64 (s.boots+1)=3
 ·have hu:s.fail={s.drop with boots:=wrap64 (s.boots+1),phase:=4}:=by unfold St.fail;rw[if_pos h3]
  rw[h3]at hw hu
  have Hu:=Lib.hid hu
  clear hu h3
  go_wp2_with fail
  refine bodyPost_end (results_none rfl _ _ _) rfl ⟨rfl,?_⟩
  rw[Hu.out]
  exact bE.comp ho hF (bE.of ((hB.set1 18 (.int .i64 3) {s.drop with boots:=3} rfl rfl rfl rfl rfl rfl {hB.ok with}).set1 34 (.int .i64 4) {s.drop with boots:=3,phase:=4} rfl rfl rfl rfl rfl rfl {hB.ok with}) ((gO p M1 w1 18 _).trans (gO p M1 _ 34 _)))
 ·have hu:s.fail={s.drop with boots:=wrap64 (s.boots+1)}:=by unfold St.fail;rw[if_neg h3]
  have h3b:(wrap64 (s.boots+1)==3)=false:=by rw[beq_eq_false_iff_ne];exact h3
  have Hu:=Lib.hid hu
  clear hu h3
  go_wp2_with fail
  refine bodyPost_end (results_none rfl _ _ _) rfl ⟨rfl,?_⟩
  rw[Hu.out]
  exact bE.comp ho hF (bE.of (hB.set1 18 _ {s.drop with boots:=wrap64 (s.boots+1)} rfl rfl rfl rfl rfl rfl {hB.ok with}) (gO p M1 w1 18 _))
end Go.Proofs.YtcllkmllflheiaaGreatDoor
namespace Go.Proofs.YtcllkmllflheiaaGreatDoor
open Go.RowKit Go.Proofs
attribute [local simp] lF ibq ibn eqN ltN leN eqL ltL gtL leL geL
theorem C6 (p T:Nat) (M:bQ) (s:St) (w:World) (h:aA w p T M s) (hc:s.cache=[]):Calls Tryz.prog 43 #[.pointer (some ⟨p,0,none⟩)] w fun e w'=>e= .returned (.tuple #[])∧bE p T M w s w':=by
 have hs0:({s with cache:=[]}:St)=s:=by
  rcases s with⟨c,rx,tx,now,draw,boots,lost,id,cache,lease,xid,addr,mask,router,server,source,t1,t2,untl,lagain,lsends,phase,port,peer,block,wind,next,came,tagain,tsends,goal,last,image⟩
  dsimp only at hc;subst hc;rfl
 have hl0:s.cache.length=0:=by rw[hc];rfl
 have hq:=Lib.hid (h.caTurn (q:=[]) (A:=none) (c:=0) (Fr.refl _ _) (World.ownsRow_nil _ _ _ _) (fun b hb=>by cases hb) (by rw[hs0];exact h.ok) (by simp) (by simp))
 have Hs:=Lib.hid hs0
 clear hs0 hc
 refine en Tryz.func43 Tryz.ntmps43 ?_
 refine W ?_
 refine cL (fun _=>0) (fun(_:Unit)=>[(13,.int .i64 0),(14,.int .i64 0),(0,.pointer (some ⟨p,0,none⟩)),(2,.slice none 0 0),(3,.slice none 0 0)]) (fun _ w'=>w=w') () (mt (p:=True) trivial).1 rfl ?_
 rintro _ u _ rfl
 refine W ?_
 refine sS (r:= .ok .skip (w.setCell ⟨p,21,none⟩ (.slice none 0 0))) (hv:= ?_) (hr:=rfl) (h:= ?_)
 ·have hfz:=h.fr
  have hce:=h.bk.cells
  clear h hq
  go_simp
 rw[show w.setCell ⟨p,21,none⟩ (.slice none 0 0)=w.setCell ⟨p,21,none⟩ (.slice none ([]:List aS).length 0)from rfl]
 have hN:=hq.out
 rw[Hs.out]at hN
 generalize w.setCell ⟨p,21,none⟩ (.slice none ([]:List aS).length 0)=w1 at*
 clear h hq
 refine W ?_
 refine cL (fun _=>0) (fun(_:Unit)=>[(3,.slice none 0 0)]) (fun _ w'=>w1=w') () (mt (p:=True) trivial).1 rfl ?_
 rintro _ u _ rfl
 refine W ?_
 exact⟨rfl,hN⟩
theorem Eo (p T:Nat) (M:bQ) (s:St) (d:Nat) (w:World) (h:aA w p T M s) (hn:s.now<4611686018427387904) (hd:d<4294967296)
 (cN:∀(M:bQ) (w:World),aA w p T M ({s with now:=wrap64 (s.now+1),draw:=d}:St)→Calls Tryz.prog 43 #[.pointer (some ⟨p,0,none⟩)] w fun e w'=>e= .returned (.tuple #[])∧bE p T M w ({s with now:=wrap64 (s.now+1),draw:=d}:St).neighbours w')
 (cT:∀(M:bQ) (w:World),aA w p T M ({s with now:=wrap64 (s.now+1),draw:=d}:St).neighbours→Calls Tryz.prog 44 #[.pointer (some ⟨p,0,none⟩)] w fun e w'=>e= .returned (.tuple #[])∧bE p T M w ({s with now:=wrap64 (s.now+1),draw:=d}:St).neighbours.leases w')
 (cE:({s with now:=wrap64 (s.now+1),draw:=d}:St).neighbours.leases.busy=true→∀(M:bQ) (s:St) (ld:List UInt8) (w:World),aA w p T M s→ld.length≤4611686018427387000→Calls Tryz.prog 47 #[.pointer (some ⟨p,0,none⟩),.string (bs ld)] w fun e w'=>e= .returned (.tuple #[])∧bE p T M w (s.udp s.source s.port s.goal ld) w'):
 Calls Tryz.prog 20 #[.pointer (some ⟨p,0,none⟩),.int .u32 (d:Int)] w fun e w'=>e= .returned (.tuple #[])∧bE p T M w (s.tick d) w':=by
 have hn0:=h.ok.now0
 have hw1:wrap64 (s.now+1)=s.now+1:=IntWalk.wrap64_in _ ⟨by omega,by omega⟩
 have Hn:=Lib.hid (And.intro hn0 hw1)
 clear hw1 hn0
 refine en Tryz.func20 Tryz.ntmps20 ?_
 refine W ?_
 rw[iQ]
 refine sMo {s with now:=wrap64 (s.now+1)} {h.ok with now0:=by have h:=Hn.out;show 0≤wrap64 (s.now+1);rw[h.2];omega,now1:=by have h:=Hn.out;show wrap64 (s.now+1)≤4611686018427387904;rw[h.2];omega} h ?_
 intro w1 h1 f1
 refine W ?_
 refine sMo {s with now:=wrap64 (s.now+1),draw:=d} {h1.ok with draw:=hd} h1 ?_
 intro w2 h2 f2
 have f:=f1.trans f2
 obtain⟨r,hr⟩:∃r,r=s.tick d:=⟨_,rfl⟩
 rw[←hr]
 replace hr:r=if St.over {s with now:=wrap64 (s.now+1),draw:=d}then {s with now:=wrap64 (s.now+1),draw:=d}else({s with now:=wrap64 (s.now+1),draw:=d}:St).neighbours.leases.again:=hr
 generalize({s with now:=wrap64 (s.now+1),draw:=d}:St)=v at*
 have CN:=Lib.hid cN
 have CT:=Lib.hid cT
 have CE:=Lib.hid cE
 clear cN cT cE h1 h f1 f2 Hn hn hd
 refine W ?_
 refine sCe ((Co p T M v w2 h2).mono fun e w' x=>⟨x.1,x.2.symm⟩) ?_
 cases ho:v.over
 rotate_left
 ·rw[if_pos ho]at hr
  refine W ?_
  exact⟨rfl,by rw[hr];exact .of h2 f⟩
 rw[if_neg (by rw[ho];decide)]at hr
 clear ho
 refine W ?_
 refine sC (CN.out M w2 h2) ?_
 intro w3 h3
 obtain⟨M3,h3,fin⟩:=(bE.comp (fun _=> .inl) f h3).fin
 generalize v.neighbours=nb at*
 clear f h2 CN
 refine W ?_
 refine sC (CT.out M3 w3 h3) ?_
 intro w4 h4
 obtain⟨M4,h4,fin4⟩:=h4.fin
 replace CE:=CE.out
 generalize nb.leases=z at*
 replace CE:=Lib.hid CE
 obtain⟨y,fin5,f0⟩:∃y,(∀w' s',bE p T M4 y s' w'→bE p T M w s' w')∧Fr noB y w4:=⟨w4,fun w' s' x=>fin w' s' (fin4 w' s' x),Fr.refl _ _⟩
 have Fin:=Lib.hid fin5
 clear fin fin4 fin5 CT h3
 refine W ?_
 obtain⟨b,hb⟩:∃b,b=decide (z.busy=false∨z.now<z.tagain):=⟨_,rfl⟩
 unfold St.again at hr
 refine cM [0] [(43,.bool b)] (fun w'=>aA w' p T M4 z∧Fr noB y w') ?_ ?_
 ·replace hb:b=decide ((¬z.phase=1∧¬z.phase=2)∨z.now<z.tagain):=by
   rw[hb];unfold St.busy;congr 1;apply propext;simp
  clear hr
  refine dI (An h4 f0) [] (up 23 0) (h:= ?_)
  intro w7 h7 _
  by_cases a1:z.phase=1
  rotate_left
  by_cases a2:z.phase=2
  all_goals
   refine D ?_
   refine tN ?_
   exact mt h7
 rintro u w7 ⟨h7,f7⟩
 cases b
 rotate_left
 ·rw[if_pos (of_decide_eq_true hb.symm)]at hr
  clear hb
  refine W ?_
  exact⟨rfl,by rw[hr];exact Fin.out _ _ (.of h7 (f7.of_no _))⟩
 have hzb:=of_decide_eq_false hb.symm
 rw[if_neg hzb]at hr
 replace CE:=Lib.hid (CE.out (by cases e:z.busy with|true=>rfl|false=>exact absurd (.inl e) hzb))
 clear hb hzb
 by_cases a4:z.tsends=4
 ·rw[if_pos a4]at hr
  refine W ?_
  refine sC (xL p T M4 z w7 h7) ?_
  intro w8 h8
  refine W ?_
  exact⟨rfl,by rw[hr];exact Fin.out _ _ (.pre f7 h8)⟩
 rw[if_neg a4]at hr
 have hts:=h7.ok.tsends
 have Hi:=Lib.hid (show wrap64 ((z.tsends:Int)+1)=((z.tsends+1:Nat):Int) by rw[IntWalk.wrap64_in _ ⟨by omega,by omega⟩];omega)
 have Hts:=Lib.hid (And.intro hts a4)
 clear hts
 refine W ?_
 refine dI (An h7 f7) [14] (up 15 0) (h:= ?_)
 intro w8 h8 _
 refine D ?_
 refine dQe ((xN p T M4 z z.tsends Hts.out.1 w8 h8.1).mono fun e w' x=>⟨x.1,x.2.symm⟩) h8 ?_
 refine D ?_
 rw[iQ]
 refine dMo {z with tagain:=wrap64 (z.now+z.wait z.tsends)} {h8.1.ok with} h8.1 ?_
 intro w10 h10 f10
 replace f10:=(h8.2.of_no (bX p M4)).trans f10
 clear h8 h7 f7
 refine D ?_
 refine W ?_
 rw[iQ,Hi.out]
 refine sMo {z with tagain:=wrap64 (z.now+z.wait z.tsends),tsends:=z.tsends+1} {h10.ok with tsends:=by have:=Hts.out;show z.tsends+1≤4;omega} h10 ?_
 intro w11 h11 f11
 have hla:=h11.ok.last
 replace f11:=f10.trans f11
 clear h10 f10
 refine W ?_
 refine sC (CE.out M4 _ z.last w11 h11 (Nat.le_trans hla (by decide))) ?_
 intro w12 h12
 refine W ?_
 exact⟨rfl,by rw[hr];exact Fin.out _ _ (.comp (fun _=> .inl) f11 h12)⟩
end Go.Proofs.YtcllkmllflheiaaGreatDoor
set_option maxRecDepth 20000
namespace Go.Proofs.YtcllkmllflheiaaGreatDoor
open Go.RowKit Go.Proofs
attribute [local go_sem] aG aD aE aF
theorem qH {A:Option Addr} {n c g:Nat} (h:(Value.slice A n c).ownBlock=some g):g∈bH A:=by
 cases A with
 |none=>simp[Value.ownBlock]at h
 |some a=>simp[Value.ownBlock]at h;simp[bH,h]
theorem zN {A:Option Addr} {n c b:Nat} (h:b∈bH A):(Value.slice A n c).ownBlock=some b:=by
 cases A with
 |none=>cases h
 |some a=>simp[bH]at h;simp[Value.ownBlock,h]
theorem zI (l:List (List UInt8)) (f:List UInt8):wM (l++[f])=wM l++[.string (bs f)]:=by simp[wM]
def msF (u:Nat→Value):Act:=⟨#[u 0,u 1,u 2,u 3,u 4,u 5,u 6,u 7,u 8,u 9,u 10,u 11,u 12,u 13,u 14,u 15,u 16,u 17,u 18,u 19,u 20,u 21,u 22,u 23,u 24,u 25,u 26,u 27,u 28,u 29,u 30,u 31,u 32,u 33,u 34,u 35,u 36,u 37,u 38,u 39,u 40,u 41,u 42,u 43,u 44,u 45,u 46,u 47,u 48,u 49,u 50],[]⟩
set_option maxRecDepth 100000 in
theorem HY (u:Nat→Value):msF u=frN 51 u:=rfl
theorem vJ {a:Act} (h:Sz 51 a):a=msF (sl a):=h.eq.trans (HY _).symm
theorem J6 (m0 m1 m2 m3 m4 m5:UInt8) (a:Act) (w:World) (K:KT) (hs:Sz 51 a)
 (h1:sl a 1= .agg #[.int .u8 (m0.toNat:Int),.int .u8 (m1.toNat:Int),.int .u8 (m2.toNat:Int),.int .u8 (m3.toNat:Int),.int .u8 (m4.toNat:Int),.int .u8 (m5.toNat:Int)])
 (hK:∀a' w',Sz 51 a'→Kp [0,2,3,8] a a'→sl a' 5= .pointer (some ⟨w.heap.size,0,none⟩)→Fr noB w w'→Bk w' w.heap.size 26 #[.int .u8 (m0.toNat:Int),.int .u8 (m1.toNat:Int),.int .u8 (m2.toNat:Int),.int .u8 (m3.toNat:Int),.int .u8 (m4.toNat:Int),.int .u8 (m5.toNat:Int)]→K .normal a' w'):
 (aB Tryz.f92 0).wp Tryz.prog K a w:=by
 refine rgE hK (vJ hs) fun HK=> ?_;clear hK hs
 simp only[msF,h1]
 go_wp2_with fail
 exact HK.out _ _ ⟨rfl,rfl⟩ kZ (rfl) ((Fr.refl _ _).alloc _) (Bk.new _ _ _)
theorem JZ (p T:Nat) (M:bQ) (s:St) (g kind:Nat) (ld:List UInt8) (m0 m1 m2 m3 m4 m5:UInt8) (a:Act) (w:World) (K:KT) (hs:Sz 51 a)
 (h0:sl a 0= .pointer (some ⟨p,0,none⟩)) (h2:sl a 2= .int .u16 (kind:Int)) (h3:sl a 3= .string (bs ld)) (h5:sl a 5= .pointer (some ⟨g,0,none⟩)) (h:aA w p T M s) (hG:Bk w g 26 #[.int .u8 (m0.toNat:Int),.int .u8 (m1.toNat:Int),.int .u8 (m2.toNat:Int),.int .u8 (m3.toNat:Int),.int .u8 (m4.toNat:Int),.int .u8 (m5.toNat:Int)]) (hkd:kind<65536) (hld:ld.length≤9223372036854775807)
 (hK:∀a' w',Sz 51 a'→Kp [0,2,3,5] a a'→sl a' 8= .string (bs (eG (m0,m1,m2,m3,m4,m5) s.c.card kind ld).1)→aA w' p T M s→Fr noB w w'→K .normal a' w'):
 (aB Tryz.f92 1).wp Tryz.prog K a w:=by
 refine rgE hK (vJ hs) fun HK=> ?_;clear hK hs
 simp only[msF,h0,h2,h3,h5]
 refine wpr (fun w'=>aA w' p T M s∧Bk w' g 26 #[.int .u8 (m0.toNat:Int),.int .u8 (m1.toNat:Int),.int .u8 (m2.toNat:Int),.int .u8 (m3.toNat:Int),.int .u8 (m4.toNat:Int),.int .u8 (m5.toNat:Int)]∧Fr noB w w') [] (.p 1 (.p 2 (.p 3 (.p 4 (.p 6 (.p 7 (.q 0 (.q 5 (.p 8 (.e 9 (.p 10 (.p 11 (.p 12 (.p 13 (.p 14 .nil))))))))))))))) (⟨h.drew,hG.drew,(Fr.refl _ _).drew⟩) ?_
 intro ops Q' hO hQ' wr1 hR1
 iterate 6 refine pP hO ?_
 iterate 2 (refine pQ hO rfl rfl (fun w' hS=>by obtain⟨hB,hG,hF⟩:=hS;have hGc:=hG.cells;have c1:=hB.g1;have c2:=hB.g2;have c3:=hB.g3;have c4:=hB.g4;have c5:=hB.g5;have c6:=hB.g6;exact qd) ?_)
 refine pP hO ?_
 refine fJ hO rfl rfl rfl (fun K hK=> ?_)
 go_simp
 refine(rA kind ld m0 m1 m2 m3 m4 m5 s.c.card.1 s.c.card.2.1 s.c.card.2.2.1 s.c.card.2.2.2.1 s.c.card.2.2.2.2.1 s.c.card.2.2.2.2.2 _ hkd hld).mono ?_
 rintro e w2 ⟨rfl,f2⟩
 refine hK _ _ (⟨hR1.1.none f2,hR1.2.1.keep f2 (fun x=>x),hR1.2.2.none f2⟩) (fun hR_9=> ?_)
 clear hK K
 iterate 5 refine pP hO ?_
 refine bV (hQ' _ _ ?_)
 exact HK.out _ _ ⟨rfl,rfl⟩ kZ (rfl) hR_9.1 hR_9.2.2
theorem Lj (p T:Nat) (M:bQ) (s:St) (b:Bool) (a:Act) (w:World) (K:KT) (hs:Sz 51 a)
 (h0:sl a 0= .pointer (some ⟨p,0,none⟩)) (h:aA w p T M s) (hb:((s.tx.length:Int)==(s.c.tx:Int))=b)
 (hK:∀a' w',Sz 51 a'→Kp [0,2,3,5,8] a a'→sl a' 33= .bool b→aA w' p T M s→Fr noB w w'→K .normal a' w'):
 (aB Tryz.f92 2).wp Tryz.prog K a w:=by
 refine rgE hK (vJ hs) fun HK=> ?_;clear hK hs
 simp only[msF,h0]
 refine wpr (fun w'=>aA w' p T M s∧Fr noB w w') [] (.p 0 (.p 1 (.p 2 (.p 5 (.p 6 (.p 7 (.p 8 (.q 3 (.p 4 (.q 9 (.p 10 .nil))))))))))) (⟨h.drew,(Fr.refl _ _).drew⟩) ?_
 intro ops Q' hO hQ' wr1 hR1
 iterate 7 refine pP hO ?_
 refine pQ hO rfl rfl (fun w' hS=>by obtain⟨hB,hF⟩:=hS;have c13:=hB.g13;have c15:=hB.g15;exact qd) ?_
 refine pP hO ?_
 refine pQ hO rfl rfl (fun w' hS=>by obtain⟨hB,hF⟩:=hS;have c13:=hB.g13;have c15:=hB.g15;exact qd) ?_
 refine pP hO ?_
 refine bV (hQ' _ _ ?_)
 exact HK.out _ _ ⟨rfl,rfl⟩ kZ (rfl) hR1.1 hR1.2
theorem Km (p T:Nat) (M:bQ) (s:St) (a:Act) (w:World) (K:KT) (hs:Sz 51 a)
 (h0:sl a 0= .pointer (some ⟨p,0,none⟩)) (h:aA w p T M s)
 (hK:∀a' w',Sz 51 a'→Kp [0,2,3,5,8] a a'→bE p T M w {s with lost:=wrap64 (s.lost+1)} w'→K .normal a' w'):
 (aB Tryz.f92 3).wp Tryz.prog K a w:=by
 refine rgE hK (vJ hs) fun HK=> ?_;clear hK hs
 simp only[msF,h0]
 have qw:=iQ (s.lost+1)
 have c19:=h.g19
 have hfz:=h.fr
 go_wp2_with fail
 exact HK.out _ _ ⟨rfl,rfl⟩ kZ (bE.of (h.set1 19 _ {s with lost:=wrap64 (s.lost+1)} rfl rfl rfl rfl rfl rfl {h.ok with}) (gO p M w 19 _))
theorem Ks (p T:Nat) (M:bQ) (s:St) (f:List UInt8) (a:Act) (w:World) (K:KT) (hs:Sz 51 a)
 (h0:sl a 0= .pointer (some ⟨p,0,none⟩)) (h8:sl a 8= .string (bs f)) (h:aA w p T M s) (hlt:s.tx.length<s.c.tx)
 (hK:∀a' w',Sz 51 a'→Kp [0,2,3,5,8] a a'→bE p T M w {s with tx:=s.tx++[f]} w'→K .normal a' w'):
 (aB Tryz.f92 4).wp Tryz.prog K a w:=by
 refine rgE hK (vJ hs) fun HK=> ?_;clear hK hs
 simp only[msF,h0,h8]
 obtain⟨i0,hi,hz0,hz1,hz2⟩:=info_parts mC
 have hA1:=h.none ((Fr.refl noB w).alloc (.cells #[.string (bs f)] 9))
 have c15:=h.g15
 have ow:=hA1.tx
 have hl1:=h.txl
 have hl2:=h.ok.tx1
 go_wp2_with (at_builtin;refine wpList_append_own_at _ rfl _ _ 49 rfl 0 9 i0 (.string ⟨#[]⟩) 1 16 Tryz.underlying49 hi hz0 hz1 hz2 rfl (by decide) _ _ _ rfl ow ⟨w.heap.size,0,none⟩ 1 1 [.string (bs f)] rfl rfl (cell_one_new _ _ _) (by simp[Value.oneCell']) (by unfold maxLen;omega) (by omega) (Nat.zero_le _) ?_;intro v' w3 hown' hg3 hnil3 hbk3;obtain⟨g',c',hv',hown2⟩:=C3 hown';subst hv';have hf3:Fr (fun b=>b∈bH M.tx) (w.alloc (.cells #[.string (bs f)] 9)) w3:=(Fr.refl _ _).grown hg3 (fun g h _=>qH h);have hB3:=hA1.bk.keep hf3 (fun hx=>hA1.nd.pt hx);have cc:=hB3.cell 15;have hfz:=hB3.frees)
 have hb:∀b∈bH (some ⟨g',0,none⟩),b∈bH M.tx∨(w.alloc (.cells #[.string (bs f)] 9)).heap.size≤b:=fun b hb=>by
  have hb1:=zN (n:=s.tx.length+1) (c:=c') hb
  rcases hbk3 with e|e
  ·exact .inl (qH (e.symm.trans hb1))
  ·exact .inr (by rw[e]at hb1;injection hb1 with hb1;omega)
 have hl:(s.tx++[f]).length=s.tx.length+1:=by simp
 have hq:=hA1.txTurn (q:=s.tx++[f]) (A:=some ⟨g',0,none⟩) (c:=c') hf3 (by rw[hl,zI];exact hown2) hb (by omega)
 rw[hl]at hq
 exact HK.out _ _ ⟨rfl,rfl⟩ kZ (bE.pre ((Fr.refl noB w).alloc _) hq)
theorem CS (p T:Nat) (M:bQ) (s:St) (m0 m1 m2 m3 m4 m5:UInt8) (kind:Nat) (ld:List UInt8) (w:World) (h:aA w p T M s) (hkd:kind<65536) (hld:ld.length≤9223372036854775807):
 Calls Tryz.prog 92 #[.pointer (some ⟨p,0,none⟩),.agg #[.int .u8 (m0.toNat:Int),.int .u8 (m1.toNat:Int),.int .u8 (m2.toNat:Int),.int .u8 (m3.toNat:Int),.int .u8 (m4.toNat:Int),.int .u8 (m5.toNat:Int)],.int .u16 (kind:Int),.string (bs ld)] w fun e w'=>e= .returned (.tuple #[])∧bE p T M w (s.send (m0,m1,m2,m3,m4,m5) kind ld) w':=by
 go_enter Tryz.func92,Tryz.ntmps92
 refine wp_seq ?_
 refine J6 m0 m1 m2 m3 m4 m5 _ w _ ⟨rfl,rfl⟩ rfl ?_
 intro a1 w1 hs1 k1 o5 hf1 hG1
 refine wp_seq ?_
 refine JZ p T M s _ kind ld m0 m1 m2 m3 m4 m5 a1 w1 _ hs1 ((k1 0 (by decide)).trans rfl) ((k1 2 (by decide)).trans rfl) ((k1 3 (by decide)).trans rfl) o5 (h.none hf1) hG1 hkd hld ?_
 intro a2 w2 hs2 k2 o8 h2 hf2
 have e0:sl a2 0= .pointer (some ⟨p,0,none⟩):=k2.t ((k1 0 (by decide)).trans rfl)
 refine wp_seq ?_
 refine Lj p T M s (decide (s.tx.length=s.c.tx)) a2 w2 _ hs2 e0 h2 (by rw[Bool.eq_iff_iff];simp only[beq_iff_eq,decide_eq_true_eq];omega) ?_
 intro a3 w3 hs3 k3 o33 h3 hf3
 have hF:=(hf1.none hf2).none hf3
 unfold St.send
 refine fK o33 (fun hb=> ?_) (fun hb=> ?_)
 ·rw[if_pos (of_decide_eq_true hb)]
  refine Km p T M s a3 w3 _ hs3 (k3.t e0) h3 ?_
  intro a4 w4 hs4 k4 hN
  exact bodyPost_end (results_none rfl _ _ _) hs4.defers ⟨rfl,bE.pre hF hN⟩
 ·rw[if_neg (of_decide_eq_false hb)]
  refine Ks p T M s _ a3 w3 _ hs3 (k3.t e0) (k3.t o8) h3 (by have:=h3.txl;have:=of_decide_eq_false hb;omega) ?_
  intro a4 w4 hs4 k4 hN
  exact bodyPost_end (results_none rfl _ _ _) hs4.defers ⟨rfl,bE.pre hF hN⟩
theorem GQ (p T:Nat) (M:bQ) (s:St) (fm ip:Nat) (w:World) (h:aA w p T M s) (hfm:fm<4294967296) (hip:ip<4294967296):
 Calls Tryz.prog 61 #[.pointer (some ⟨p,0,none⟩),.int .u32 (fm:Int),.int .u32 (ip:Int)] w fun e w'=>e= .returned (.tuple #[])∧bE p T M w (s.ask fm ip) w':=by
 have c1:=h.g1
 have c2:=h.g2
 have c3:=h.g3
 have c4:=h.g4
 have c5:=h.g5
 have c6:=h.g6
 have o0:=h.all.2 0 _ rfl
 have o1:=h.all.2 1 _ rfl
 have o2:=h.all.2 2 _ rfl
 have o3:=h.all.2 3 _ rfl
 have o4:=h.all.2 4 _ rfl
 have o5:=h.all.2 5 _ rfl
 go_enter Tryz.func61,Tryz.ntmps61
 go_wp2_with fail
 refine(xH 1 fm ip s.c.card.1 s.c.card.2.1 s.c.card.2.2.1 s.c.card.2.2.2.1 s.c.card.2.2.2.2.1 s.c.card.2.2.2.2.2 0 0 0 0 0 0 _ (by decide) hfm hip).mono ?_
 rintro e w1 ⟨rfl,f1⟩
 have h1:=h.none f1
 clear o0 o1 o2 o3 o4 o5
 have o0:=h1.all.2 0 _ rfl
 have o1:=h1.all.2 1 _ rfl
 have o2:=h1.all.2 2 _ rfl
 have o3:=h1.all.2 3 _ rfl
 have o4:=h1.all.2 4 _ rfl
 have o5:=h1.all.2 5 _ rfl
 go_wp2_with fail
 refine(CS p T M s 255 255 255 255 255 255 2054 _ _ h1 (by decide) (wA _ _ _ _ _)).mono ?_
 rintro e w2 ⟨rfl,hN⟩
 go_wp2_with fail
 exact bodyPost_end (results_none rfl _ _ _) rfl ⟨rfl,bE.pre f1 hN⟩
def mpF (u:Nat→Value):Act:=⟨#[u 0,u 1,u 2,u 3,u 4,u 5,u 6,u 7,u 8,u 9,u 10,u 11,u 12,u 13,u 14,u 15,u 16,u 17,u 18,u 19,u 20,u 21,u 22,u 23,u 24,u 25,u 26,u 27,u 28,u 29,u 30,u 31,u 32,u 33,u 34,u 35,u 36,u 37,u 38,u 39,u 40,u 41,u 42,u 43,u 44,u 45,u 46,u 47,u 48,u 49],[]⟩
set_option maxRecDepth 100000 in
theorem GK (u:Nat→Value):mpF u=frN 50 u:=rfl
theorem uS {a:Act} (h:Sz 50 a):a=mpF (sl a):=h.eq.trans (GK _).symm
theorem KG (a:Act) (w:World) (K:KT) (hs:Sz 50 a)
 (hK:∀a' w',Sz 50 a'→Kp [0,1,2,3,4,11,13] a a'→w'=w→K .normal a' w'):
 (aB Tryz.f97 0).wp Tryz.prog K a w:=by
 refine rgE hK (uS hs) fun HK=> ?_;clear hK hs
 simp only[mpF]
 go_wp2_with fail
 exact HK.out _ _ ⟨rfl,rfl⟩ kZ rfl
theorem JX (p T:Nat) (M:bQ) (s:St) (dst fm port:Nat) (ld:List UInt8) (a:Act) (w:World) (K:KT) (hs:Sz 50 a)
 (h0:sl a 0= .pointer (some ⟨p,0,none⟩)) (h1:sl a 1= .int .u32 (dst:Int)) (h2:sl a 2= .int .i64 (fm:Int)) (h3:sl a 3= .int .i64 (port:Int)) (h4:sl a 4= .string (bs ld)) (h:aA w p T M s) (hdst:dst<4294967296) (hfm:fm<65536) (hport:port<65536) (hld:ld.length≤4611686018427387000)
 (hK:∀a' w',Sz 50 a'→Kp [0,1,2,3,4,10,13] a a'→sl a' 11= .string (bs (mI fm port s.address dst ld).1)→Fr noB w w'→K .normal a' w'):
 (aB Tryz.f97 1).wp Tryz.prog K a w:=by
 refine rgE hK (uS hs) fun HK=> ?_;clear hK hs
 simp only[mpF,h0,h1,h2,h3,h4]
 have hadl:s.address<4294967296:=by unfold St.address;split;exact h.ok.addr;omega
 have qa:IntKind.u16.wrap (fm:Int)=(fm:Int):=IntWalk.u16_in _ ⟨by omega,by omega⟩
 have qb:IntKind.u16.wrap (port:Int)=(port:Int):=IntWalk.u16_in _ ⟨by omega,by omega⟩
 go_wp2_with fail
 refine(fR p T M s _ h).mono ?_
 rintro e w1 ⟨rfl,rfl⟩
 go_wp2_with fail
 refine(wZ fm port s.address dst ld _ hfm hport hadl hdst hld).mono ?_
 rintro e w2 ⟨rfl,f2⟩
 go_wp2_with fail
 exact HK.out _ _ ⟨rfl,rfl⟩ kZ (rfl) f2
theorem Kl (p T:Nat) (M:bQ) (s:St) (dst:Nat) (u1:List UInt8) (a:Act) (w:World) (K:KT) (hs:Sz 50 a)
 (h0:sl a 0= .pointer (some ⟨p,0,none⟩)) (h1:sl a 1= .int .u32 (dst:Int)) (h11:sl a 11= .string (bs u1)) (h:aA w p T M s) (hdst:dst<4294967296) (hu1:u1.length≤9223372036854775807)
 (hK:∀a' w',Sz 50 a'→Kp [0,1,2,3,4,10,11] a a'→sl a' 13= .string (bs (Be (s.id%65536) 64 17 s.address dst u1).1)→aA w' p T M s→Fr noB w w'→K .normal a' w'):
 (aB Tryz.f97 2).wp Tryz.prog K a w:=by
 refine rgE hK (uS hs) fun HK=> ?_;clear hK hs
 have hadl:s.address<4294967296:=by unfold St.address;split;exact h.ok.addr;omega
 have qi:IntKind.u16.wrap (wrap64 (s.id:Int))=((s.id%65536:Nat):Int):=by rw[IntKind.wrap_u16];unfold wrap64;omega
 simp only[mpF,h0,h1,h11]
 refine wpr (fun w'=>aA w' p T M s∧Fr noB w w') [] (.p 0 (.p 1 (.p 2 (.p 5 (.p 7 (.p 8 (.q 3 (.p 4 (.e 6 (.p 9 (.e 10 (.p 11 (.p 12 (.p 13 (.p 14 (.p 15 .nil)))))))))))))))) (⟨h.drew,(Fr.refl _ _).drew⟩) ?_
 intro ops Q' hO hQ' wr1 hR1
 iterate 6 refine pP hO ?_
 refine pQ hO rfl rfl (fun w' hS=>by obtain⟨hB,hF⟩:=hS;have c20:=hB.g20;exact qd) ?_
 refine pP hO ?_
 refine fJ hO rfl rfl rfl (fun K hK=> ?_)
 go_simp
 refine(fR p T M s _ hR1.1).mono ?_
 rintro e w2 ⟨rfl,rfl⟩
 refine hK _ _ (hR1) (fun hR_6=> ?_)
 clear hK K
 refine pP hO ?_
 refine fJ hO rfl rfl rfl (fun K hK=> ?_)
 go_simp
 refine(Bb (s.id%65536) s.address dst 64 17 u1 _ (Nat.mod_lt _ (by decide)) hadl hdst hu1).mono ?_
 rintro e w3 ⟨rfl,f3⟩
 refine hK _ _ (⟨hR_6.1.none f3,hR_6.2.none f3⟩) (fun hR_10=> ?_)
 clear hK K
 iterate 5 refine pP hO ?_
 refine bV (hQ' _ _ ?_)
 exact HK.out _ _ ⟨rfl,rfl⟩ kZ (rfl) hR_10.1 hR_10.2
theorem Kj (p T:Nat) (M:bQ) (s:St) (a:Act) (w:World) (K:KT) (hs:Sz 50 a)
 (h0:sl a 0= .pointer (some ⟨p,0,none⟩)) (h:aA w p T M s)
 (hK:∀a' w',Sz 50 a'→Kp [0,1,2,3,4,10,11,13] a a'→aA w' p T M s.took→Fr (bX p M) w w'→K .normal a' w'):
 (aB Tryz.f97 3).wp Tryz.prog K a w:=by
 refine rgE hK (uS hs) fun HK=> ?_;clear hK hs
 simp only[mpF,h0]
 have qw:IntKind.i64.wrap (wrap64 (s.id:Int)+1)=wrap64 ((s.id+1:Nat):Int):=by rw[iQ];unfold wrap64;omega
 have c20:=h.g20
 have hfz:=h.fr
 go_wp2_with fail
 exact HK.out _ _ ⟨rfl,rfl⟩ kZ (h.set1 20 (.int .i64 (wrap64 ((s.id+1:Nat):Int))) s.took rfl rfl rfl rfl rfl rfl {h.ok with}) (gO p M w 20 _)
theorem Ka (x:List UInt8) (a:Act) (w:World) (K:KT) (hs:Sz 50 a)
 (h13:sl a 13= .string (bs x))
 (hK:∀a' w',Sz 50 a'→Kp [0,1,2,3,4,11,13] a a'→sl a' 10= .string (bs x)→w'=w→K .normal a' w'):
 (aB Tryz.f97 4).wp Tryz.prog K a w:=by
 refine rgE hK (uS hs) fun HK=> ?_;clear hK hs
 simp only[mpF,h13]
 go_wp2_with fail
 exact HK.out _ _ ⟨rfl,rfl⟩ kZ (rfl) rfl
theorem Bw (p T:Nat) (M:bQ) (s:St) (dst fm port:Nat) (ld:List UInt8) (w:World) (h:aA w p T M s) (hdst:dst<4294967296) (hfm:fm<65536) (hport:port<65536) (hld:ld.length≤4611686018427387000):
 Calls Tryz.prog 97 #[.pointer (some ⟨p,0,none⟩),.int .u32 (dst:Int),.int .i64 (fm:Int),.int .i64 (port:Int),.string (bs ld)] w fun e w'=>e= .returned (.string (bs (s.packet dst fm port ld)))∧bE p T M w s.took w':=by
 go_enter Tryz.func97,Tryz.ntmps97
 refine wp_seq ?_
 refine KG _ w _ ⟨rfl,rfl⟩ ?_
 intro a0 w0 hs0 k0 hw;subst hw
 refine wp_seq ?_
 refine JX p T M s dst fm port ld a0 w0 _ hs0 ((k0 0 (by decide)).trans rfl) ((k0 1 (by decide)).trans rfl) ((k0 2 (by decide)).trans rfl) ((k0 3 (by decide)).trans rfl) ((k0 4 (by decide)).trans rfl) h hdst hfm hport hld ?_
 intro a1 w1 hs1 k1 o11 hf1
 have e0:sl a1 0= .pointer (some ⟨p,0,none⟩):=k1.t ((k0 0 (by decide)).trans rfl)
 refine wp_seq ?_
 refine Kl p T M s dst _ a1 w1 _ hs1 e0 (k1.t ((k0 1 (by decide)).trans rfl)) o11 (h.none hf1) hdst (by have:=uJ fm port s.address dst ld;omega) ?_
 intro a2 w2 hs2 k2 o13 h2 hf2
 refine wp_seq ?_
 refine Kj p T M s a2 w2 _ hs2 (k2.t e0) h2 ?_
 intro a3 w3 hs3 k3 h3 hf3
 refine wp_seq ?_
 refine Ka _ a3 w3 _ hs3 (k3.t o13) ?_
 intro a4 w4 hs4 k4 o10 hw;subst hw
 refine wp_ret ?_
 refine bodyPost_ret (results_tmp rfl _ _ _) hs4.defers ⟨?_,bE.pre (hf1.none hf2) (bE.of h3 hf3)⟩
 rw[show a4.tmps.getD 10 undef=_ from o10];rfl
end Go.Proofs.YtcllkmllflheiaaGreatDoor
