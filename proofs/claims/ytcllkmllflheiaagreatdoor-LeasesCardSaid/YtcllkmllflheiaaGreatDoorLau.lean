/- Parts of the walk; written by programs, merged. -/
import Derived.Test.YtcllkmllflheiaaGreatDoorLat
set_option linter.unusedSimpArgs false
set_option linter.unusedVariables false
set_option maxRecDepth 20000
set_option maxHeartbeats 8000000
set_option maxRecDepth 20000
namespace Go.Proofs.YtcllkmllflheiaaGreatDoor
open Go.RowKit Go.Proofs
attribute [local go_sem] aG aD aE aF
theorem eY {P:Program} {ops:Array Oper} {rest:List Oper} {o:Oper} {a:Act} {w:World} {Q:Exit→Act→World→Prop} (hgd:o.guard=none) (ty:TypeId) (x:Operand) (ho:o.op= .load ty x)
 (ad:Addr) (hx:a.eval x= .pointer (some ad)) (cs:Array Value) (d:TypeDesc) (hg:∀(j:Nat) (u:Value),cs[j]? =some u→w.cell? (ad.add j)=some u)
 (hu:P.underlying ty=some d) (hd:(match d with| .struct _| .array _ _=>true|_=>false)=true) (hi:(P.info? ty).map (·.size)=some cs.size)
 (h:wpList P ops Q rest (a.put o.dst (.agg cs)) w):wpList P ops Q (o::rest) a w:=by
 have hrun:(loadVar ty ad).run P w= .ok (.agg cs) w:=by
  have hl:(loadCells ad cs.toList.length).run P w= .ok cs.toList.toArray w:=run_loadCells_list (P:=P) w ad cs.toList (fun j v hv=>hg j v (by simpa using hv))
  cases hq:P.info? ty with
  |none=>simp[hq]at hi
  |some i=>
   have hs:i.size=cs.size:=by simpa[hq]using hi
   have hagg:(isAgg ty).run P w= .ok true w:=by
    unfold isAgg
    rw[Sem.run_bind,run_underlying hu w]
    cases d<;>simp_all
   simp only[Array.length_toList,Array.toArray_toList]at hl
   simp[loadVar,Sem.run_bind,hagg,sizeOf,typeInfo,hq,hs,hl]
 refine wpList_plain hgd fun K hK=> ?_
 unfold Oper.wp execOp
 simp only[ho,hx,Instr.loadAt,Instr.sureAddr,Sem.run_bind,Sem.run_pure,Result.andThen_ok,hrun]
 exact hK _ _ h
structure OpD where
 kind:Int
 a:Int
 n:Int
 c:eD
 s:List UInt8
def opC (o:OpD):Array Value:= #[.int .i64 o.kind,.int .i64 o.a,.int .i64 o.n]++gI o.c++ #[.string (bs o.s)]
def AH (l:List OpD):List Value:=l.flatMap fun o=>(opC o).toList
theorem nI (o:OpD):(opC o).size=17:=rfl
theorem DQ (l:List OpD):(AH l).length=l.length*17:=by
 induction l with
 |nil=>rfl
 |cons a r ih=>rw[AH,List.flatMap_cons,List.length_append,←AH,ih,Array.length_toList,nI,List.length_cons];omega
theorem xK {α:Type} (f:α→List Value) (n:Nat) (hf:∀a,(f a).length=n):∀(l:List α) (i:Nat) (o:α) (j:Nat) (u:Value),l[i]? =some o→(f o)[j]? =some u→(l.flatMap f)[i*n+j]? =some u
 |[],_,_,_,_,h,_=>by cases h
 |x::r,i,o,j,u,h,hj=>by
  have hl:=hf x
  have hjn:j<n:=by
   rcases Nat.lt_or_ge j n with h1|h1
   ·exact h1
   ·rw[List.getElem?_eq_none (by rw[hf];exact h1)]at hj;cases hj
  rw[List.flatMap_cons]
  cases i with
  |zero=>
   cases h
   rw[List.getElem?_append_left (by omega),Nat.zero_mul,Nat.zero_add];exact hj
  |succ i=>
   have e:(i+1)*n=i*n+n:=Nat.succ_mul i n
   rw[List.getElem?_append_right (by omega),hl,show(i+1)*n+j-n=i*n+j by omega]
   exact xK f n hf r i o j u h hj
theorem Fa (l:List OpD) (i:Nat) (o:OpD) (j:Nat) (u:Value) (h:l[i]? =some o) (hj:(opC o)[j]? =some u):(AH l)[i*17+j]? =some u:=
 xK (fun o=>(opC o).toList) 17 (fun a=>(Array.length_toList).trans (nI a)) l i o j u h (Array.getElem?_toList.trans hj)
def zOp:Array Value:= #[.int .i64 0,.int .i64 0,.int .i64 0,.int .u8 0,.int .u8 0,.int .u8 0,.int .u8 0,.int .u8 0,.int .u8 0,.string ⟨#[]⟩,.int .i64 0,.string ⟨#[]⟩,.int .i64 0,.int .i64 0,.int .i64 0,.int .i64 0,.string ⟨#[]⟩]
theorem Gd (o:OpD):(opC o).all (·.oneCell')=true:=by simp[opC,gI,Value.oneCell']
theorem GF:(Tryz.prog.info? 30).map (·.size)=some 17:=by kernel_rfl
theorem uY {w:World} {S:Nat→Prop} {A:Option Addr} {l:List OpD} {i:Nat} {o:OpD} (h:SlR w S 17 A l.length (AH l)) (hi:l[i]? =some o):∃ad,A=some ad∧∀(j:Nat) (u:Value),(opC o)[j]? =some u→w.cell? ((ad.add (i*17)).add j)=some u:=by
 have hil:i<l.length:=by
  rcases Nat.lt_or_ge i l.length with h1|h1
  ·exact h1
  ·rw[List.getElem?_eq_none h1]at hi;cases hi
 obtain⟨ad,e,_,_,hc⟩:=h.2 (by omega)
 refine⟨ad,e,fun j u hu=> ?_⟩
 have h1:=hc _ u (Fa l i o j u hi hu)
 rw[show(ad.add (i*17)).add j=ad.add (i*17+j) by rcases ad with⟨b,f,p⟩;unfold Addr.add;split<;>split<;>split<;>simp_all<;>omega]
 exact h1
theorem vX (c:Int) (n:Nat) (w:World) (h:0<n) (hn:n≤4611686018427387904) (h0: -9223372036854775808≤c) (h1:c≤9223372036854775807):
 Calls Tryz.prog 12 #[.int .i64 c,.int .i64 n] w fun e w'=>e= .returned (.int .i64 (nZ c n:Nat))∧w=w':=by
 have hp:=Lib.hid (C8 c n h)
 have hz:((n:Int)==0)=false:=by simp;omega
 by_cases hc:c<0
 ·have e1:IntKind.i64.wrap (c+1)=c+1:=IntWalk.i64_in _ (by omega)
  have e2:IntKind.i64.wrap (-(c+1))= -(c+1):=IntWalk.i64_in _ (by omega)
  have hp2:Hid (((nZ c n:Nat):Int)=(-(c+1))%(n:Int)):=by unfold Hid;rw[hp.out,if_pos hc]
  obtain⟨d,hd⟩:∃d:Int,d= -(c+1):=⟨_,rfl⟩
  have d0:0≤d:=by omega
  have d1:d≤9223372036854775807:=by omega
  have Hd:=Lib.hid hd
  go_enter Tryz.func12,Tryz.ntmps12
  have hd':=hd.symm
  clear hd
  go_wp2_with fail
  go_ret
  refine⟨?_,rfl⟩
  rw[hp2.out,←Hd.out]
  try rfl
 ·have hp2:Hid (((nZ c n:Nat):Int)=c%(n:Int)):=by unfold Hid;rw[hp.out,if_neg hc]
  have c0:0≤c:=by omega
  clear hc
  go_enter Tryz.func12,Tryz.ntmps12
  go_wp2_with fail
  go_ret
  refine⟨?_,rfl⟩
  rw[hp2.out]
  try rfl
def jF (kind only:Int):Bool:=if only=1 then decide (kind=1∨kind=2∨kind=3∨kind=5)else if only=2 then decide (kind=1∨kind=4∨kind=3∨kind=6)else true
theorem FL (kind:Int) (w:World) (b:Bool) (hb:jF kind 1=b):Calls Tryz.prog 7 #[.int .i64 kind,.int .i64 1] w fun e w'=>e= .returned (.bool b)∧w'=w:=by
 subst hb
 unfold jF
 rw[if_pos rfl]
 by_cases q1:kind=1
 ·subst q1
  go_enter Tryz.func7,Tryz.ntmps7
  go_wp2_with fail
  exact bodyPost_ret (results_tmp rfl _ _ _) rfl ⟨rfl,rfl⟩
 have b1:(kind==1)=false:=by rw[beq_eq_false_iff_ne];exact q1
 by_cases q2:kind=2
 ·subst q2
  go_enter Tryz.func7,Tryz.ntmps7
  go_wp2_with fail
  exact bodyPost_ret (results_tmp rfl _ _ _) rfl ⟨rfl,rfl⟩
 have b2:(kind==2)=false:=by rw[beq_eq_false_iff_ne];exact q2
 by_cases q3:kind=3
 ·subst q3
  go_enter Tryz.func7,Tryz.ntmps7
  go_wp2_with fail
  exact bodyPost_ret (results_tmp rfl _ _ _) rfl ⟨rfl,rfl⟩
 have b3:(kind==3)=false:=by rw[beq_eq_false_iff_ne];exact q3
 by_cases q5:kind=5
 ·subst q5
  go_enter Tryz.func7,Tryz.ntmps7
  go_wp2_with fail
  exact bodyPost_ret (results_tmp rfl _ _ _) rfl ⟨rfl,rfl⟩
 have b5:(kind==5)=false:=by rw[beq_eq_false_iff_ne];exact q5
 have hd:decide (kind=1∨kind=2∨kind=3∨kind=5)=false:=decide_eq_false (by omega)
 rw[hd]
 clear hd q1 q2 q3 q5
 go_enter Tryz.func7,Tryz.ntmps7
 go_wp2_with fail
 exact bodyPost_ret (results_tmp rfl _ _ _) rfl ⟨rfl,rfl⟩
theorem FV (kind:Int) (w:World) (b:Bool) (hb:jF kind 2=b):Calls Tryz.prog 7 #[.int .i64 kind,.int .i64 2] w fun e w'=>e= .returned (.bool b)∧w'=w:=by
 subst hb
 unfold jF
 rw[if_neg (by decide),if_pos rfl]
 by_cases q1:kind=1
 ·subst q1
  go_enter Tryz.func7,Tryz.ntmps7
  go_wp2_with fail
  exact bodyPost_ret (results_tmp rfl _ _ _) rfl ⟨rfl,rfl⟩
 have b1:(kind==1)=false:=by rw[beq_eq_false_iff_ne];exact q1
 by_cases q4:kind=4
 ·subst q4
  go_enter Tryz.func7,Tryz.ntmps7
  go_wp2_with fail
  exact bodyPost_ret (results_tmp rfl _ _ _) rfl ⟨rfl,rfl⟩
 have b4:(kind==4)=false:=by rw[beq_eq_false_iff_ne];exact q4
 by_cases q3:kind=3
 ·subst q3
  go_enter Tryz.func7,Tryz.ntmps7
  go_wp2_with fail
  exact bodyPost_ret (results_tmp rfl _ _ _) rfl ⟨rfl,rfl⟩
 have b3:(kind==3)=false:=by rw[beq_eq_false_iff_ne];exact q3
 by_cases q6:kind=6
 ·subst q6
  go_enter Tryz.func7,Tryz.ntmps7
  go_wp2_with fail
  exact bodyPost_ret (results_tmp rfl _ _ _) rfl ⟨rfl,rfl⟩
 have b6:(kind==6)=false:=by rw[beq_eq_false_iff_ne];exact q6
 have hd:decide (kind=1∨kind=4∨kind=3∨kind=6)=false:=decide_eq_false (by omega)
 rw[hd]
 clear hd q1 q4 q3 q6
 go_enter Tryz.func7,Tryz.ntmps7
 go_wp2_with fail
 exact bodyPost_ret (results_tmp rfl _ _ _) rfl ⟨rfl,rfl⟩
theorem tL (kind only:Int) (w:World) (h1:(only==1)=false) (h2:(only==2)=false):Calls Tryz.prog 7 #[.int .i64 kind,.int .i64 only] w fun e w'=>e= .returned (.bool true)∧w'=w:=by
 go_enter Tryz.func7,Tryz.ntmps7
 go_wp2_with fail
 exact bodyPost_ret (results_tmp rfl _ _ _) rfl ⟨rfl,rfl⟩
theorem Dz (kind only:Int) (w:World) (ho:only=0∨only=1∨only=2∨only=3∨only=4∨only=5):Calls Tryz.prog 7 #[.int .i64 kind,.int .i64 only] w fun e w'=>e= .returned (.bool (jF kind only))∧w'=w:=by
 rcases ho with rfl|rfl|rfl|rfl|rfl|rfl
 ·exact tL kind 0 w rfl rfl
 ·exact FL kind w _ rfl
 ·exact FV kind w _ rfl
 ·exact tL kind 3 w rfl rfl
 ·exact tL kind 4 w rfl rfl
 ·exact tL kind 5 w rfl rfl
def wOp (o:OpD):Nat:=o.s.length+o.c.name.length+o.c.digest.length
def umF (u:Nat→Value):Act:=⟨#[u 0,u 1,u 2,u 3,u 4,u 5,u 6,u 7,u 8,u 9,u 10,u 11,u 12,u 13,u 14,u 15,u 16,u 17,u 18,u 19,u 20,u 21,u 22,u 23,u 24,u 25,u 26,u 27,u 28,u 29,u 30,u 31,u 32,u 33],[]⟩
set_option maxRecDepth 100000 in
theorem H6 (u:Nat→Value):umF u=frN 34 u:=rfl
theorem jY {a:Act} (h:Sz 34 a):a=umF (sl a):=h.eq.trans (H6 _).symm
theorem KY (a:Act) (w:World) (K:KT) (hs:Sz 34 a)
 (hK:∀a' w',Sz 34 a'→Kp [0,3,5,8,9,10] a a'→w'=w→K .normal a' w'):
 (aB Tryz.f4 0).wp Tryz.prog K a w:=by
 refine rgE hK (jY hs) fun HK=> ?_;clear hK hs
 simp only[umF]
 go_wp2_with fail
 exact HK.out _ _ ⟨rfl,rfl⟩ kZ rfl
theorem Kz (A:Option Addr) (n cap:Nat) (a:Act) (w:World) (K:KT) (hs:Sz 34 a)
 (h0:sl a 0= .slice A n cap)
 (hK:∀a' w',Sz 34 a'→Kp [0,5,8,9,10] a a'→sl a' 3= .int .i64 (n:Int)→w'=w→K .normal a' w'):
 (aB Tryz.f4 1).wp Tryz.prog K a w:=by
 refine rgE hK (jY hs) fun HK=> ?_;clear hK hs
 simp only[umF,h0]
 go_wp2_with fail
 exact HK.out _ _ ⟨rfl,rfl⟩ kZ (rfl) rfl
theorem KQ (A:Option Addr) (n cap:Nat) (a:Act) (w:World) (K:KT) (hs:Sz 34 a)
 (h0:sl a 0= .slice A n cap)
 (hK:∀a' w',Sz 34 a'→Kp [0,3,5] a a'→sl a' 8= .slice A n cap→sl a' 9= .int .i64 (n:Int)→sl a' 10= .int .i64 ((0:Nat):Int)→w'=w→K .normal a' w'):
 (aB Tryz.f4 2).wp Tryz.prog K a w:=by
 refine rgE hK (jY hs) fun HK=> ?_;clear hK hs
 simp only[umF,h0]
 go_wp2_with fail
 exact HK.out _ _ ⟨rfl,rfl⟩ kZ (rfl) (rfl) (rfl) rfl
theorem KO (i n:Nat) (a:Act) (w:World) (K:KT) (hs:Sz 34 a)
 (h9:sl a 9= .int .i64 (n:Int)) (h10:sl a 10= .int .i64 (i:Int))
 (hK:∀a' w',Sz 34 a'→Kp [0,3,5,8,9,10] a a'→sl a' 11= .bool (decide (i<n))→w'=w→K .normal a' w'):
 (aB Tryz.f4 3).wp Tryz.prog K a w:=by
 refine rgE hK (jY hs) fun HK=> ?_;clear hK hs
 simp only[umF,h9,h10]
 go_wp2_with fail
 exact HK.out _ _ ⟨rfl,rfl⟩ kZ (congrArg Value.bool (decide_eq_decide.2 (by omega))) rfl
theorem J8 (ad:Addr) (n cap i:Nat) (cs:Array Value) (a:Act) (w:World) (K:KT) (hs:Sz 34 a)
 (h8:sl a 8= .slice (some ad) n cap) (h10:sl a 10= .int .i64 (i:Int)) (hi:i<n) (hc:∀(j:Nat) (u:Value),cs[j]? =some u→w.cell? ((ad.add (i*17)).add j)=some u) (hss:cs.size=17) (hone:cs.all (·.oneCell')=true)
 (hK:∀a' w',Sz 34 a'→Kp [0,3,8,9,10] a a'→sl a' 5= .pointer (some ⟨w.heap.size,0,none⟩)→Fr noB w w'→Bk w' w.heap.size 30 cs→K .normal a' w'):
 (aB Tryz.f4 4).wp Tryz.prog K a w:=by
 refine rgE hK (jY hs) fun HK=> ?_;clear hK hs
 simp only[umF,h8,h10]
 have hu:=Tryz.underlying30
 have hi2:(Tryz.prog.info? 30).map (·.size)=some cs.size:=by rw[hss];exact GF
 have H:=Lib.hid (And.intro hss hone)
 clear hss hone
 have HC:=Lib.hid hc
 clear hc
 go_wp2_with (first|(refine eY rfl 30 (.tmp 12) rfl (ad.add (i*17)) rfl cs _ HC.out hu rfl hi2 ?_)|(refine aP rfl 30 (.tmp 5) (.tmp 13) rfl w.heap.size _ _ cs rfl rfl (Bk.new w 30 zOp) H.out.1 hi2 H.out.2 ?_;intro w5 hx5 hf5))
 exact HK.out _ _ ⟨rfl,rfl⟩ kZ (rfl) ((((Fr.refl noB w).alloc _)).trans' hf5 (fun b hb e=>by have e':b=w.heap.size:=e;omega)) hx5
theorem Kb (t:Nat) (g:Nat) (x y u2:List UInt8) (r:Int) (a:Act) (w:World) (K:KT) (hs:Sz 34 a)
 (h3:sl a 3= .int .i64 (t:Int)) (h5:sl a 5= .pointer (some ⟨g,0,none⟩)) (c9:w.cell? ⟨g,9,none⟩=some (.string (bs y))) (c11:w.cell? ⟨g,11,none⟩=some (.string (bs u2))) (c16:w.cell? ⟨g,16,none⟩=some (.string (bs x))) (q1:IntKind.i64.wrap ((x.length:Int)+(y.length:Int))=(x.length:Int)+(y.length:Int)) (q2:IntKind.i64.wrap ((x.length:Int)+(y.length:Int)+(u2.length:Int))=(x.length:Int)+(y.length:Int)+(u2.length:Int)) (q3:IntKind.i64.wrap ((t:Int)+((x.length:Int)+(y.length:Int)+(u2.length:Int)))=r)
 (hK:∀a' w',Sz 34 a'→Kp [0,5,8,9,10] a a'→sl a' 3= .int .i64 r→w'=w→K .normal a' w'):
 (aB Tryz.f4 5).wp Tryz.prog K a w:=by
 refine rgE hK (jY hs) fun HK=> ?_;clear hK hs
 simp only[umF,h3,h5]
 clear h3
 go_wp2_with fail
 exact HK.out _ _ ⟨rfl,rfl⟩ kZ (rfl) rfl
theorem Lc (t:Nat) (a:Act) (w:World) (K:KT) (hs:Sz 34 a)
 (h3:sl a 3= .int .i64 (t:Int))
 (hK:∀a' w',Sz 34 a'→Kp [0,3,5,8,9,10] a a'→sl a' 30= .bool (decide (65536<t))→w'=w→K .normal a' w'):
 (aB Tryz.f4 6).wp Tryz.prog K a w:=by
 refine rgE hK (jY hs) fun HK=> ?_;clear hK hs
 simp only[umF,h3]
 go_wp2_with fail
 exact HK.out _ _ ⟨rfl,rfl⟩ kZ (congrArg Value.bool (decide_eq_decide.2 (by omega))) rfl
theorem Kt (a:Act) (w:World) (K:KT) (hs:Sz 34 a)
 (hK:∀a' w',Sz 34 a'→Kp [0,3,5,8,9,10] a a'→sl a' 2= .bool false→w'=w→K .normal a' w'):
 (aB Tryz.f4 7).wp Tryz.prog K a w:=by
 refine rgE hK (jY hs) fun HK=> ?_;clear hK hs
 simp only[umF]
 go_wp2_with fail
 exact HK.out _ _ ⟨rfl,rfl⟩ kZ (rfl) rfl
theorem JQ (i j:Nat) (a:Act) (w:World) (K:KT) (hs:Sz 34 a)
 (h10:sl a 10= .int .i64 (i:Int)) (q:IntKind.i64.wrap ((i:Int)+1)=(j:Int))
 (hK:∀a' w',Sz 34 a'→Kp [0,3,5,8,9] a a'→sl a' 10= .int .i64 (j:Int)→w'=w→K .normal a' w'):
 (aB Tryz.f4 8).wp Tryz.prog K a w:=by
 refine rgE hK (jY hs) fun HK=> ?_;clear hK hs
 simp only[umF,h10]
 clear h10
 go_wp2_with fail
 exact HK.out _ _ ⟨rfl,rfl⟩ kZ (rfl) rfl
theorem KP (t:Nat) (a:Act) (w:World) (K:KT) (hs:Sz 34 a)
 (h3:sl a 3= .int .i64 (t:Int))
 (hK:∀a' w',Sz 34 a'→Kp [0,3,5,8,9,10] a a'→sl a' 2= .bool (decide (t≤65536))→w'=w→K .normal a' w'):
 (aB Tryz.f4 9).wp Tryz.prog K a w:=by
 refine rgE hK (jY hs) fun HK=> ?_;clear hK hs
 simp only[umF,h3]
 go_wp2_with fail
 exact HK.out _ _ ⟨rfl,rfl⟩ kZ (congrArg Value.bool (decide_eq_decide.2 (by omega))) rfl
def IT (l:List OpD):Prop:=∀o∈l,o.s.length≤140737488355328∧o.c.name.length≤140737488355328∧o.c.digest.length≤140737488355328
def pF (l:List OpD) (n:Nat):Nat:=n+(l.map wOp).sum
theorem Cv (l:List OpD) (o:OpD) (n:Nat):pF (l++[o]) n=pF l n+wOp o:=by unfold pF;rw[List.map_append,List.sum_append];simp;omega
theorem BS (l:List OpD) (i n:Nat):pF (l.take i) n≤pF l n:=by
 unfold pF
 have:(l.map wOp).sum=((l.take i).map wOp).sum+((l.drop i).map wOp).sum:=by rw[←List.sum_append,←List.map_append,List.take_append_drop]
 omega
theorem Ga (l:List OpD) (A:Option Addr) (cap:Nat) (w:World) (h:SlR w noB 17 A l.length (AH l)) (hl:IT l) (hn:l.length≤140737488355328):
 Calls Tryz.prog 4 #[.slice A l.length cap] w fun e w'=>e= .returned (.bool (decide (pF l l.length≤65536)))∧Fr noB w w':=by
 go_enter Tryz.func4,Tryz.ntmps4
 refine wp_seq ?_
 refine KY _ w _ ⟨rfl,rfl⟩ ?_
 intro a0 w0 hs0 k0 hw;subst w0
 have e0:sl a0 0= .slice A l.length cap:=(k0 0 (by decide)).trans rfl
 clear k0
 refine wp_seq ?_
 refine Kz A l.length cap a0 w _ hs0 e0 ?_
 intro a1 w1 hs1 k1 o3 hw;subst w1
 refine wp_seq (wp_seq ?_)
 refine KQ A l.length cap a1 w _ hs1 (k1.t e0) ?_
 intro a2 w2 hs2 k2 o8 o9 o10 hw;subst w2
 have o3:=k2.t o3
 clear k1 k2
 refine wp_block ?_
 refine fQ 34 (fun a' w'=>∃i:Nat,i≤l.length∧(0<i→pF (l.take i) l.length≤65536)∧sl a' 10= .int .i64 (i:Int)∧sl a' 3= .int .i64 ((pF (l.take i) l.length:Nat):Int)∧Kp [8,9] a2 a'∧Fr noB w w') (fun a' _=>l.length-(intOf (sl a' 10)).toNat)
  hs2 ⟨0,Nat.zero_le _,fun h=>absurd h (by decide),o10,by rw[o3];simp[pF],Kp.refl _ _,Fr.refl _ _⟩ ?_
 rintro b1 v1 hs1' ⟨i,hi,ht,i10,i3,j1,f1⟩
 refine wp_seq ?_
 refine KO i l.length b1 v1 _ hs1' (j1.t o9) i10 ?_
 intro b2 v2 hs2' j2 i11 hw;subst v2
 refine wp_seq ?_
 have i3:=j2.t i3
 refine fK i11 (fun hb=> ?_) (fun hb=> ?_)
 rotate_left
 ·have hin:i=l.length:=by have:=of_decide_eq_false hb;omega
  rw[hin,List.take_length]at i3
  refine wp_exit (bD (bD (bU ?_)))
  refine wp_seq ?_
  refine KP _ b2 v1 _ hs2' i3 ?_
  intro b3 v3 hs3' j3 o2 hw;subst v3
  refine wp_ret ?_
  exact bodyPost_ret (results_tmp rfl _ _ _) hs3'.defers ⟨by rw[show b3.tmps.getD 2 undef=_ from o2],f1⟩
 have hlt:=of_decide_eq_true hb
 obtain⟨op,hop⟩:∃op,l[i]? =some op:=⟨_,List.getElem?_eq_getElem hlt⟩
 obtain⟨ad,hA,hc⟩:=uY (h.keep f1) hop
 have htl:l.take (i+1)=l.take i++[op]:=by rw[List.take_add_one,hop];rfl
 have hlen:=hl op (List.mem_of_getElem? hop)
 refine wp_skip ?_
 refine wp_seq (wp_block (wp_seq ?_))
 refine J8 ad l.length cap i (opC op) b2 v1 _ hs2' (by rw[←hA];exact j2.t (j1.t o8)) (j2.t i10) hlt hc (nI op) (Gd op) ?_
 intro b3 v3 hs3' j3 o5 f3 hB3
 have i3:=j3.t i3
 have i10':=j3.t (j2.t i10)
 have j13:Kp [8,9] a2 b3:=fun x hx=>(j3 x (by revert hx;revert x;decide)).trans ((j2 x (by revert hx;revert x;decide)).trans (j1 x hx))
 refine wp_seq ?_
 have key:∀J:Exit→Act→World→Prop,(∀a',Sz 34 a'→Kp [8,9,10] b3 a'→sl a' 3= .int .i64 ((pF (l.take (i+1)) l.length:Nat):Int)→J .normal a' v3)→(pF (l.take i) l.length≤140737488355328)→(aB Tryz.f4 5).wp Tryz.prog J b3 v3:=fun J hJ hb=>by
  have hw1:=hlen.1
  have hw2:=hlen.2.1
  have hw3:=hlen.2.2
  have ew:wOp op=op.s.length+op.c.name.length+op.c.digest.length:=rfl
  refine Kb _ _ op.s op.c.name op.c.digest ((pF (l.take (i+1)) l.length:Nat):Int) b3 v3 J hs3' i3 o5 (hB3.cell 9) (hB3.cell 11) (hB3.cell 16) (IntWalk.i64_in _ (by omega)) (IntWalk.i64_in _ (by omega)) ((IntWalk.i64_in _ (by omega)).trans (by rw[htl,Cv];omega)) ?_
  intro b4 v4 hs4' j4 o3 hw;subst v4
  exact hJ b4 hs4' (fun i hi=>j4 i (by revert hi;revert i;decide)) o3
 refine key _ ?_ (by rcases Nat.eq_zero_or_pos i with h0|h0;(subst h0;simpa[pF]using hn);(have:=ht h0;omega))
 intro b4 hs4' j4 o3
 refine wp_seq ?_
 refine Lc _ b4 v3 _ hs4' o3 ?_
 intro b5 v5 hs5' j5 o30 hw;subst v5
 refine fK o30 (fun hb=> ?_) (fun hb=> ?_)
 ·have hgt:=of_decide_eq_true hb
  have hno:¬pF l l.length≤65536:=by have:=BS l (i+1) l.length;omega
  refine wp_seq ?_
  refine Kt b5 v3 _ hs5' ?_
  intro b6 v6 hs6' j6 o2 hw;subst v6
  refine wp_ret ?_
  have hp:bodyPost Tryz.prog Tryz.f4 (fun e w'=>e= .returned (.bool (decide (pF l l.length≤65536)))∧Fr noB w w') .ret b6 v3:=bodyPost_ret (results_tmp rfl _ _ _) hs6'.defers ⟨by rw[show b6.tmps.getD 2 undef=_ from o2,decide_eq_false hno],f1.none f3⟩
  exact hp
 have hle:pF (l.take (i+1)) l.length≤65536:=by have:=of_decide_eq_false hb;omega
 refine wp_skip ?_
 refine JQ i (i+1) b5 v3 _ hs5' (j5.t (j4.t i10')) ((IntWalk.i64_in _ (by omega)).trans (by omega)) ?_
 intro b6 v6 hs6' j6 o10 hw;subst v6
 refine⟨hs6',⟨i+1,by omega,fun _=>hle,o10,j6.t (j5.t o3),fun x hx=>(j6 x (by revert hx;revert x;decide)).trans ((j5 x (by revert hx;revert x;decide)).trans ((j4 x (by revert hx;revert x;decide)).trans (j13 x hx))),f1.none f3⟩,?_⟩
 rw[o10,i10];simp only[intOf];omega
end Go.Proofs.YtcllkmllflheiaaGreatDoor
namespace Go.Proofs.YtcllkmllflheiaaGreatDoor
open Go.RowKit Go.Proofs
structure Pr where
 L:Lay
 p:Nat
 M:bQ
 s:St
def rP (x:Pr) (b:Nat):Prop:=bW x.L b∨bX x.p x.M b
structure fI (base:Nat) (w:World) (T:Nat) (x:Pr):Prop where
 b:aC w x.L x.s
 m:aA w x.p T x.M x.s
 d:∀k,bW x.L k→¬bX x.p x.M k
 lo:∀k,rP x k→base≤k
theorem fI.lt {base:Nat} {w:World} {T:Nat} {x:Pr} (h:fI base w T x):∀k,rP x k→k<w.heap.size:=fun k hk=>hk.elim (h.b.lt k) (h.m.lt k)
structure Low (base:Nat):Prop where
 g:∀b,glB b→b<base
 a:1<base
theorem fI.keep {base:Nat} {w w':World} {S:Nat→Prop} {T:Nat} {x:Pr} (h:fI base w T x) (hl:Low base) (hf:Fr S w w') (hS:∀k,rP x k→¬S k) (h0:∀k,S k→base≤k∨w.heap.size≤k):fI base w' T x:=by
 have hlo:∀b,b<base→¬S b:=fun b hb hx=>by
  rcases h0 b hx with h1|h1
  ·omega
  ·have:=h.lo x.p (.inr (gZ _ _));have:=h.lt x.p (.inr (gZ _ _));omega
 exact⟨h.b.keep hf (fun k hk=>hS k (.inl hk)) (fun b hb=>hlo b (hl.g b hb)),h.m.keep hf (fun k hk=>hS k (.inr hk)) (hlo _ hl.a),h.d,h.lo⟩
structure eV (base:Nat) (w:World) (T:Nat) (l:List Pr):Prop where
 at_:∀(i:Nat) (x:Pr),l[i]? =some x→fI base w T x
 dj:∀(i j:Nat) (x y:Pr),i≠j→l[i]? =some x→l[j]? =some y→∀k,rP x k→¬rP y k
theorem eV.nil (base:Nat) (w:World) (T:Nat):eV base w T []:=⟨fun i x h=>(by simp at h),fun i j x y _ h=>(by simp at h)⟩
theorem eV.keep {base:Nat} {w w':World} {S:Nat→Prop} {T:Nat} {l:List Pr} (h:eV base w T l) (hl:Low base) (hf:Fr S w w') (hS:∀(i:Nat) (x:Pr),l[i]? =some x→∀k,rP x k→¬S k) (h0:∀k,S k→base≤k∨w.heap.size≤k):eV base w' T l:=
 ⟨fun i x hx=>(h.at_ i x hx).keep hl hf (hS i x hx) h0,h.dj⟩
theorem eV.one {base:Nat} {w w':World} {T:Nat} {l:List Pr} {i:Nat} {x x':Pr} (h:eV base w T l) (hl:Low base) (hx:l[i]? =some x) (hf:Fr (rP x) w w') (hx':fI base w' T x') (ho:∀k,rP x' k→rP x k∨w.heap.size≤k):eV base w' T (l.set i x'):=by
 have hil:i<l.length:=by
  rcases Nat.lt_or_ge i l.length with h1|h1
  ·exact h1
  ·rw[List.getElem?_eq_none h1]at hx;cases hx
 have key:∀(j:Nat) (y:Pr),(l.set i x')[j]? =some y→(j=i∧y=x')∨(j≠i∧l[j]? =some y):=by
  intro j y hy
  by_cases e:i=j
  ·subst e
   rw[List.getElem?_set_self hil]at hy
   injection hy with hy;exact .inl ⟨rfl,hy.symm⟩
  ·rw[List.getElem?_set_ne e]at hy;exact .inr ⟨fun e2=>e e2.symm,hy⟩
 refine⟨fun j y hy=> ?_,fun j k y z hjk hy hz b hb hb'=> ?_⟩
 ·rcases key j y hy with⟨rfl,rfl⟩|⟨hne,hy⟩
  ·exact hx'
  ·exact(h.at_ j y hy).keep hl hf (fun k hk hk'=>h.dj j i y x hne hy hx k hk hk') (fun k hk=> .inl ((h.at_ i x hx).lo k hk))
 ·rcases key j y hy with⟨rfl,rfl⟩|⟨hne,hy2⟩
  ·rcases key k z hz with⟨rfl,rfl⟩|⟨hne2,hz⟩
   ·exact hjk rfl
   ·rcases ho b hb with h1|h1
    ·exact h.dj j k x z hjk hx hz b h1 hb'
    ·have:=(h.at_ k z hz).lt b hb';omega
  ·rcases key k z hz with⟨rfl,rfl⟩|⟨hne2,hz⟩
   ·rcases ho b hb' with h1|h1
    ·exact h.dj j k y x hjk hy2 hx b hb h1
    ·have:=(h.at_ j y hy2).lt b hb;omega
   ·exact h.dj j k y z hjk hy2 hz b hb hb'
theorem eV.more {base:Nat} {w w':World} {T:Nat} {l:List Pr} {x':Pr} (h:eV base w T l) (hl:Low base) (hf:Fr noB w w') (hx':fI base w' T x') (ho:∀k,rP x' k→w.heap.size≤k):eV base w' T (l++[x']):=by
 have h':=h.keep hl hf (fun _ _ _ _ _ y=>y) (fun _ y=>y.elim)
 have key:∀(j:Nat) (y:Pr),(l++[x'])[j]? =some y→(j=l.length∧y=x')∨(j<l.length∧l[j]? =some y):=by
  intro j y hy
  rcases Nat.lt_or_ge j l.length with h1|h1
  ·rw[List.getElem?_append_left h1]at hy;exact .inr ⟨h1,hy⟩
  ·rw[List.getElem?_append_right h1]at hy
   rcases Nat.eq_zero_or_pos (j-l.length)with h2|h2
   ·rw[h2]at hy;injection hy with hy;exact .inl ⟨by omega,hy.symm⟩
   ·rw[List.getElem?_eq_none (by simp;omega)]at hy;cases hy
 refine⟨fun j y hy=> ?_,fun j k y z hjk hy hz b hb hb'=> ?_⟩
 ·rcases key j y hy with⟨rfl,rfl⟩|⟨_,hy⟩
  ·exact hx'
  ·exact h'.at_ j y hy
 ·rcases key j y hy with⟨rfl,rfl⟩|⟨h1,hy2⟩
  ·rcases key k z hz with⟨rfl,rfl⟩|⟨h2,hz⟩
   ·exact hjk rfl
   ·have:=(h.at_ k z hz).lt b hb';have:=ho b hb;omega
  ·rcases key k z hz with⟨rfl,rfl⟩|⟨h2,hz⟩
   ·have:=(h.at_ j y hy2).lt b hb;have:=ho b hb';omega
   ·exact h.dj j k y z hjk hy2 hz b hb hb'
def Bd (x:Pr):List Value:=[.pointer (some ⟨x.L.p,0,none⟩),.pointer (some ⟨x.p,0,none⟩)]
def oR (l:List Pr):List Value:=l.flatMap Bd
theorem yX (l:List Pr) (i:Nat) (x:Pr) (j:Nat) (u:Value) (h:l[i]? =some x) (hj:(Bd x)[j]? =some u):(oR l)[i*2+j]? =some u:=xK Bd 2 (fun _=>rfl) l i x j u h hj
theorem CL (l:List Pr) (x:Pr):oR (l++[x])=oR l++Bd x:=by unfold oR;rw[List.flatMap_append];simp
theorem Ct (l:List Pr) (i:Nat) (x x':Pr) (h:l[i]? =some x) (h1:x'.L.p=x.L.p) (h2:x'.p=x.p):oR (l.set i x')=oR l:=by
 unfold oR
 induction l generalizing i with
 |nil=>rfl
 |cons a r ih=>
  cases i with
  |zero=>cases h;simp[Bd,h1,h2]
  |succ i=>rw[List.set_cons_succ,List.flatMap_cons,List.flatMap_cons,ih i h]
structure fD (base:Nat) (w:World) (g T:Nat) (l:List Pr) (A:Option Addr) (cap:Nat):Prop where
 bk:Bk w g 36 #[.pointer (some ⟨T,0,none⟩),.slice A l.length cap,.bool false]
 row:w.ownsRow base 48 2 (.slice A l.length cap) l.length (oR l)
 ps:eV base w T l
 go:base≤g
 gn:∀(i:Nat) (x:Pr),l[i]? =some x→¬rP x g
 rg:∀b,(Value.slice A l.length cap).ownBlock=some b→b≠g
 rn:∀b,(Value.slice A l.length cap).ownBlock=some b→∀(i:Nat) (x:Pr),l[i]? =some x→¬rP x b
theorem fD.one {base:Nat} {w w':World} {g T:Nat} {l:List Pr} {A:Option Addr} {cap i:Nat} {x x':Pr} (h:fD base w g T l A cap) (hl:Low base) (hx:l[i]? =some x) (hf:Fr (rP x) w w') (hx':fI base w' T x') (ho:∀k,rP x' k→rP x k∨w.heap.size≤k) (h1:x'.L.p=x.L.p) (h2:x'.p=x.p):fD base w' g T (l.set i x') A cap:=by
 have hlen:(l.set i x').length=l.length:=List.length_set ..
 have hmem:∀(j:Nat) (y:Pr),(l.set i x')[j]? =some y→y=x'∨l[j]? =some y:=by
  intro j y hy
  have hil:i<l.length:=by
   rcases Nat.lt_or_ge i l.length with h1|h1
   ·exact h1
   ·rw[List.getElem?_eq_none h1]at hx;cases hx
  by_cases e:i=j
  ·subst e
   rw[List.getElem?_set_self hil]at hy
   injection hy with hy;exact .inl hy.symm
  ·rw[List.getElem?_set_ne e]at hy;exact .inr hy
 have hgl:=h.bk.lt
 have hrow:w'.ownsRow base 48 2 (.slice A l.length cap) l.length (oR l):=by
  refine⟨h.row.1,?_⟩
  rcases h.row.2 with h3|⟨b,cp,cur,h3,h4,h5,h6⟩
  ·exact .inl h3
  ·have hbl:b<w.heap.size:=(Array.getElem?_eq_some_iff.1 h5).1
   exact .inr ⟨b,cp,cur,h3,h4,(hf.block b hbl (h.rn b (by rw[h3];rfl) i x hx)).trans h5,h6⟩
 refine⟨by rw[hlen];exact h.bk.keep hf (h.gn i x hx),by rw[hlen,Ct l i x x' hx h1 h2];exact hrow,h.ps.one hl hx hf hx' ho,h.go,fun j y hy hk=> ?_,by rw[hlen];exact h.rg,fun b hb j y hy hk=> ?_⟩
 ·rcases hmem j y hy with rfl|hy
  ·rcases ho g hk with h3|h3
   ·exact h.gn i x hx h3
   ·omega
  ·exact h.gn j y hy hk
 ·rw[hlen]at hb
  rcases hmem j y hy with rfl|hy
  ·rcases ho b hk with h3|h3
   ·exact h.rn b hb i x hx h3
   ·have:=(h.row.lt b hb).2;omega
  ·exact h.rn b hb j y hy hk
end Go.Proofs.YtcllkmllflheiaaGreatDoor
set_option maxRecDepth 20000
namespace Go.Proofs.YtcllkmllflheiaaGreatDoor
open Go.RowKit Go.Proofs
attribute [local go_sem] aG aD aE aF
theorem aZ (n lo hi:Int) (w:World) (b:Bool) (hb:decide (lo≤n∧n≤hi)=b):Calls Tryz.prog 30 #[.int .i64 n,.int .i64 lo,.int .i64 hi] w fun e w'=>e= .returned (.bool b)∧w'=w:=by
 subst hb
 by_cases h1:lo≤n
 ·have hd:decide (lo≤n∧n≤hi)=decide (n≤hi):=decide_eq_decide.2 ⟨fun x=>x.2,fun x=>⟨h1,x⟩⟩
  rw[hd]
  go_enter Tryz.func30,Tryz.ntmps30
  go_wp2_with fail
  exact bodyPost_ret (results_tmp rfl _ _ _) rfl ⟨rfl,rfl⟩
 ·have hd:decide (lo≤n∧n≤hi)=false:=decide_eq_false fun x=>h1 x.1
  rw[hd]
  go_enter Tryz.func30,Tryz.ntmps30
  go_wp2_with fail
  exact bodyPost_ret (results_tmp rfl _ _ _) rfl ⟨rfl,rfl⟩
def rnF (u:Nat→Value):Act:=⟨#[u 0,u 1,u 2,u 3,u 4,u 5,u 6,u 7,u 8,u 9,u 10,u 11,u 12,u 13,u 14,u 15,u 16,u 17,u 18,u 19,u 20,u 21,u 22,u 23,u 24,u 25,u 26,u 27,u 28,u 29,u 30,u 31,u 32,u 33,u 34,u 35,u 36,u 37,u 38,u 39,u 40,u 41,u 42,u 43,u 44,u 45,u 46,u 47,u 48,u 49,u 50,u 51,u 52,u 53,u 54,u 55,u 56,u 57,u 58,u 59,u 60,u 61,u 62,u 63,u 64,u 65,u 66,u 67],[]⟩
set_option maxRecDepth 100000 in
theorem Ht (u:Nat→Value):rnF u=frN 68 u:=rfl
theorem gD {a:Act} (h:Sz 68 a):a=rnF (sl a):=h.eq.trans (Ht _).symm
theorem Kd (c:eD) (a:Act) (w:World) (K:KT) (hs:Sz 68 a)
 (h1:sl a 1= .agg (gI c))
 (hK:∀a' w',Sz 68 a'→Kp [0,1,6] a a'→sl a' 3= .pointer (some ⟨w.heap.size,0,none⟩)→Fr noB w w'→Bk w' w.heap.size 28 (gI c)→K .normal a' w'):
 (aB Tryz.f14 0).wp Tryz.prog K a w:=by
 refine rgE hK (gD hs) fun HK=> ?_;clear hK hs
 simp only[rnF,h1]
 unfold gI
 go_wp2_with fail
 exact HK.out _ _ ⟨rfl,rfl⟩ kZ (rfl) ((Fr.refl _ _).alloc _) (Bk.new _ _ _)
theorem GD (c:eD) (g:Nat) (a:Act) (w:World) (K:KT) (hs:Sz 68 a)
 (h3:sl a 3= .pointer (some ⟨g,0,none⟩)) (hG:Bk w g 28 (gI c)) (q0:decide ((1:Int)≤(c.name.length:Int)∧(c.name.length:Int)≤20)=false)
 (hK:∀a' w',Sz 68 a'→Kp [0,1,3,4,5] a a'→sl a' 6= .bool false→w'=w→K .normal a' w'):
 (aB Tryz.f14 1).wp Tryz.prog K a w:=by
 refine rgE hK (gD hs) fun HK=> ?_;clear hK hs
 simp only[rnF,h3]
 have hGc:=hG.cells
 unfold gI at hGc
 go_wp2_with fail
 refine(aZ (c.name.length:Int) 1 20 _ false q0).mono ?_
 rintro e w4 ⟨rfl,rfl⟩
 go_wp2_with fail
 exact HK.out _ _ ⟨rfl,rfl⟩ kZ (rfl) rfl
theorem G7 (c:eD) (g:Nat) (a:Act) (w:World) (K:KT) (hs:Sz 68 a)
 (h3:sl a 3= .pointer (some ⟨g,0,none⟩)) (hG:Bk w g 28 (gI c)) (hnl:c.name.length≤4611686018427387904) (q0:decide ((1:Int)≤(c.name.length:Int)∧(c.name.length:Int)≤20)=true) (q1:gJ c.name=false)
 (hK:∀a' w',Sz 68 a'→Kp [0,1,3,4,5] a a'→sl a' 6= .bool false→w'=w→K .normal a' w'):
 (aB Tryz.f14 1).wp Tryz.prog K a w:=by
 refine rgE hK (gD hs) fun HK=> ?_;clear hK hs
 simp only[rnF,h3]
 have hGc:=hG.cells
 unfold gI at hGc
 go_wp2_with fail
 refine(aZ (c.name.length:Int) 1 20 _ true q0).mono ?_
 rintro e w4 ⟨rfl,rfl⟩
 go_wp2_with fail
 refine(oO c.name _ hnl).mono ?_
 rintro e w4 ⟨rfl,rfl⟩
 rw[q1]
 go_wp2_with fail
 exact HK.out _ _ ⟨rfl,rfl⟩ kZ (rfl) rfl
theorem GR (c:eD) (g:Nat) (a:Act) (w:World) (K:KT) (hs:Sz 68 a)
 (h3:sl a 3= .pointer (some ⟨g,0,none⟩)) (hG:Bk w g 28 (gI c)) (hnl:c.name.length≤4611686018427387904) (q0:decide ((1:Int)≤(c.name.length:Int)∧(c.name.length:Int)≤20)=true) (q1:gJ c.name=true) (q2:((c.digest.length:Int)==32)=false)
 (hK:∀a' w',Sz 68 a'→Kp [0,1,3,4,5] a a'→sl a' 6= .bool false→w'=w→K .normal a' w'):
 (aB Tryz.f14 1).wp Tryz.prog K a w:=by
 refine rgE hK (gD hs) fun HK=> ?_;clear hK hs
 simp only[rnF,h3]
 have hGc:=hG.cells
 unfold gI at hGc
 go_wp2_with fail
 refine(aZ (c.name.length:Int) 1 20 _ true q0).mono ?_
 rintro e w4 ⟨rfl,rfl⟩
 go_wp2_with fail
 refine(oO c.name _ hnl).mono ?_
 rintro e w4 ⟨rfl,rfl⟩
 rw[q1]
 go_wp2_with fail
 exact HK.out _ _ ⟨rfl,rfl⟩ kZ (rfl) rfl
theorem HU (c:eD) (g:Nat) (a:Act) (w:World) (K:KT) (hs:Sz 68 a)
 (h3:sl a 3= .pointer (some ⟨g,0,none⟩)) (hG:Bk w g 28 (gI c)) (hnl:c.name.length≤4611686018427387904) (q0:decide ((1:Int)≤(c.name.length:Int)∧(c.name.length:Int)≤20)=true) (q1:gJ c.name=true) (q2:((c.digest.length:Int)==32)=true) (q3:decide ((1:Int)≤c.cap∧c.cap≤600000)=false)
 (hK:∀a' w',Sz 68 a'→Kp [0,1,3,4,5] a a'→sl a' 6= .bool false→w'=w→K .normal a' w'):
 (aB Tryz.f14 1).wp Tryz.prog K a w:=by
 refine rgE hK (gD hs) fun HK=> ?_;clear hK hs
 simp only[rnF,h3]
 have hGc:=hG.cells
 unfold gI at hGc
 go_wp2_with fail
 refine(aZ (c.name.length:Int) 1 20 _ true q0).mono ?_
 rintro e w4 ⟨rfl,rfl⟩
 go_wp2_with fail
 refine(oO c.name _ hnl).mono ?_
 rintro e w4 ⟨rfl,rfl⟩
 rw[q1]
 go_wp2_with fail
 refine(aZ c.cap 1 600000 _ false q3).mono ?_
 rintro e w4 ⟨rfl,rfl⟩
 go_wp2_with fail
 exact HK.out _ _ ⟨rfl,rfl⟩ kZ (rfl) rfl
theorem G9 (c:eD) (g:Nat) (a:Act) (w:World) (K:KT) (hs:Sz 68 a)
 (h3:sl a 3= .pointer (some ⟨g,0,none⟩)) (hG:Bk w g 28 (gI c)) (hnl:c.name.length≤4611686018427387904) (q0:decide ((1:Int)≤(c.name.length:Int)∧(c.name.length:Int)≤20)=true) (q1:gJ c.name=true) (q2:((c.digest.length:Int)==32)=true) (q3:decide ((1:Int)≤c.cap∧c.cap≤600000)=true) (q4:decide ((8:Int)≤c.block∧c.block≤1024)=false)
 (hK:∀a' w',Sz 68 a'→Kp [0,1,3,4,5] a a'→sl a' 6= .bool false→w'=w→K .normal a' w'):
 (aB Tryz.f14 1).wp Tryz.prog K a w:=by
 refine rgE hK (gD hs) fun HK=> ?_;clear hK hs
 simp only[rnF,h3]
 have hGc:=hG.cells
 unfold gI at hGc
 go_wp2_with fail
 refine(aZ (c.name.length:Int) 1 20 _ true q0).mono ?_
 rintro e w4 ⟨rfl,rfl⟩
 go_wp2_with fail
 refine(oO c.name _ hnl).mono ?_
 rintro e w4 ⟨rfl,rfl⟩
 rw[q1]
 go_wp2_with fail
 refine(aZ c.cap 1 600000 _ true q3).mono ?_
 rintro e w4 ⟨rfl,rfl⟩
 go_wp2_with fail
 refine(aZ c.block 8 1024 _ false q4).mono ?_
 rintro e w4 ⟨rfl,rfl⟩
 go_wp2_with fail
 exact HK.out _ _ ⟨rfl,rfl⟩ kZ (rfl) rfl
theorem GT (c:eD) (g:Nat) (b:Bool) (a:Act) (w:World) (K:KT) (hs:Sz 68 a)
 (h3:sl a 3= .pointer (some ⟨g,0,none⟩)) (hG:Bk w g 28 (gI c)) (hnl:c.name.length≤4611686018427387904) (q0:decide ((1:Int)≤(c.name.length:Int)∧(c.name.length:Int)≤20)=true) (q1:gJ c.name=true) (q2:((c.digest.length:Int)==32)=true) (q3:decide ((1:Int)≤c.cap∧c.cap≤600000)=true) (q4:decide ((8:Int)≤c.block∧c.block≤1024)=true) (q5:decide ((1:Int)≤c.window∧c.window≤8)=b)
 (hK:∀a' w',Sz 68 a'→Kp [0,1,3,4,5] a a'→sl a' 6= .bool b→w'=w→K .normal a' w'):
 (aB Tryz.f14 1).wp Tryz.prog K a w:=by
 refine rgE hK (gD hs) fun HK=> ?_;clear hK hs
 simp only[rnF,h3]
 have hGc:=hG.cells
 unfold gI at hGc
 go_wp2_with fail
 refine(aZ (c.name.length:Int) 1 20 _ true q0).mono ?_
 rintro e w4 ⟨rfl,rfl⟩
 go_wp2_with fail
 refine(oO c.name _ hnl).mono ?_
 rintro e w4 ⟨rfl,rfl⟩
 rw[q1]
 go_wp2_with fail
 refine(aZ c.cap 1 600000 _ true q3).mono ?_
 rintro e w4 ⟨rfl,rfl⟩
 go_wp2_with fail
 refine(aZ c.block 8 1024 _ true q4).mono ?_
 rintro e w4 ⟨rfl,rfl⟩
 go_wp2_with fail
 refine(aZ c.window 1 8 _ b q5).mono ?_
 rintro e w4 ⟨rfl,rfl⟩
 go_wp2_with fail
 exact HK.out _ _ ⟨rfl,rfl⟩ kZ (rfl) rfl
theorem HG (c:eD) (g:Nat) (a:Act) (w:World) (K:KT) (hs:Sz 68 a)
 (h3:sl a 3= .pointer (some ⟨g,0,none⟩)) (h6:sl a 6= .bool false) (hG:Bk w g 28 (gI c))
 (hK:∀a' w',Sz 68 a'→Kp [0,1,3,4,5,6] a a'→sl a' 63= .bool true→w'=w→K .normal a' w'):
 (aB Tryz.f14 2).wp Tryz.prog K a w:=by
 refine rgE hK (gD hs) fun HK=> ?_;clear hK hs
 simp only[rnF,h3,h6]
 have hGc:=hG.cells
 unfold gI at hGc
 go_wp2_with fail
 exact HK.out _ _ ⟨rfl,rfl⟩ kZ (rfl) rfl
theorem H7 (c:eD) (g:Nat) (a:Act) (w:World) (K:KT) (hs:Sz 68 a)
 (h3:sl a 3= .pointer (some ⟨g,0,none⟩)) (h6:sl a 6= .bool true) (hG:Bk w g 28 (gI c)) (q1:decide ((1:Int)≤c.rx∧c.rx≤16)=false)
 (hK:∀a' w',Sz 68 a'→Kp [0,1,3,4,5,6] a a'→sl a' 63= .bool true→w'=w→K .normal a' w'):
 (aB Tryz.f14 2).wp Tryz.prog K a w:=by
 refine rgE hK (gD hs) fun HK=> ?_;clear hK hs
 simp only[rnF,h3,h6]
 have hGc:=hG.cells
 unfold gI at hGc
 go_wp2_with fail
 refine(aZ c.rx 1 16 _ false q1).mono ?_
 rintro e w4 ⟨rfl,rfl⟩
 go_wp2_with fail
 exact HK.out _ _ ⟨rfl,rfl⟩ kZ (rfl) rfl
theorem GC (c:eD) (g:Nat) (a:Act) (w:World) (K:KT) (hs:Sz 68 a)
 (h3:sl a 3= .pointer (some ⟨g,0,none⟩)) (h6:sl a 6= .bool true) (hG:Bk w g 28 (gI c)) (q1:decide ((1:Int)≤c.rx∧c.rx≤16)=true) (q2:decide ((1:Int)≤c.tx∧c.tx≤16)=false)
 (hK:∀a' w',Sz 68 a'→Kp [0,1,3,4,5,6] a a'→sl a' 63= .bool true→w'=w→K .normal a' w'):
 (aB Tryz.f14 2).wp Tryz.prog K a w:=by
 refine rgE hK (gD hs) fun HK=> ?_;clear hK hs
 simp only[rnF,h3,h6]
 have hGc:=hG.cells
 unfold gI at hGc
 go_wp2_with fail
 refine(aZ c.rx 1 16 _ true q1).mono ?_
 rintro e w4 ⟨rfl,rfl⟩
 go_wp2_with fail
 refine(aZ c.tx 1 16 _ false q2).mono ?_
 rintro e w4 ⟨rfl,rfl⟩
 go_wp2_with fail
 exact HK.out _ _ ⟨rfl,rfl⟩ kZ (rfl) rfl
attribute [-go_sem] run_eql_struct run_neq_struct run_equalIn_agg in
theorem GS (c:eD) (g:Nat) (a:Act) (w:World) (K:KT) (hs:Sz 68 a)
 (h3:sl a 3= .pointer (some ⟨g,0,none⟩)) (h6:sl a 6= .bool true) (hG:Bk w g 28 (gI c)) (qz:decide (c.card=nA)=true) (q1:decide ((1:Int)≤c.rx∧c.rx≤16)=true) (q2:decide ((1:Int)≤c.tx∧c.tx≤16)=true)
 (hK:∀a' w',Sz 68 a'→Kp [0,1,3,4,5,6] a a'→sl a' 63= .bool true→w'=w→K .normal a' w'):
 (aB Tryz.f14 2).wp Tryz.prog K a w:=by
 refine rgE hK (gD hs) fun HK=> ?_;clear hK hs
 simp only[rnF,h3,h6]
 have hGc:=hG.cells
 unfold gI at hGc
 have hE:∀w,(binOp .eql 26 (.agg #[.int .u8 (c.card.1.toNat:Int),.int .u8 (c.card.2.1.toNat:Int),.int .u8 (c.card.2.2.1.toNat:Int),.int .u8 (c.card.2.2.2.1.toNat:Int),.int .u8 (c.card.2.2.2.2.1.toNat:Int),.int .u8 (c.card.2.2.2.2.2.toNat:Int)]) (.agg #[.int .u8 0,.int .u8 0,.int .u8 0,.int .u8 0,.int .u8 0,.int .u8 0])).run Tryz.prog w= .ok (.bool true) w:=fun w=>(tI c.card nA w).trans (by rw[qz])
 have hGd:=eP
 go_wp2_with fail
 refine(aZ c.rx 1 16 _ true q1).mono ?_
 rintro e w4 ⟨rfl,rfl⟩
 go_wp2_with fail
 refine(aZ c.tx 1 16 _ true q2).mono ?_
 rintro e w4 ⟨rfl,rfl⟩
 go_wp2_with fail
 exact HK.out _ _ ⟨rfl,rfl⟩ kZ (rfl) rfl
attribute [-go_sem] run_eql_struct run_neq_struct run_equalIn_agg in
theorem GE (c:eD) (g:Nat) (b:Bool) (a:Act) (w:World) (K:KT) (hs:Sz 68 a)
 (h3:sl a 3= .pointer (some ⟨g,0,none⟩)) (h6:sl a 6= .bool true) (hG:Bk w g 28 (gI c)) (qz:decide (c.card=nA)=false) (qb:((((c.card.1.toNat%2:Nat):Int))==1)=b) (q1:decide ((1:Int)≤c.rx∧c.rx≤16)=true) (q2:decide ((1:Int)≤c.tx∧c.tx≤16)=true)
 (hK:∀a' w',Sz 68 a'→Kp [0,1,3,4,5,6] a a'→sl a' 63= .bool b→w'=w→K .normal a' w'):
 (aB Tryz.f14 2).wp Tryz.prog K a w:=by
 refine rgE hK (gD hs) fun HK=> ?_;clear hK hs
 simp only[rnF,h3,h6]
 have hGc:=hG.cells
 unfold gI at hGc
 have hE:∀w,(binOp .eql 26 (.agg #[.int .u8 (c.card.1.toNat:Int),.int .u8 (c.card.2.1.toNat:Int),.int .u8 (c.card.2.2.1.toNat:Int),.int .u8 (c.card.2.2.2.1.toNat:Int),.int .u8 (c.card.2.2.2.2.1.toNat:Int),.int .u8 (c.card.2.2.2.2.2.toNat:Int)]) (.agg #[.int .u8 0,.int .u8 0,.int .u8 0,.int .u8 0,.int .u8 0,.int .u8 0])).run Tryz.prog w= .ok (.bool false) w:=fun w=>(tI c.card nA w).trans (by rw[qz])
 have hGd:=eP
 go_wp2_with fail
 refine(aZ c.rx 1 16 _ true q1).mono ?_
 rintro e w4 ⟨rfl,rfl⟩
 go_wp2_with fail
 refine(aZ c.tx 1 16 _ true q2).mono ?_
 rintro e w4 ⟨rfl,rfl⟩
 go_wp2_with fail
 exact HK.out _ _ ⟨rfl,rfl⟩ kZ (congrArg Value.bool (by rw[←qb,Bool.eq_iff_iff];simp)) rfl
theorem Lk (a:Act) (w:World) (K:KT) (hs:Sz 68 a)
 (hK:∀a' w',Sz 68 a'→Kp [0,1,3,6] a a'→sl a' 4= .pointer none→sl a' 5= .bool false→w'=w→K .normal a' w'):
 (aB Tryz.f14 3).wp Tryz.prog K a w:=by
 refine rgE hK (gD hs) fun HK=> ?_;clear hK hs
 simp only[rnF]
 go_wp2_with fail
 exact HK.out _ _ ⟨rfl,rfl⟩ kZ (rfl) (rfl) rfl
theorem D8:(Tryz.prog.info? 28).map (·.size)=some 13:=by kernel_rfl
def Jr (c:eD) (T:Nat):Array Value:= #[.pointer (some ⟨T,0,none⟩),.int .u8 (c.card.1.toNat:Int),.int .u8 (c.card.2.1.toNat:Int),.int .u8 (c.card.2.2.1.toNat:Int),.int .u8 (c.card.2.2.2.1.toNat:Int),.int .u8 (c.card.2.2.2.2.1.toNat:Int),.int .u8 (c.card.2.2.2.2.2.toNat:Int),.string (bs c.name),.int .i64 c.cap,.string (bs c.digest),.int .i64 c.block,.int .i64 c.window,.int .i64 c.rx,.int .i64 c.tx,.slice none 0 0,.slice none 0 0,.int .i64 0,.int .u32 0,.int .i64 0,.int .i64 0,.int .i64 0,.slice none 0 0,.int .i64 0,.int .u32 0,.int .u32 0,.int .u32 0,.int .u32 0,.int .u32 0,.int .u32 0,.int .i64 0,.int .i64 0,.int .i64 0,.int .i64 0,.int .i64 0,.int .i64 0,.int .i64 0,.int .i64 0,.int .i64 0,.int .i64 0,.int .i64 0,.int .i64 0,.int .i64 0,.int .i64 0,.int .i64 0,.string ⟨#[]⟩,.slice none 0 0]
theorem Bc {P:Program} {ops:Array Oper} {rest:List Oper} {o:Oper} {a:Act} {w:World} {Q:Exit→Act→World→Prop} (hgd:o.guard=none) (v:Value) (hv:(execOp a.eval o).run P w= .ok (.value v) w) (h:wpList P ops Q rest (a.put o.dst v) w):wpList P ops Q (o::rest) a w:=
 wpList_plain hgd fun K hK=>by unfold Oper.wp;rw[hv];exact hK _ _ h
theorem BK (c:eD) (T:Nat) (h:c.Ok):Jr c T=lF (iH c) T ⟨none,0,none,0,none,0,none,0⟩:=by
 have h2:c.Ok2:=h.2.2.1
 unfold eD.Ok2 at h2
 obtain⟨⟨b1,b2⟩,⟨b3,b4⟩,⟨b5,b6⟩,⟨b7,b8⟩,b9,b10⟩:=h2
 have e1:((c.cap.toNat:Nat):Int)=c.cap:=by omega
 have e2:((c.block.toNat:Nat):Int)=c.block:=by omega
 have e3:((c.window.toNat:Nat):Int)=c.window:=by omega
 have e4:((c.rx.toNat:Nat):Int)=c.rx:=by omega
 have e5:((c.tx.toNat:Nat):Int)=c.tx:=by omega
 unfold Jr lF iH eD.cfg
 have hz:wrap64 ((0:Nat):Int)=0:=by unfold wrap64;omega
 simp only[e1,e2,e3,e4,e5,hz]
 rfl
theorem K7 (c:eD) (g T:Nat) (a:Act) (w:World) (K:KT) (hs:Sz 68 a)
 (h0:sl a 0= .pointer (some ⟨T,0,none⟩)) (h3:sl a 3= .pointer (some ⟨g,0,none⟩)) (hG:Bk w g 28 (gI c)) (hok:c.Ok)
 (hK:∀a' w' p,Sz 68 a'→Kp [0,1,3,6] a a'→sl a' 4= .pointer (some ⟨p,0,none⟩)→sl a' 5= .bool true→Fr noB w w'→Bk w' p 57 (lF (iH c) T ⟨none,0,none,0,none,0,none,0⟩)→w.heap.size≤p→K .normal a' w'):
 (aB Tryz.f14 4).wp Tryz.prog K a w:=by
 refine rgE hK (gD hs) fun HK=> ?_;clear hK hs
 simp only[rnF,h0,h3]
 have hu:=Tryz.underlying28
 have hi:(Tryz.prog.info? 28).map (·.size)=some (gI c).size:=D8
 have hce:=BK c T hok
 have Hok:=Lib.hid hok
 clear hok
 go_wp2_with (first|(refine wpList_load_row rfl 28 (.tmp 3) rfl g rfl 28 (gI c) (0,0) _ hG hu rfl hi ?_;refine Bc rfl (.agg (Jr c T)) (by kernel_rfl) ?_))
 exact HK.out _ _ _ ⟨rfl,rfl⟩ kZ (rfl) (rfl) ((Fr.refl _ _).alloc _) (hce▸Bk.new _ _ _) (Nat.le_refl _)
def eD.R1 (c:eD):Prop:=(1≤c.name.length∧c.name.length≤20)∧gJ c.name=true∧c.digest.length=32∧(1≤c.cap∧c.cap≤600000)∧(8≤c.block∧c.block≤1024)∧(1≤c.window∧c.window≤8)
instance (c:eD):Decidable c.R1:=by unfold eD.R1;infer_instance
theorem eD.ok_iff (c:eD):c.Ok↔c.R1∧(1≤c.rx∧c.rx≤16)∧(1≤c.tx∧c.tx≤16)∧c.card≠nA∧c.card.1.toNat%2≠1:=by
 unfold eD.Ok eD.R1 eD.Ok1 eD.Ok2 gJ
 simp only[Bool.and_eq_true,decide_eq_true_eq]
 constructor
 ·rintro⟨⟨a1,a2,a3⟩,b,⟨c1,c2,c3,c4,c5⟩,d⟩
  exact⟨⟨⟨a1,a2⟩,⟨b,by omega⟩,a3,c1,c2,c3⟩,c4,c5,d⟩
 ·rintro⟨⟨⟨a1,a2⟩,⟨b,_⟩,a3,c1,c2,c3⟩,c4,c5,d⟩
  exact⟨⟨a1,a2,a3⟩,b,⟨c1,c2,c3,c4,c5⟩,d⟩
theorem Lh (c:eD) (g:Nat) (a:Act) (w:World) (K:KT) (hs:Sz 68 a) (h3:sl a 3= .pointer (some ⟨g,0,none⟩)) (hG:Bk w g 28 (gI c))
 (hK:∀a',Sz 68 a'→Kp [0,3] a a'→sl a' 6= .bool (decide c.R1)→K .normal a' w):(aB Tryz.f14 1).wp Tryz.prog K a w:=by
 have kk:∀{l:List Nat} {a':Act},Kp l a a'→(∀x∈[0,3],x∈l)→Kp [0,3] a a':=fun k hl i hi=>k i (hl i hi)
 by_cases q0:1≤c.name.length∧c.name.length≤20
 rotate_left
 ·exact GD c g a w K hs h3 hG (decide_eq_false (by omega)) fun a' w' hs' k' o e=>by subst e;exact hK a' hs' (kk k' (by decide)) (o.trans (by rw[decide_eq_false (fun x:c.R1=>q0 x.1)]))
 by_cases q1:gJ c.name=true
 rotate_left
 ·exact G7 c g a w K hs h3 hG (by omega) (decide_eq_true (by omega)) (by simpa using q1) fun a' w' hs' k' o e=>by subst e;exact hK a' hs' (kk k' (by decide)) (o.trans (by rw[decide_eq_false (fun x:c.R1=>q1 x.2.1)]))
 by_cases q2:c.digest.length=32
 rotate_left
 ·exact GR c g a w K hs h3 hG (by omega) (decide_eq_true (by omega)) q1 (by rw[beq_eq_false_iff_ne];omega) fun a' w' hs' k' o e=>by subst e;exact hK a' hs' (kk k' (by decide)) (o.trans (by rw[decide_eq_false (fun x:c.R1=>q2 x.2.2.1)]))
 by_cases q3:1≤c.cap∧c.cap≤600000
 rotate_left
 ·exact HU c g a w K hs h3 hG (by omega) (decide_eq_true (by omega)) q1 (by rw[q2];rfl) (decide_eq_false q3) fun a' w' hs' k' o e=>by subst e;exact hK a' hs' (kk k' (by decide)) (o.trans (by rw[decide_eq_false (fun x:c.R1=>q3 x.2.2.2.1)]))
 by_cases q4:8≤c.block∧c.block≤1024
 rotate_left
 ·exact G9 c g a w K hs h3 hG (by omega) (decide_eq_true (by omega)) q1 (by rw[q2];rfl) (decide_eq_true q3) (decide_eq_false q4) fun a' w' hs' k' o e=>by subst e;exact hK a' hs' (kk k' (by decide)) (o.trans (by rw[decide_eq_false (fun x:c.R1=>q4 x.2.2.2.2.1)]))
 refine GT c g (decide c.R1) a w K hs h3 hG (by omega) (decide_eq_true (by omega)) q1 (by rw[q2];rfl) (decide_eq_true q3) (decide_eq_true q4) (decide_eq_decide.2 ⟨fun x=>⟨q0,q1,q2,q3,q4,x⟩,fun x=>x.2.2.2.2.2⟩) fun a' w' hs' k' o e=> ?_
 subst e;exact hK a' hs' (kk k' (by decide)) o
theorem La (c:eD) (g:Nat) (a:Act) (w:World) (K:KT) (hs:Sz 68 a) (h3:sl a 3= .pointer (some ⟨g,0,none⟩)) (h6:sl a 6= .bool (decide c.R1)) (hG:Bk w g 28 (gI c))
 (hK:∀a',Sz 68 a'→Kp [0,3] a a'→sl a' 63= .bool (!decide c.Ok)→K .normal a' w):(aB Tryz.f14 2).wp Tryz.prog K a w:=by
 have kk:∀{l:List Nat} {a':Act},Kp l a a'→(∀x∈[0,3],x∈l)→Kp [0,3] a a':=fun k hl i hi=>k i (hl i hi)
 have no:∀a' w',¬c.Ok→Sz 68 a'→Kp [0,3] a a'→sl a' 63= .bool true→w'=w→K .normal a' w':=fun a' w' hn hs' k' o e=>by
  subst e;exact hK a' hs' k' (o.trans (by rw[decide_eq_false hn];rfl))
 by_cases q0:c.R1
 rotate_left
 ·rw[decide_eq_false q0]at h6
  exact HG c g a w K hs h3 h6 hG fun a' w' hs' k' o e=>no a' w' (fun x=>q0 (c.ok_iff.1 x).1) hs' (kk k' (by decide)) o e
 rw[decide_eq_true q0]at h6
 by_cases q1:1≤c.rx∧c.rx≤16
 rotate_left
 ·exact H7 c g a w K hs h3 h6 hG (decide_eq_false q1) fun a' w' hs' k' o e=>no a' w' (fun x=>q1 (c.ok_iff.1 x).2.1) hs' (kk k' (by decide)) o e
 by_cases q2:1≤c.tx∧c.tx≤16
 rotate_left
 ·exact GC c g a w K hs h3 h6 hG (decide_eq_true q1) (decide_eq_false q2) fun a' w' hs' k' o e=>no a' w' (fun x=>q2 (c.ok_iff.1 x).2.2.1) hs' (kk k' (by decide)) o e
 by_cases q3:c.card=nA
 ·exact GS c g a w K hs h3 h6 hG (decide_eq_true q3) (decide_eq_true q1) (decide_eq_true q2) fun a' w' hs' k' o e=>no a' w' (fun x=>(c.ok_iff.1 x).2.2.2.1 q3) hs' (kk k' (by decide)) o e
 ·refine GE c g (!decide c.Ok) a w K hs h3 h6 hG (decide_eq_false q3) ?_ (decide_eq_true q1) (decide_eq_true q2) fun a' w' hs' k' o e=>by subst e;exact hK a' hs' (kk k' (by decide)) o
  have:c.Ok↔c.card.1.toNat%2≠1:=⟨fun x=>(c.ok_iff.1 x).2.2.2.2,fun x=>c.ok_iff.2 ⟨q0,q1,q2,q3,x⟩⟩
  rw[Bool.eq_iff_iff];simp only[beq_iff_eq,Bool.not_eq_true',decide_eq_false_iff_not,this];omega
def AG (c:eD) (T:Nat) (w:World) (e:Ending) (w':World):Prop:=
 (c.Ok→∃p,e= .returned (.tuple #[.pointer (some ⟨p,0,none⟩),.bool true])∧aA w' p T ⟨none,0,none,0,none,0,none,0⟩ (iH c)∧w.heap.size≤p∧Fr noB w w')∧
 (¬c.Ok→e= .returned (.tuple #[.pointer none,.bool false])∧Fr noB w w')
theorem EK (c:eD) (T:Nat) (w:World) (hall:wU w 1 #[.int .u8 255,.int .u8 255,.int .u8 255,.int .u8 255,.int .u8 255,.int .u8 255]):
 Calls Tryz.prog 14 #[.pointer (some ⟨T,0,none⟩),.agg (gI c)] w (AG c T w):=by
 go_enter Tryz.func14,Tryz.ntmps14
 refine wp_seq ?_
 refine Kd c _ w _ ⟨rfl,rfl⟩ rfl ?_
 intro a0 w0 hs0 k0 o3 hf0 hG0
 have e0:sl a0 0= .pointer (some ⟨T,0,none⟩):=(k0 0 (by decide)).trans rfl
 clear k0
 refine wp_seq ?_
 refine Lh c _ a0 w0 _ hs0 o3 hG0 ?_
 intro a1 hs1 k1 o6
 have e0:=k1.t e0
 have o3:=k1.t o3
 refine wp_seq (wp_seq ?_)
 refine La c _ a1 w0 _ hs1 o3 o6 hG0 ?_
 intro a2 hs2 k2 o63
 have e0:=k2.t e0
 have o3:=k2.t o3
 refine fK o63 (fun hb=> ?_) (fun hb=> ?_)
 ·have hno:¬c.Ok:=by simpa using hb
  refine wp_seq ?_
  refine Lk a2 w0 _ hs2 ?_
  intro a3 w3 hs3 k3 o4 o5 hw;subst w3
  refine wp_ret ?_
  refine bodyPost_ret (results_tmp2 rfl _ _ _) hs3.defers ⟨fun h=>absurd h hno,fun _=>⟨?_,hf0⟩⟩
  rw[show a3.tmps.getD 4 undef= .pointer none from o4,show a3.tmps.getD 5 undef= .bool false from o5]
 have hok:c.Ok:=by simpa using hb
 refine wp_skip ?_
 refine wp_seq ?_
 refine K7 c _ T a2 w0 _ hs2 e0 o3 hG0 hok ?_
 intro a3 w3 p hs3 k3 o4 o5 hf3 hB hle
 refine wp_ret ?_
 have hfw:=hf0.none hf3
 refine bodyPost_ret (results_tmp2 rfl _ _ _) hs3.defers ⟨fun _=>⟨p,?_,?_,Nat.le_trans hf0.size hle,hfw⟩,fun h=>absurd hok h⟩
 ·rw[show a3.tmps.getD 4 undef=_ from o4,show a3.tmps.getD 5 undef=_ from o5]
 ·have hal:=hall.keep hfw (fun x=>x)
  have hla:=hall.1
  have hsz:=hf0.size
  exact⟨hB,⟨rfl,.inl ⟨rfl,rfl⟩⟩,⟨rfl,.inl ⟨rfl,rfl⟩⟩,⟨rfl,.inl ⟨rfl,rfl⟩⟩,⟨rfl,.inl ⟨rfl,rfl⟩⟩,by constructor<;>simp[bH],E3 hok,Nat.zero_le _,Nat.zero_le _,hal,fun b hb=>by simp[bX,aK,bH]at hb;omega,by simp[iH],by simp[iH]⟩
end Go.Proofs.YtcllkmllflheiaaGreatDoor
