/- Parts of the walk; written by programs, merged. -/
import Derived.Test.YtcllkmllflheiaaGreatDoorLao
set_option linter.unusedSimpArgs false
set_option linter.unusedVariables false
set_option maxRecDepth 20000
set_option maxHeartbeats 8000000
set_option maxRecDepth 20000
namespace Go.Proofs.YtcllkmllflheiaaGreatDoor
open Go.RowKit Go.Proofs
attribute [local go_sem] aG aD aE aF
theorem zL {w:World} {e:TypeId} {size n:Nat} {v:Value} {xs:List Value} (h:w.ownsRow 0 e size v n xs):∃A c,v= .slice A n c∧w.ownsRow 0 e size (.slice A n c) n xs:=by
 rcases h.2 with⟨hv,h0⟩|⟨g,c,cur,hv,_⟩
 ·subst hv;subst h0;exact⟨none,0,rfl,h⟩
 ·subst hv;exact⟨_,c,rfl,h⟩
theorem fN {w:World} {e:TypeId} {size n c:Nat} {A:Option Addr} {xs:List Value} (h:w.ownsRow 0 e size (.slice A (n+1) c) (n+1) xs):∃g,A=some ⟨g,0,none⟩∧n+1≤c∧∀j u,xs[j]? =some u→w.cell? ⟨g,j,none⟩=some u:=by
 rcases h.2 with⟨_,h0⟩|⟨g,cc,cur,hv,_,_,hc,_⟩
 ·omega
 ·injection hv with e1 e2 e3
  subst e1;subst e3
  exact⟨g,rfl,hc,fun j u hj=>by have:=h.cells (g:=g) rfl j u hj;cases j<;>simpa[Addr.add]using this⟩
def mtF (u:Nat→Value):Act:=⟨#[u 0,u 1,u 2,u 3,u 4,u 5,u 6,u 7,u 8,u 9,u 10,u 11,u 12,u 13,u 14,u 15,u 16,u 17,u 18,u 19,u 20,u 21,u 22,u 23,u 24,u 25],[]⟩
set_option maxRecDepth 100000 in
theorem G4 (u:Nat→Value):mtF u=frN 26 u:=rfl
theorem vO {a:Act} (h:Sz 26 a):a=mtF (sl a):=h.eq.trans (G4 _).symm
theorem Ku (a:Act) (w:World) (K:KT) (hs:Sz 26 a)
 (hK:∀a' w',Sz 26 a'→Kp [0,1] a a'→sl a' 4= .bool false→w'=w→K .normal a' w'):
 (aB Tryz.f16 0).wp Tryz.prog K a w:=by
 refine rgE hK (vO hs) fun HK=> ?_;clear hK hs
 simp only[mtF]
 go_wp2_with fail
 exact HK.out _ _ ⟨rfl,rfl⟩ kZ (rfl) rfl
theorem Lf (p T:Nat) (M:bQ) (s:St) (b:Bool) (a:Act) (w:World) (K:KT) (hs:Sz 26 a)
 (h0:sl a 0= .pointer (some ⟨p,0,none⟩)) (h:aA w p T M s) (hb:((s.rx.length:Int)==(s.c.rx:Int))=b)
 (hK:∀a' w',Sz 26 a'→Kp [0,1,4] a a'→sl a' 15= .bool b→aA w' p T M s→Fr noB w w'→K .normal a' w'):
 (aB Tryz.f16 1).wp Tryz.prog K a w:=by
 refine rgE hK (vO hs) fun HK=> ?_;clear hK hs
 simp only[mtF,h0]
 refine wpr (fun w'=>aA w' p T M s∧Fr noB w w') [] (.p 0 (.p 1 (.p 2 (.p 5 (.p 6 (.p 7 (.p 8 (.q 3 (.p 4 (.q 9 (.p 10 .nil))))))))))) (⟨h.drew,(Fr.refl _ _).drew⟩) ?_
 intro ops Q' hO hQ' wr1 hR1
 iterate 7 refine pP hO ?_
 refine pQ hO rfl rfl (fun w' hS=>by obtain⟨hB,hF⟩:=hS;have c12:=hB.g12;have c14:=hB.g14;exact qd) ?_
 refine pP hO ?_
 refine pQ hO rfl rfl (fun w' hS=>by obtain⟨hB,hF⟩:=hS;have c12:=hB.g12;have c14:=hB.g14;exact qd) ?_
 refine pP hO ?_
 refine bV (hQ' _ _ ?_)
 exact HK.out _ _ ⟨rfl,rfl⟩ kZ (rfl) hR1.1 hR1.2
theorem KW (a:Act) (w:World) (K:KT) (hs:Sz 26 a)
 (hK:∀a' w',Sz 26 a'→Kp [0,1] a a'→sl a' 4= .bool false→w'=w→K .normal a' w'):
 (aB Tryz.f16 2).wp Tryz.prog K a w:=by
 refine rgE hK (vO hs) fun HK=> ?_;clear hK hs
 simp only[mtF]
 go_wp2_with fail
 exact HK.out _ _ ⟨rfl,rfl⟩ kZ (rfl) rfl
theorem JV (p T:Nat) (M:bQ) (s:St) (f:List UInt8) (a:Act) (w:World) (K:KT) (hs:Sz 26 a)
 (h0:sl a 0= .pointer (some ⟨p,0,none⟩)) (h1:sl a 1= .string (bs f)) (h:aA w p T M s) (hlt:s.rx.length<s.c.rx)
 (hK:∀a' w',Sz 26 a'→Kp [0,1,4] a a'→bE p T M w {s with rx:=s.rx++[f]} w'→K .normal a' w'):
 (aB Tryz.f16 3).wp Tryz.prog K a w:=by
 refine rgE hK (vO hs) fun HK=> ?_;clear hK hs
 simp only[mtF,h0,h1]
 obtain⟨i0,hi,hz0,hz1,hz2⟩:=info_parts mC
 have hA1:=h.none ((Fr.refl noB w).alloc (.cells #[.string (bs f)] 9))
 have c14:=h.g14
 have ow:=hA1.rx
 have hl1:=h.rxl
 have hl2:=h.ok.rx1
 go_wp2_with (at_builtin;refine wpList_append_own_at _ rfl _ _ 49 rfl 0 9 i0 (.string ⟨#[]⟩) 1 16 Tryz.underlying49 hi hz0 hz1 hz2 rfl (by decide) _ _ _ rfl ow ⟨w.heap.size,0,none⟩ 1 1 [.string (bs f)] rfl rfl (cell_one_new _ _ _) (by simp[Value.oneCell']) (by unfold maxLen;omega) (by omega) (Nat.zero_le _) ?_;intro v' w3 hown' hg3 hnil3 hbk3;obtain⟨g',c',hv',hown2⟩:=C3 hown';subst hv';have hf3:Fr (fun b=>b∈bH M.rx) (w.alloc (.cells #[.string (bs f)] 9)) w3:=(Fr.refl _ _).grown hg3 (fun g h _=>qH h);have hB3:=hA1.bk.keep hf3 (fun hx=>hA1.nd.pr hx);have cc:=hB3.cell 14;have hfz:=hB3.frees)
 have hb:∀b∈bH (some ⟨g',0,none⟩),b∈bH M.rx∨(w.alloc (.cells #[.string (bs f)] 9)).heap.size≤b:=fun b hb=>by
  have hb1:=zN (n:=s.rx.length+1) (c:=c') hb
  rcases hbk3 with e|e
  ·exact .inl (qH (e.symm.trans hb1))
  ·exact .inr (by rw[e]at hb1;injection hb1 with hb1;omega)
 have hl:(s.rx++[f]).length=s.rx.length+1:=by simp
 have hq:=hA1.rxTurn (q:=s.rx++[f]) (A:=some ⟨g',0,none⟩) (c:=c') hf3 (by rw[hl,zI];exact hown2) hb (by omega)
 rw[hl]at hq
 exact HK.out _ _ ⟨rfl,rfl⟩ kZ (bE.pre ((Fr.refl noB w).alloc _) hq)
theorem J9 (a:Act) (w:World) (K:KT) (hs:Sz 26 a)
 (hK:∀a' w',Sz 26 a'→Kp [0,1] a a'→sl a' 4= .bool true→w'=w→K .normal a' w'):
 (aB Tryz.f16 4).wp Tryz.prog K a w:=by
 refine rgE hK (vO hs) fun HK=> ?_;clear hK hs
 simp only[mtF]
 go_wp2_with fail
 exact HK.out _ _ ⟨rfl,rfl⟩ kZ (rfl) rfl
theorem G3 (p T:Nat) (M:bQ) (s:St) (f:List UInt8) (w:World) (h:aA w p T M s):
 Calls Tryz.prog 16 #[.pointer (some ⟨p,0,none⟩),.string (bs f)] w fun e w'=>e= .returned (.bool (s.put f).2)∧bE p T M w (s.put f).1 w':=by
 go_enter Tryz.func16,Tryz.ntmps16
 refine wp_seq ?_
 refine Ku _ w _ ⟨rfl,rfl⟩ ?_
 intro a0 w0 hs0 k0 o4 hw;subst w0
 have e0:sl a0 0= .pointer (some ⟨p,0,none⟩):=(k0 0 (by decide)).trans rfl
 refine wp_seq ?_
 refine wp_seq ?_
 refine Lf p T M s (decide (s.rx.length=s.c.rx)) a0 w _ hs0 e0 h (by rw[Bool.eq_iff_iff];simp only[beq_iff_eq,decide_eq_true_eq];omega) ?_
 intro a1 w1 hs1 k1 o15 h1 hf1
 refine fK o15 (fun hb=> ?_) (fun hb=> ?_)
 ·have hp:s.put f=(s,false):=if_pos (of_decide_eq_true hb)
  refine wp_seq ?_
  refine KW a1 w1 _ hs1 ?_
  intro a2 w2 hs2 k2 o4 hw;subst w2
  refine wp_ret ?_
  refine bodyPost_ret (P:=Tryz.prog) (fn:=Tryz.f16) (R:=fun e w'=>e= .returned (.bool (s.put f).2)∧bE p T M w (s.put f).1 w') (results_tmp rfl _ _ _) hs2.defers (by rw[hp];exact⟨by rw[show a2.tmps.getD 4 undef=_ from o4],bE.of h1 (hf1.of_no _)⟩)
 ·have hp:s.put f=({s with rx:=s.rx++[f]},true):=if_neg (of_decide_eq_false hb)
  refine wp_skip ?_
  refine wp_seq ?_
  refine JV p T M s f a1 w1 _ hs1 (k1.t e0) (k1.t ((k0 1 (by decide)).trans rfl)) h1 (by have:=h1.rxl;have:=of_decide_eq_false hb;omega) ?_
  intro a2 w2 hs2 k2 hN
  refine wp_seq ?_
  refine J9 a2 w2 _ hs2 ?_
  intro a3 w3 hs3 k3 o4 hw;subst w3
  refine wp_ret ?_
  refine bodyPost_ret (P:=Tryz.prog) (fn:=Tryz.f16) (R:=fun e w'=>e= .returned (.bool (s.put f).2)∧bE p T M w (s.put f).1 w') (results_tmp rfl _ _ _) hs3.defers (by rw[hp];exact⟨by rw[show a3.tmps.getD 4 undef=_ from o4],bE.pre hf1 hN⟩)
def mkF (u:Nat→Value):Act:=⟨#[u 0,u 1,u 2,u 3,u 4,u 5,u 6,u 7,u 8,u 9,u 10,u 11,u 12,u 13,u 14,u 15,u 16,u 17,u 18,u 19,u 20,u 21,u 22,u 23,u 24,u 25,u 26],[]⟩
set_option maxRecDepth 100000 in
theorem Im (u:Nat→Value):mkF u=frN 27 u:=rfl
theorem oE {a:Act} (h:Sz 27 a):a=mkF (sl a):=h.eq.trans (Im _).symm
theorem K3 (a:Act) (w:World) (K:KT) (hs:Sz 27 a)
 (hK:∀a' w',Sz 27 a'→Kp [0,4] a a'→sl a' 2= .string ⟨#[]⟩→sl a' 3= .bool false→w'=w→K .normal a' w'):
 (aB Tryz.f18 0).wp Tryz.prog K a w:=by
 refine rgE hK (oE hs) fun HK=> ?_;clear hK hs
 simp only[mkF]
 go_wp2_with fail
 exact HK.out _ _ ⟨rfl,rfl⟩ kZ (rfl) (rfl) rfl
theorem KH (p T:Nat) (M:bQ) (s:St) (b:Bool) (a:Act) (w:World) (K:KT) (hs:Sz 27 a)
 (h0:sl a 0= .pointer (some ⟨p,0,none⟩)) (h:aA w p T M s) (hb:((s.tx.length:Int)==0)=b)
 (hK:∀a' w',Sz 27 a'→Kp [0,2,3,4] a a'→sl a' 10= .bool b→w'=w→K .normal a' w'):
 (aB Tryz.f18 1).wp Tryz.prog K a w:=by
 refine rgE hK (oE hs) fun HK=> ?_;clear hK hs
 simp only[mkF,h0]
 have c15:=h.g15
 go_wp2_with fail
 exact HK.out _ _ ⟨rfl,rfl⟩ kZ (rfl) rfl
theorem K9 (a:Act) (w:World) (K:KT) (hs:Sz 27 a)
 (hK:∀a' w',Sz 27 a'→Kp [0,4] a a'→sl a' 2= .string ⟨#[]⟩→sl a' 3= .bool false→w'=w→K .normal a' w'):
 (aB Tryz.f18 2).wp Tryz.prog K a w:=by
 refine rgE hK (oE hs) fun HK=> ?_;clear hK hs
 simp only[mkF]
 go_wp2_with fail
 exact HK.out _ _ ⟨rfl,rfl⟩ kZ (rfl) (rfl) rfl
theorem KR (p T:Nat) (M:bQ) (s:St) (f:List UInt8) (r:List (List UInt8)) (a:Act) (w:World) (K:KT) (hs:Sz 27 a)
 (h0:sl a 0= .pointer (some ⟨p,0,none⟩)) (h:aA w p T M s) (ht:s.tx=f::r)
 (hK:∀a' w',Sz 27 a'→Kp [0,2,3] a a'→sl a' 4= .string (bs f)→w'=w→K .normal a' w'):
 (aB Tryz.f18 3).wp Tryz.prog K a w:=by
 refine rgE hK (oE hs) fun HK=> ?_;clear hK hs
 simp only[mkF,h0]
 have c15:=h.g15
 have ow:=h.tx
 rw[ht]at c15 ow
 obtain⟨g,hA,hc,hat⟩:=fN (n:=r.length) ow
 rw[hA]at c15
 have q0:=hat 0 _ rfl
 clear hat ow
 go_wp2_with fail
 exact HK.out _ _ ⟨rfl,rfl⟩ kZ (rfl) rfl
theorem ID (p T:Nat) (M:bQ) (s:St) (f:List UInt8) (a:Act) (w:World) (K:KT) (hs:Sz 27 a)
 (h0:sl a 0= .pointer (some ⟨p,0,none⟩)) (h:aA w p T M s) (ht:s.tx=[f]) (hne:M.txc=1)
 (hK:∀a' w',Sz 27 a'→Kp [0,2,3,4] a a'→bE p T M w {s with tx:=[]} w'→K .normal a' w'):
 (aB Tryz.f18 4).wp Tryz.prog K a w:=by
 refine rgE hK (oE hs) fun HK=> ?_;clear hK hs
 simp only[mkF,h0]
 have c15:=h.g15
 have hfz:=h.fr
 have ow:=h.tx
 rw[ht]at c15 ow
 obtain⟨g,hA,hc,hat⟩:=fN (n:=0) ow
 rw[hA,hne]at c15
 have q0:=hat 0 _ rfl
 clear hat ow
 obtain⟨i0,hi,hz0,hz1,hz2⟩:=info_parts mC
 have hap:∀w,(Builtin.append_ #[49,49] 49 #[.slice none 0 0,.slice (some ⟨g,0,none⟩) 0 0]).run Tryz.prog w= .ok (.slice none 0 0) w:=fun w=>by
  simp[Builtin.append_,run_underlying Tryz.underlying49,sizeOf,typeInfo,hi,Builtin.lenOf,Builtin.firstCells,loadCells,loadCellsFrom]
 go_wp2_with fail
 have hq:=h.txTurn (q:=[]) (A:=none) (c:=0) (Fr.refl _ _) (World.ownsRow_nil _ _ _ _) (fun b hb=>by cases hb) (Nat.zero_le _)
 exact HK.out _ _ ⟨rfl,rfl⟩ kZ hq
theorem Je (p T:Nat) (M:bQ) (s:St) (f:List UInt8) (r:List (List UInt8)) (a:Act) (w:World) (K:KT) (hs:Sz 27 a)
 (h0:sl a 0= .pointer (some ⟨p,0,none⟩)) (h:aA w p T M s) (ht:s.tx=f::r) (hne:M.txc≠1)
 (hK:∀a' w',Sz 27 a'→Kp [0,2,3,4] a a'→bE p T M w {s with tx:=r} w'→K .normal a' w'):
 (aB Tryz.f18 4).wp Tryz.prog K a w:=by
 unfold Kp at hK;refine rgE hK (oE hs) fun HK=> ?_;clear hK hs;generalize sl a=u at*
 simp only[mkF,h0]
 have c15:=h.g15
 have ow:=h.tx
 rw[ht]at c15 ow
 obtain⟨g,hA,hc,hat⟩:=fN (n:=r.length) ow
 have htl:=h.txl
 have ht1:=h.ok.tx1
 rw[ht,List.length_cons]at htl
 rw[hA]at c15
 obtain⟨i0,hi,hz0,hz1,hz2⟩:=info_parts mC
 have hat1:∀j u,(wM r)[j]? =some u→w.cell? ((⟨g,1,none⟩:Addr).add j)=some u:=fun j u hj=>by
  have:=hat (j+1) u (by simpa[wM]using hj)
  rw[show(⟨g,1,none⟩:Addr).add j=⟨g,j+1,none⟩ by simp[Addr.add,Nat.add_comm]]
  exact this
 clear hat ow
 rw[List.length_cons]at c15
 go_wp2_with (at_builtin;refine wpList_append_own_at _ rfl _ _ 49 rfl 0 9 i0 (.string ⟨#[]⟩) 1 16 Tryz.underlying49 hi hz0 hz1 hz2 rfl (by decide) _ 0 [] rfl (World.ownsRow_nil _ _ _ _) ⟨g,1,none⟩ r.length (M.txc-1) (wM r) rfl (by simp[wM]) hat1 (by simp[wM,Value.oneCell']) (by unfold maxLen;omega) (by omega) (Nat.zero_le _) ?_;intro v' w3 hown' hg3 hnil3 hbk3;obtain⟨A',c',hv',hown2⟩:=zL hown';subst hv';have hf3:Fr noB w w3:=(Fr.refl _ _).grown hg3 (fun g h _=>by cases h);have hB3:=h.none hf3;have cc:=hB3.g15;have hfz:=hB3.fr;skip)
 have hq:=h.txTurn (q:=r) (A:=A') (c:=c') (hf3.of_no _) (by simpa using hown2) (fun b hb=>by
  have hb1:=zN (n:=0+r.length) (c:=c') hb
  rcases hbk3 with e|e
  ·rw[e]at hb1;cases hb1
  ·exact .inr (by rw[e]at hb1;injection hb1 with hb1;omega)) (by omega)
 exact HK.out _ _ ⟨rfl,rfl⟩ kZ hq
theorem J3 (f:List UInt8) (a:Act) (w:World) (K:KT) (hs:Sz 27 a)
 (h4:sl a 4= .string (bs f))
 (hK:∀a' w',Sz 27 a'→Kp [0,4] a a'→sl a' 2= .string (bs f)→sl a' 3= .bool true→w'=w→K .normal a' w'):
 (aB Tryz.f18 5).wp Tryz.prog K a w:=by
 refine rgE hK (oE hs) fun HK=> ?_;clear hK hs
 simp only[mkF,h4]
 go_wp2_with fail
 exact HK.out _ _ ⟨rfl,rfl⟩ kZ (rfl) (rfl) rfl
theorem F7 (p T:Nat) (M:bQ) (s:St) (w:World) (h:aA w p T M s):
 Calls Tryz.prog 18 #[.pointer (some ⟨p,0,none⟩)] w fun e w'=>e= .returned (.tuple #[.string (bs (s.take.2.getD [])),.bool s.take.2.isSome])∧bE p T M w s.take.1 w':=by
 go_enter Tryz.func18,Tryz.ntmps18
 refine wp_seq ?_
 refine K3 _ w _ ⟨rfl,rfl⟩ ?_
 intro a0 w0 hs0 k0 o2 o3 hw;subst w0
 have e0:sl a0 0= .pointer (some ⟨p,0,none⟩):=(k0 0 (by decide)).trans rfl
 refine wp_seq ?_
 refine wp_seq ?_
 refine KH p T M s (decide (s.tx=[])) a0 w _ hs0 e0 h (by cases s.tx<;>simp;omega) ?_
 intro a1 w1 hs1 k1 o10 hw;subst w1
 have e1:=k1.t e0
 cases hq:s.tx with
 |nil=>
  rw[hq]at o10
  refine fK o10 (fun hb=> ?_) (fun hb=>by cases hb)
  refine wp_seq ?_
  refine K9 a1 w _ hs1 ?_
  intro a2 w2 hs2 k2 o2 o3 hw;subst w2
  refine wp_ret ?_
  refine bodyPost_ret (P:=Tryz.prog) (fn:=Tryz.f18) (R:=fun e w'=>e= .returned (.tuple #[.string (bs (s.take.2.getD [])),.bool s.take.2.isSome])∧bE p T M w s.take.1 w') (results_tmp2 rfl _ _ _) hs2.defers (by rw[show s.take=(s,none) by unfold St.take;rw[hq]];exact⟨by rw[show a2.tmps.getD 2 undef=_ from o2,show a2.tmps.getD 3 undef=_ from o3];rfl,bE.at_ h⟩)
 |cons f r=>
  rw[hq]at o10
  refine fK o10 (fun hb=>by cases hb) (fun hb=> ?_)
  refine wp_skip ?_
  refine wp_seq ?_
  refine KR p T M s f r a1 w _ hs1 e1 h hq ?_
  intro a2 w2 hs2 k2 o4 hw;subst w2
  refine wp_seq ?_
  have e2:=k2.t e1
  have key:∀K:Exit→Act→World→Prop,(∀a' w',Sz 27 a'→Kp [0,2,3,4] a2 a'→bE p T M w {s with tx:=r} w'→K .normal a' w')→(aB Tryz.f18 4).wp Tryz.prog K a2 w:=fun K hK=>by
   by_cases hc:M.txc=1
   ·have hr:r=[]:=by
     have ow:=h.tx
     rw[hq]at ow
     obtain⟨g,hA,hcc,_⟩:=fN (n:=r.length) ow
     exact List.length_eq_zero_iff.1 (by omega)
    subst hr
    exact ID p T M s f a2 w K hs2 e2 h hq hc hK
   ·exact Je p T M s f r a2 w K hs2 e2 h hq hc hK
  refine key _ ?_
  intro a3 w3 hs3 k3 hN
  refine wp_seq ?_
  refine J3 f a3 w3 _ hs3 (k3.t o4) ?_
  intro a4 w4 hs4 k4 o2 o3 hw;subst w4
  refine wp_ret ?_
  refine bodyPost_ret (P:=Tryz.prog) (fn:=Tryz.f18) (R:=fun e w'=>e= .returned (.tuple #[.string (bs (s.take.2.getD [])),.bool s.take.2.isSome])∧bE p T M w s.take.1 w') (results_tmp2 rfl _ _ _) hs4.defers (by rw[show s.take=({s with tx:=r},some f) by unfold St.take;rw[hq]];exact⟨by rw[show a4.tmps.getD 2 undef=_ from o2,show a4.tmps.getD 3 undef=_ from o3];rfl,hN⟩)
def mlF (u:Nat→Value):Act:=⟨#[u 0,u 1,u 2,u 3,u 4,u 5,u 6,u 7,u 8,u 9,u 10,u 11,u 12,u 13,u 14,u 15,u 16,u 17,u 18,u 19,u 20,u 21,u 22,u 23,u 24,u 25,u 26,u 27,u 28,u 29,u 30,u 31,u 32,u 33,u 34,u 35],[]⟩
set_option maxRecDepth 100000 in
theorem HV (u:Nat→Value):mlF u=frN 36 u:=rfl
theorem EO {a:Act} (h:Sz 36 a):a=mlF (sl a):=h.eq.trans (HV _).symm
theorem Lg (a:Act) (w:World) (K:KT) (hs:Sz 36 a)
 (hK:∀a' w',Sz 36 a'→Kp [0] a a'→sl a' 2= .pointer (some ⟨w.heap.size,0,none⟩)→Fr noB w w'→Bk w' w.heap.size 69 #[.int .i64 0,.int .i64 0,.int .i64 0,.int .u32 0,.int .i64 0,.int .i64 0,.int .i64 0,.int .i64 0]→K .normal a' w'):
 (aB Tryz.f24 0).wp Tryz.prog K a w:=by
 refine rgE hK (EO hs) fun HK=> ?_;clear hK hs
 simp only[mlF]
 go_wp2_with fail
 exact HK.out _ _ ⟨rfl,rfl⟩ kZ (rfl) ((Fr.refl _ _).alloc _) (Bk.new _ _ _)
theorem Kf (p T:Nat) (M:bQ) (s:St) (g:Nat) (a:Act) (w:World) (K:KT) (hs:Sz 36 a)
 (h0:sl a 0= .pointer (some ⟨p,0,none⟩)) (h2:sl a 2= .pointer (some ⟨g,0,none⟩)) (h:aA w p T M s) (hG:Bk w g 69 #[.int .i64 0,.int .i64 0,.int .i64 0,.int .u32 0,.int .i64 0,.int .i64 0,.int .i64 0,.int .i64 0])
 (hK:∀a' w',Sz 36 a'→Kp [0,2] a a'→Bk w' g 69 #[.int .i64 s.now,.int .i64 (s.lease:Int),.int .i64 (s.phase:Int),.int .u32 (s.address:Int),.int .i64 s.boots,.int .i64 (s.image.length:Int),.int .i64 s.lost,.int .i64 (s.cache.length:Int)]→Fr (aJ g) w w'→K .normal a' w'):
 (aB Tryz.f24 1).wp Tryz.prog K a w:=by
 refine rgE hK (EO hs) fun HK=> ?_;clear hK hs
 simp only[mlF,h0,h2]
 refine wpr (fun w'=>aA w' p T M s∧Bk w' g 69 #[.int .i64 0,.int .i64 0,.int .i64 0,.int .u32 0,.int .i64 0,.int .i64 0,.int .i64 0,.int .i64 0]∧Fr noB w w') [33] (.p 0 (.p 1 (.p 2 (.p 4 (.p 5 (.p 6 (.p 8 (.p 9 (.p 10 (.p 12 (.p 14 (.p 15 (.p 16 (.p 18 (.p 19 (.p 20 (.p 23 (.p 24 (.p 25 (.p 27 (.p 28 (.p 29 (.q 3 (.q 7 (.q 11 (.q 17 (.q 21 (.p 22 (.q 26 (.q 30 (.p 31 (.e 13 (.p 32 (.e 33 (.nil))))))))))))))))))))))))))))))))))) (⟨h.drew,hG.drew,(Fr.refl _ _).drew⟩) ?_
 intro ops Q' hO hQ' wr1 hR1
 iterate 22 refine pP hO ?_
 iterate 5 (refine pQ hO rfl rfl (fun w' hS=>by obtain⟨hB,hG,hF⟩:=hS;have c16:=hB.g16;have c18:=hB.g18;have c19:=hB.g19;have c21:=hB.g21;have c22:=hB.g22;have c34:=hB.g34;have c45:=hB.g45;exact qd) ?_)
 refine pP hO ?_
 iterate 2 (refine pQ hO rfl rfl (fun w' hS=>by obtain⟨hB,hG,hF⟩:=hS;have c16:=hB.g16;have c18:=hB.g18;have c19:=hB.g19;have c21:=hB.g21;have c22:=hB.g22;have c34:=hB.g34;have c45:=hB.g45;exact qd) ?_)
 refine pP hO ?_
 refine fJ hO rfl rfl rfl (fun K hK=> ?_)
 go_simp
 refine(fR p T M s _ hR1.1).mono ?_
 rintro e w2 ⟨rfl,h2⟩
 subst h2
 refine hK _ _ (hR1) (fun hR_13=> ?_)
 clear hK K
 refine pP hO ?_
 refine gC hO rfl rfl rfl (fun K hK=> ?_)
 refine eH 69 (.tmp 2) (.tmp 35) rfl g _ _ #[.int .i64 s.now,.int .i64 (s.lease:Int),.int .i64 (s.phase:Int),.int .u32 (s.address:Int),.int .i64 s.boots,.int .i64 (s.image.length:Int),.int .i64 s.lost,.int .i64 (s.cache.length:Int)] rfl rfl hR_13.2.1 rfl (by kernel_rfl) (by kernel_rfl) ?_
 intro w9 hx9 hf9
 refine hK _ _ ?_
 clear hK K
 refine bV (hQ' _ _ ?_)
 exact HK.out _ _ ⟨rfl,rfl⟩ kZ hx9 ((hR_13.2.2.of_no _).trans hf9)
theorem Fc (p T:Nat) (M:bQ) (s:St) (w:World) (h:aA w p T M s):
 Calls Tryz.prog 24 #[.pointer (some ⟨p,0,none⟩)] w fun e w'=>e= .returned (.agg #[.int .i64 s.now,.int .i64 (s.lease:Int),.int .i64 (s.phase:Int),.int .u32 (s.address:Int),.int .i64 s.boots,.int .i64 (s.image.length:Int),.int .i64 s.lost,.int .i64 (s.cache.length:Int)])∧bE p T M w s w':=by
 go_enter Tryz.func24,Tryz.ntmps24
 refine wp_seq ?_
 refine Lg _ w _ ⟨rfl,rfl⟩ ?_
 intro a1 w1 hs1 k1 o2 hf1 hG1
 refine wp_seq ?_
 refine Kf p T M s _ a1 w1 _ hs1 ((k1 0 (by decide)).trans rfl) o2 (h.none hf1) hG1 ?_
 intro a2 w2 hs2 k2 hG2 hf2
 have hF:Fr noB w w2:=hf1.trans' hf2 (fun b hb e=>by have e':b=w.heap.size:=e;omega)
 refine wp_ret ?_
 exact bodyPost_ret (results_cell_row Tryz.results24 _ w2 _ _ _ _ _ (k2.t o2) hG2 Tryz.underlying69 rfl (by kernel_rfl)) hs2.defers ⟨rfl,bE.of (h.none hF) (hF.of_no _)⟩
end Go.Proofs.YtcllkmllflheiaaGreatDoor
set_option maxRecDepth 20000
namespace Go.Proofs.YtcllkmllflheiaaGreatDoor
open Go.RowKit Go.Proofs
attribute [local go_sem] aG aD aE aF
abbrev enC (e:aS):Array Value:= #[.int .u32 (e.ip:Int),.int .u8 (e.card.1.toNat:Int),.int .u8 (e.card.2.1.toNat:Int),.int .u8 (e.card.2.2.1.toNat:Int),.int .u8 (e.card.2.2.2.1.toNat:Int),.int .u8 (e.card.2.2.2.2.1.toNat:Int),.int .u8 (e.card.2.2.2.2.2.toNat:Int),.bool e.known,.int .i64 e.due,.int .i64 e.asked,.string (bs e.waits)]
theorem GY {w:World} {A:Option Addr} {c k:Nat} {l:List aS} {e:aS} (h:w.ownsRow 0 114 11 (.slice A l.length c) l.length (xT l)) (hk:l[k]? =some e):
 ∃g,A=some ⟨g,0,none⟩∧l.length≤c∧(∀j,w.frozen? ⟨g,j,none⟩=false)∧∀j v,(enC e)[j]? =some v→w.cell? ⟨g,k*11+j,none⟩=some v:=by
 cases l with
 |nil=>cases hk
 |cons x r=>
  obtain⟨g,hA,hc,hat⟩:=fN (n:=r.length) h
  subst hA
  refine⟨g,rfl,hc,fun j=>rE h,fun j v hj=> ?_⟩
  refine hat _ v ?_
  have hj11:j<11:=by
   rcases Nat.lt_or_ge j 11 with y|y
   ·exact y
   ·rw[Array.getElem?_eq_none (by exact y)]at hj;cases hj
  rw[yT _ k e j hk hj11]
  rw[←hj];simp[Gf]
theorem Dp {l:List aS} {ip:Nat} (h:∀(j:Nat) (e:aS),l[j]? =some e→e.ip≠ip):lB l ip=none:=by
 unfold lB
 rw[List.find?_eq_none]
 intro x hx
 obtain⟨j,hj⟩:=List.getElem?_of_mem hx
 simpa using h j x hj
theorem vD:∀{l:List aS} {k ip:Nat} {e:aS},(∀j:Nat,j<k→∀e:aS,l[j]? =some e→e.ip≠ip)→l[k]? =some e→e.ip=ip→lB l ip=some e
 |[],_,_,_,_,h,_=>by cases h
 |x::r,0,ip,e,_,h,he=>by cases h;simp[lB,he]
 |x::r,k+1,ip,e,hb,h,he=>by
  have hx:x.ip≠ip:=hb 0 (by omega) x rfl
  have:=vD (l:=r) (k:=k) (fun j hj e he=>hb (j+1) (by omega) e he) h he
  unfold lB at this⊢
  rw[List.find?_cons]
  simp only[beq_eq_false_iff_ne.2 hx]
  exact this
def Gv (l:List aS) (ip:Nat) (r:Int):Prop:=(r= -1∧lB l ip=none)∨∃(k:Nat) (e:aS),r=k∧l[k]? =some e∧e.ip=ip∧lB l ip=some e
def nfF (u:Nat→Value):Act:=⟨#[u 0,u 1,u 2,u 3,u 4,u 5,u 6,u 7,u 8,u 9,u 10,u 11,u 12,u 13,u 14,u 15,u 16,u 17,u 18,u 19,u 20,u 21,u 22],[]⟩
set_option maxRecDepth 100000 in
theorem Ib (u:Nat→Value):nfF u=frN 23 u:=rfl
theorem mV {a:Act} (h:Sz 23 a):a=nfF (sl a):=h.eq.trans (Ib _).symm
theorem JR (a:Act) (w:World) (K:KT) (hs:Sz 23 a)
 (hK:∀a' w',Sz 23 a'→Kp [0,1,5,6,10,11,12] a a'→w'=w→K .normal a' w'):
 (aB Tryz.f98 0).wp Tryz.prog K a w:=by
 refine rgE hK (mV hs) fun HK=> ?_;clear hK hs
 simp only[nfF]
 go_wp2_with fail
 exact HK.out _ _ ⟨rfl,rfl⟩ kZ rfl
theorem Le (p T:Nat) (M:bQ) (s:St) (a:Act) (w:World) (K:KT) (hs:Sz 23 a)
 (h0:sl a 0= .pointer (some ⟨p,0,none⟩)) (h:aA w p T M s)
 (hK:∀a' w',Sz 23 a'→Kp [0,1,4,5,6] a a'→sl a' 10= .slice M.ca s.cache.length M.cac→sl a' 11= .int .i64 (s.cache.length:Int)→sl a' 12= .int .i64 ((0:Nat):Int)→w'=w→K .normal a' w'):
 (aB Tryz.f98 1).wp Tryz.prog K a w:=by
 refine rgE hK (mV hs) fun HK=> ?_;clear hK hs
 simp only[nfF,h0]
 have c21:=h.g21
 go_wp2_with fail
 exact HK.out _ _ ⟨rfl,rfl⟩ kZ (rfl) (rfl) (rfl) rfl
theorem Kv (k n:Nat) (a:Act) (w:World) (K:KT) (hs:Sz 23 a)
 (h11:sl a 11= .int .i64 (n:Int)) (h12:sl a 12= .int .i64 (k:Int))
 (hK:∀a' w',Sz 23 a'→Kp [0,1,4,5,6,10,11,12] a a'→sl a' 13= .bool (decide (k<n))→w'=w→K .normal a' w'):
 (aB Tryz.f98 2).wp Tryz.prog K a w:=by
 refine rgE hK (mV hs) fun HK=> ?_;clear hK hs
 simp only[nfF,h11,h12]
 have e:decide ((k:Int)<(n:Int))=decide (k<n):=by simp
 go_wp2_with fail
 exact HK.out _ _ ⟨rfl,rfl⟩ kZ (rfl) rfl
theorem Kx (g n c k:Nat) (e:aS) (a:Act) (w:World) (K:KT) (hs:Sz 23 a)
 (h10:sl a 10= .slice (some ⟨g,0,none⟩) n c) (h12:sl a 12= .int .i64 (k:Int)) (hk:k<n) (hat:∀j v,(enC e)[j]? =some v→w.cell? ⟨g,k*11+j,none⟩=some v)
 (hK:∀a' w',Sz 23 a'→Kp [0,1,4,10,11,12] a a'→sl a' 5= .int .i64 (k:Int)→sl a' 6= .pointer (some ⟨w.heap.size,0,none⟩)→Fr noB w w'→Bk w' w.heap.size 114 (enC e)→K .normal a' w'):
 (aB Tryz.f98 3).wp Tryz.prog K a w:=by
 refine rgE hK (mV hs) fun HK=> ?_;clear hK hs
 simp only[nfF,h10,h12]
 have q0:w.cell? ⟨g,k*11,none⟩=some (.int .u32 (e.ip:Int)):=hat 0 _ rfl
 have q1:w.cell? ⟨g,k*11+1,none⟩=some (.int .u8 (e.card.1.toNat:Int)):=hat 1 _ rfl
 have q2:w.cell? ⟨g,k*11+2,none⟩=some (.int .u8 (e.card.2.1.toNat:Int)):=hat 2 _ rfl
 have q3:w.cell? ⟨g,k*11+3,none⟩=some (.int .u8 (e.card.2.2.1.toNat:Int)):=hat 3 _ rfl
 have q4:w.cell? ⟨g,k*11+4,none⟩=some (.int .u8 (e.card.2.2.2.1.toNat:Int)):=hat 4 _ rfl
 have q5:w.cell? ⟨g,k*11+5,none⟩=some (.int .u8 (e.card.2.2.2.2.1.toNat:Int)):=hat 5 _ rfl
 have q6:w.cell? ⟨g,k*11+6,none⟩=some (.int .u8 (e.card.2.2.2.2.2.toNat:Int)):=hat 6 _ rfl
 have q7:w.cell? ⟨g,k*11+7,none⟩=some (.bool e.known):=hat 7 _ rfl
 have q8:w.cell? ⟨g,k*11+8,none⟩=some (.int .i64 e.due):=hat 8 _ rfl
 have q9:w.cell? ⟨g,k*11+9,none⟩=some (.int .i64 e.asked):=hat 9 _ rfl
 have q10:w.cell? ⟨g,k*11+10,none⟩=some (.string (bs e.waits)):=hat 10 _ rfl
 clear hat
 go_wp2_with (first|((refine aP rfl 114 (.tmp 6) (.tmp 16) rfl w.heap.size _ _ (enC e) rfl rfl (Bk.new w _ _) rfl (by kernel_rfl) (by kernel_rfl) ?_);intro w9 hx9 hf9))
 exact HK.out _ _ ⟨rfl,rfl⟩ kZ (rfl) (rfl) (((Fr.refl _ _).alloc _).trans' hf9 (fun b hb e=>by have e':b=w.heap.size:=e;omega)) hx9
theorem KC (g ip:Nat) (e:aS) (a:Act) (w:World) (K:KT) (hs:Sz 23 a)
 (h1:sl a 1= .int .u32 (ip:Int)) (h6:sl a 6= .pointer (some ⟨g,0,none⟩)) (hG:Bk w g 114 (enC e))
 (hK:∀a' w',Sz 23 a'→Kp [0,1,4,5,6,10,11,12] a a'→sl a' 20= .bool (decide (e.ip=ip))→w'=w→K .normal a' w'):
 (aB Tryz.f98 4).wp Tryz.prog K a w:=by
 refine rgE hK (mV hs) fun HK=> ?_;clear hK hs
 simp only[nfF,h1,h6]
 have q0:=hG.cell 0
 have e2:((e.ip:Int)==(ip:Int))=decide (e.ip=ip):=by rw[Bool.eq_iff_iff];simp;omega
 go_wp2_with fail
 exact HK.out _ _ ⟨rfl,rfl⟩ kZ (rfl) rfl
theorem KF (k:Nat) (a:Act) (w:World) (K:KT) (hs:Sz 23 a)
 (h5:sl a 5= .int .i64 (k:Int))
 (hK:∀a' w',Sz 23 a'→Kp [0,1,5,6,10,11,12] a a'→sl a' 4= .int .i64 (k:Int)→w'=w→K .normal a' w'):
 (aB Tryz.f98 5).wp Tryz.prog K a w:=by
 refine rgE hK (mV hs) fun HK=> ?_;clear hK hs
 simp only[nfF,h5]
 go_wp2_with fail
 exact HK.out _ _ ⟨rfl,rfl⟩ kZ (rfl) rfl
theorem Lm (k:Nat) (a:Act) (w:World) (K:KT) (hs:Sz 23 a)
 (h12:sl a 12= .int .i64 (k:Int)) (hk:k<9223372036854775807)
 (hK:∀a' w',Sz 23 a'→Kp [0,1,4,5,6,10,11] a a'→sl a' 12= .int .i64 ((k+1:Nat):Int)→w'=w→K .normal a' w'):
 (aB Tryz.f98 6).wp Tryz.prog K a w:=by
 refine rgE hK (mV hs) fun HK=> ?_;clear hK hs
 simp only[nfF,h12]
 clear h12
 have qw:IntKind.i64.wrap ((k:Int)+1)=((k+1:Nat):Int):=by rw[iQ];unfold wrap64;omega
 go_wp2_with fail
 exact HK.out _ _ ⟨rfl,rfl⟩ kZ (rfl) rfl
theorem KU (a:Act) (w:World) (K:KT) (hs:Sz 23 a)
 (hK:∀a' w',Sz 23 a'→Kp [0,1,5,6,10,11,12] a a'→sl a' 4= .int .i64 (-1)→w'=w→K .normal a' w'):
 (aB Tryz.f98 7).wp Tryz.prog K a w:=by
 refine rgE hK (mV hs) fun HK=> ?_;clear hK hs
 simp only[nfF]
 go_wp2_with fail
 exact HK.out _ _ ⟨rfl,rfl⟩ kZ (rfl) rfl
theorem Ff (p T:Nat) (M:bQ) (s:St) (ip:Nat) (w:World) (h:aA w p T M s):
 Calls Tryz.prog 98 #[.pointer (some ⟨p,0,none⟩),.int .u32 (ip:Int)] w fun e w'=>∃r,e= .returned (.int .i64 r)∧Gv s.cache ip r∧Fr noB w w':=by
 have hl4:=h.ok.cache
 go_enter Tryz.func98,Tryz.ntmps98
 refine wp_seq ?_
 refine JR _ w _ ⟨rfl,rfl⟩ ?_
 intro a0 w0 hs0 k0 hw;subst w0
 refine wp_seq ?_
 refine wp_seq ?_
 refine Le p T M s a0 w _ hs0 ((k0 0 (by decide)).trans rfl) h ?_
 intro a1 w1 hs1 k1 o10 o11 o12 hw;subst w1
 have e1:sl a1 1= .int .u32 (ip:Int):=k1.t ((k0 1 (by decide)).trans rfl)
 refine wp_block ?_
 refine fQ 23 (fun a' w'=>∃k:Nat,k≤s.cache.length∧sl a' 12= .int .i64 (k:Int)∧Kp [0,1,10,11] a1 a'∧(∀j,j<k→∀e,s.cache[j]? =some e→e.ip≠ip)∧Fr noB w w') (fun a' _=>s.cache.length-(intOf (sl a' 12)).toNat)
  hs1 ⟨0,Nat.zero_le _,o12,Kp.refl _ _,fun j hj=>absurd hj (Nat.not_lt_zero j),Fr.refl _ _⟩ ?_
 rintro b1 v1 hs1' ⟨k,hk,i12,j1,hnf,hfv⟩
 refine wp_seq ?_
 refine Kv k s.cache.length b1 v1 _ hs1' (j1.t o11) i12 ?_
 intro b2 v2 hs2 j2 i13 hw;subst v2
 have i12':=j2.t i12
 refine wp_seq ?_
 refine fK i13 (fun hb=> ?_) (fun hb=> ?_)
 rotate_left
 ·have hke:k=s.cache.length:=by have:=of_decide_eq_false hb;omega
  refine wp_exit (bD (bD (bU ?_)))
  refine wp_seq ?_
  refine KU b2 v1 _ hs2 ?_
  intro b3 v3 hs3 j3 i4 hw;subst v3
  refine wp_ret ?_
  refine bodyPost_ret (P:=Tryz.prog) (fn:=Tryz.f98) (R:=fun e w'=>∃r,e= .returned (.int .i64 r)∧Gv s.cache ip r∧Fr noB w w') (results_tmp rfl _ _ _) hs3.defers ⟨-1,by rw[show b3.tmps.getD 4 undef=_ from i4],.inl ⟨rfl,Dp fun j e he=>hnf j (by rw[hke];exact(List.getElem?_eq_some_iff.1 he).1) e he⟩,hfv⟩
 have hlt:k<s.cache.length:=of_decide_eq_true hb
 refine wp_skip ?_
 obtain⟨e,he⟩:∃e,s.cache[k]? =some e:=⟨_,List.getElem?_eq_getElem hlt⟩
 have hv:=h.none hfv
 obtain⟨g,hA,hc,hz,hat⟩:=GY hv.ca he
 refine wp_seq (wp_block (wp_seq ?_))
 refine Kx g s.cache.length M.cac k e b2 v1 _ hs2 (by rw[←hA];exact j2.t (j1.t o10)) i12' hlt hat ?_
 intro b3 v3 hs3 j3 i5 i6 hf3 hG3
 refine wp_seq ?_
 refine KC _ ip e b3 v3 _ hs3 (j3.t (j2.t (j1.t e1))) i6 hG3 ?_
 intro b4 v4 hs4 j4 i20 hw;subst v4
 refine fK i20 (fun hb=> ?_) (fun hb=> ?_)
 ·have hip:=of_decide_eq_true hb
  refine wp_seq ?_
  refine KF k b4 v3 _ hs4 (j4.t i5) ?_
  intro b5 v5 hs5 j5 i4 hw;subst v5
  refine wp_ret ?_
  refine bodyPost_ret (P:=Tryz.prog) (fn:=Tryz.f98) (R:=fun e w'=>∃r,e= .returned (.int .i64 r)∧Gv s.cache ip r∧Fr noB w w') (results_tmp rfl _ _ _) hs5.defers ⟨k,by rw[show b5.tmps.getD 4 undef=_ from i4],.inr ⟨k,e,rfl,he,hip,vD hnf he hip⟩,hfv.none hf3⟩
 ·have hip:=of_decide_eq_false hb
  refine wp_skip ?_
  have i12b:=j4.t (j3.t i12')
  refine Lm k b4 v3 _ hs4 i12b (by omega) ?_
  intro b5 v5 hs5 j5 i12c hw;subst v5
  refine⟨hs5,⟨k+1,hlt,i12c,fun x hx=>(j5 x (by revert hx;revert x;decide)).trans ((j4 x (by revert hx;revert x;decide)).trans ((j3 x (by revert hx;revert x;decide)).trans ((j2 x (by revert hx;revert x;decide)).trans (j1 x hx)))),fun j hj e' he'=> ?_,hfv.none hf3⟩,?_⟩
  ·rcases Nat.lt_or_ge j k with y|y
   ·exact hnf j y e' he'
   ·rw[show j=k by omega,he]at he';cases he';exact hip
  ·rw[i12c,i12];simp only[intOf];omega
end Go.Proofs.YtcllkmllflheiaaGreatDoor
set_option maxRecDepth 20000
namespace Go.Proofs.YtcllkmllflheiaaGreatDoor
open Go.RowKit Go.Proofs
attribute [local go_sem] aG aD aE aF
theorem uI (w:World) (cs:Array Value) (t:TypeId):∀j u,cs.toList[j]? =some u→(w.alloc (.cells cs t)).cell? ((⟨w.heap.size,0,none⟩:Addr).add j)=some u:=by
 intro j u hj
 have h:=(Bk.new w t cs).cell j
 rw[show((⟨w.heap.size,0,none⟩:Addr).add j)=⟨w.heap.size,j,none⟩ by cases j<;>simp[Addr.add],h]
 simpa using hj
end Go.Proofs.YtcllkmllflheiaaGreatDoor
set_option maxRecDepth 20000
namespace Go.Proofs.YtcllkmllflheiaaGreatDoor
open Go.RowKit Go.Proofs
attribute [local go_sem] aG aD aE aF
def New (f:Nat→Value) (base:Nat) (t:TypeId) (cs:Array Value) (v:Value) (w:World):Prop:=∃b,v=f b∧base≤b∧Bk w b t cs
def D7 (f:Nat→Value) (base:Nat) (t:TypeId) (n:Nat) (v:Value) (w:World):Prop:=∃b cs,v=f b∧base≤b∧Bk w b t cs∧cs.size=n
theorem New.keep {f:Nat→Value} {base:Nat} {t:TypeId} {cs:Array Value} {v:Value} {w w':World} (h:New f base t cs v w) (hf:Fr noB w w'):New f base t cs v w':=by
 obtain⟨b,h1,h2,h3⟩:=h;exact⟨b,h1,h2,h3.keep hf (fun x=>x)⟩
theorem D7.keep {f:Nat→Value} {base n:Nat} {t:TypeId} {v:Value} {w w':World} (h:D7 f base t n v w) (hf:Fr noB w w'):D7 f base t n v w':=by
 obtain⟨b,cs,h1,h2,h3,h4⟩:=h;exact⟨b,cs,h1,h2,h3.keep hf (fun x=>x),h4⟩
theorem New.one {f:Nat→Value} {base g:Nat} {t t':TypeId} {cs cs':Array Value} {v:Value} {w w':World} (h:New f base t cs v w) (hg:Bk w g t' cs') (ht:t≠t') (hf:Fr (aJ g) w w'):New f base t cs v w':=by
 obtain⟨b,h1,h2,h3⟩:=h
 refine⟨b,h1,h2,h3.keep hf (fun e=>ht ?_)⟩
 have e':b=g:=e
 subst e'
 have:=h3.symm.trans hg
 injection this with this;injection this
theorem D7.one {f:Nat→Value} {base g n:Nat} {t:TypeId} {cs:Array Value} {v:Value} {w w':World} (h:D7 f base t n v w) (hg:Bk w' g t cs) (hn:cs.size=n) (hf:Fr (aJ g) w w'):D7 f base t n v w':=by
 obtain⟨b,cs',h1,h2,h3,h4⟩:=h
 by_cases e:b=g
 ·subst e;exact⟨b,cs,h1,h2,hg,hn⟩
 ·exact⟨b,cs',h1,h2,h3.keep hf e,h4⟩
def nsF (u:Nat→Value):Act:=⟨#[u 0,u 1,u 2,u 3,u 4,u 5,u 6,u 7,u 8,u 9,u 10,u 11,u 12,u 13,u 14,u 15,u 16,u 17,u 18,u 19,u 20,u 21,u 22,u 23,u 24,u 25,u 26,u 27,u 28,u 29,u 30,u 31,u 32,u 33,u 34,u 35,u 36,u 37,u 38,u 39,u 40,u 41,u 42,u 43,u 44,u 45,u 46,u 47,u 48,u 49,u 50,u 51,u 52,u 53,u 54,u 55,u 56,u 57,u 58,u 59,u 60,u 61,u 62,u 63,u 64,u 65,u 66,u 67,u 68,u 69],[]⟩
set_option maxRecDepth 100000 in
theorem GI (u:Nat→Value):nsF u=frN 70 u:=rfl
theorem iX {a:Act} (h:Sz 70 a):a=nsF (sl a):=h.eq.trans (GI _).symm
theorem J7 (p T:Nat) (M:bQ) (s:St) (kind:UInt8) (a:Act) (w:World) (K:KT) (hs:Sz 70 a)
 (h0:sl a 0= .pointer (some ⟨p,0,none⟩)) (h1:sl a 1= .int .u8 (kind.toNat:Int)) (h:aA w p T M s)
 (hK:∀a' w' (g b:Nat),Sz 70 a'→Kp [0,1,2,3,11,12,30,31,32] a a'→sl a' 8= .pointer (some ⟨g,0,none⟩)→w.heap.size≤g→w.heap.size≤b→Bk w' g 139 #[.bool false,.int .u32 (s.xid:Int),.int .u32 (s.address:Int),.int .u32 0,.int .u32 0,.int .u8 (s.c.card.1.toNat:Int),.int .u8 (s.c.card.2.1.toNat:Int),.int .u8 (s.c.card.2.2.1.toNat:Int),.int .u8 (s.c.card.2.2.2.1.toNat:Int),.int .u8 (s.c.card.2.2.2.2.1.toNat:Int),.int .u8 (s.c.card.2.2.2.2.2.toNat:Int),.slice (some ⟨b,0,none⟩) 1 1]→Bk w' b 157 #[.int .u8 53,.string (bs [kind])]→aA w' p T M s→Fr noB w w'→K .normal a' w'):
 (aB Tryz.f66 0).wp Tryz.prog K a w:=by
 unfold Kp at hK;refine rgE hK (iX hs) fun HK=> ?_;clear hK hs;generalize sl a=u at*
 simp only[nsF,h0,h1]
 obtain⟨V,hV⟩:∃V:Nat→Value,V=(fun jj=>match jj with|0=> .pointer (some ⟨p,0,none⟩)|1=> .pointer (some ⟨p,0,none⟩)|2=> .pointer (some ⟨p,23,none⟩)|3=> .int .u32 (s.xid:Int)|4=> .pointer (some ⟨p,0,none⟩)|5=> .int .u32 (s.address:Int)|6=> .pointer (some ⟨p,0,none⟩)|7=> .pointer (some ⟨p,0,none⟩)|8=> .pointer (some ⟨p,1,none⟩)|9=> .pointer (some ⟨p,1,none⟩)|10=> .agg #[.int .u8 (s.c.card.1.toNat:Int),.int .u8 (s.c.card.2.1.toNat:Int),.int .u8 (s.c.card.2.2.1.toNat:Int),.int .u8 (s.c.card.2.2.2.1.toNat:Int),.int .u8 (s.c.card.2.2.2.2.1.toNat:Int),.int .u8 (s.c.card.2.2.2.2.2.toNat:Int)]|11=> .int .u8 (kind.toNat:Int)|13=> .string (bs [kind])|14=> .agg #[.int .u8 53,.string (bs [kind])]|_=>undef):=⟨_,rfl⟩
 have q_0:V 0= .pointer (some ⟨p,0,none⟩):=congrFun hV 0
 have q_1:V 1= .pointer (some ⟨p,0,none⟩):=congrFun hV 1
 have q_2:V 2= .pointer (some ⟨p,23,none⟩):=congrFun hV 2
 have q_3:V 3= .int .u32 (s.xid:Int):=congrFun hV 3
 have q_4:V 4= .pointer (some ⟨p,0,none⟩):=congrFun hV 4
 have q_5:V 5= .int .u32 (s.address:Int):=congrFun hV 5
 have q_6:V 6= .pointer (some ⟨p,0,none⟩):=congrFun hV 6
 have q_7:V 7= .pointer (some ⟨p,0,none⟩):=congrFun hV 7
 have q_8:V 8= .pointer (some ⟨p,1,none⟩):=congrFun hV 8
 have q_9:V 9= .pointer (some ⟨p,1,none⟩):=congrFun hV 9
 have q_10:V 10= .agg #[.int .u8 (s.c.card.1.toNat:Int),.int .u8 (s.c.card.2.1.toNat:Int),.int .u8 (s.c.card.2.2.1.toNat:Int),.int .u8 (s.c.card.2.2.2.1.toNat:Int),.int .u8 (s.c.card.2.2.2.2.1.toNat:Int),.int .u8 (s.c.card.2.2.2.2.2.toNat:Int)]:=congrFun hV 10
 have q_11:V 11= .int .u8 (kind.toNat:Int):=congrFun hV 11
 have q_13:V 13= .string (bs [kind]):=congrFun hV 13
 have q_14:V 14= .agg #[.int .u8 53,.string (bs [kind])]:=congrFun hV 14
 have q_18:V 18=undef:=congrFun hV 18
 clear hV
 have hmono:∀(j:Nat) (v:Value) (w4 w5:World),Fr noB w4 w5→((fun j v w4=>if j=12 then New (fun b=> .slice (some ⟨b,0,none⟩) 1 1) w.heap.size 5 #[.int .u8 (kind.toNat:Int)] v w4 else if j=15 then New (fun b=> .slice (some ⟨b,0,none⟩) 1 1) w.heap.size 157 #[.int .u8 53,.string (bs [kind])] v w4 else if j=16 then New (fun b=> .agg #[.bool false,.int .u32 (s.xid:Int),.int .u32 (s.address:Int),.int .u32 0,.int .u32 0,.int .u8 (s.c.card.1.toNat:Int),.int .u8 (s.c.card.2.1.toNat:Int),.int .u8 (s.c.card.2.2.1.toNat:Int),.int .u8 (s.c.card.2.2.2.1.toNat:Int),.int .u8 (s.c.card.2.2.2.2.1.toNat:Int),.int .u8 (s.c.card.2.2.2.2.2.toNat:Int),.slice (some ⟨b,0,none⟩) 1 1]) w.heap.size 157 #[.int .u8 53,.string (bs [kind])] v w4 else if j=17 then D7 (fun b=> .pointer (some ⟨b,0,none⟩)) w.heap.size 139 12 v w4 else v=V j):Nat→Value→World→Prop) j v w4→((fun j v w4=>if j=12 then New (fun b=> .slice (some ⟨b,0,none⟩) 1 1) w.heap.size 5 #[.int .u8 (kind.toNat:Int)] v w4 else if j=15 then New (fun b=> .slice (some ⟨b,0,none⟩) 1 1) w.heap.size 157 #[.int .u8 53,.string (bs [kind])] v w4 else if j=16 then New (fun b=> .agg #[.bool false,.int .u32 (s.xid:Int),.int .u32 (s.address:Int),.int .u32 0,.int .u32 0,.int .u8 (s.c.card.1.toNat:Int),.int .u8 (s.c.card.2.1.toNat:Int),.int .u8 (s.c.card.2.2.1.toNat:Int),.int .u8 (s.c.card.2.2.2.1.toNat:Int),.int .u8 (s.c.card.2.2.2.2.1.toNat:Int),.int .u8 (s.c.card.2.2.2.2.2.toNat:Int),.slice (some ⟨b,0,none⟩) 1 1]) w.heap.size 157 #[.int .u8 53,.string (bs [kind])] v w4 else if j=17 then D7 (fun b=> .pointer (some ⟨b,0,none⟩)) w.heap.size 139 12 v w4 else v=V j):Nat→Value→World→Prop) j v w5:=by
  intro j v w4 w5 hf hx
  try dsimp only at hx⊢
  by_cases h12:j=12
  ·subst h12;simp only[reduceIte,Nat.reduceEqDiff]at hx⊢;exact hx.keep hf
  by_cases h15:j=15
  ·subst h15;simp only[reduceIte,Nat.reduceEqDiff]at hx⊢;exact hx.keep hf
  by_cases h16:j=16
  ·subst h16;simp only[reduceIte,Nat.reduceEqDiff]at hx⊢;exact hx.keep hf
  by_cases h17:j=17
  ·subst h17;simp only[reduceIte,Nat.reduceEqDiff]at hx⊢;exact hx.keep hf
  simp only[h12,h15,h16,h17,reduceIte]at hx⊢;exact hx
 refine pJ (by kernel_rfl) (by kernel_rfl) (by kernel_rfl)
  (fun y=>⟨List.toArray (.pointer (some ⟨p,0,none⟩):: .int .u8 (kind.toNat:Int)::u 2::u 3::u 4::u 5::u 6::u 7::y 17::u 9::u 10::u 11::u 12::y 0::y 1::y 2::y 3::y 4::y 5::y 6::y 7::y 8::y 9::y 10::y 11::y 12::y 13::y 14::y 15::y 16::u 30::u 31::u 32::u 33::u 34::u 35::u 36::u 37::u 38::u 39::u 40::u 41::u 42::u 43::u 44::u 45::u 46::u 47::u 48::u 49::u 50::u 51::u 52::u 53::u 54::u 55::u 56::u 57::u 58::u 59::u 60::u 61::u 62::u 63::u 64::u 65::u 66::u 67::u 68::u 69::[]),[]⟩)
  (fun j v w4=>if j=12 then New (fun b=> .slice (some ⟨b,0,none⟩) 1 1) w.heap.size 5 #[.int .u8 (kind.toNat:Int)] v w4 else if j=15 then New (fun b=> .slice (some ⟨b,0,none⟩) 1 1) w.heap.size 157 #[.int .u8 53,.string (bs [kind])] v w4 else if j=16 then New (fun b=> .agg #[.bool false,.int .u32 (s.xid:Int),.int .u32 (s.address:Int),.int .u32 0,.int .u32 0,.int .u8 (s.c.card.1.toNat:Int),.int .u8 (s.c.card.2.1.toNat:Int),.int .u8 (s.c.card.2.2.1.toNat:Int),.int .u8 (s.c.card.2.2.2.1.toNat:Int),.int .u8 (s.c.card.2.2.2.2.1.toNat:Int),.int .u8 (s.c.card.2.2.2.2.2.toNat:Int),.slice (some ⟨b,0,none⟩) 1 1]) w.heap.size 157 #[.int .u8 53,.string (bs [kind])] v w4 else if j=17 then D7 (fun b=> .pointer (some ⟨b,0,none⟩)) w.heap.size 139 12 v w4 else v=V j)
  (fun L y w4=>(aA w4 p T M s)∧Fr noB w w4∧(L 18=true→∃g b,y 17= .pointer (some ⟨g,0,none⟩)∧w.heap.size≤g∧w.heap.size≤b∧Bk w4 g 139 #[.bool false,.int .u32 (s.xid:Int),.int .u32 (s.address:Int),.int .u32 0,.int .u32 0,.int .u8 (s.c.card.1.toNat:Int),.int .u8 (s.c.card.2.1.toNat:Int),.int .u8 (s.c.card.2.2.1.toNat:Int),.int .u8 (s.c.card.2.2.2.1.toNat:Int),.int .u8 (s.c.card.2.2.2.2.1.toNat:Int),.int .u8 (s.c.card.2.2.2.2.2.toNat:Int),.slice (some ⟨b,0,none⟩) 1 1]∧Bk w4 b 157 #[.int .u8 53,.string (bs [kind])])) (fun j=>(([u 13,u 14,u 15,u 16,u 17,u 18,u 19,u 20,u 21,u 22,u 23,u 24,u 25,u 26,u 27,u 28,u 29,u 8,undef]:List Value).getD j undef)) ⟨h.drew,(Fr.refl _ _).drew,fun h=>by cases h⟩ ?_ ?_
 ·rintro L y w4 i o hcl ⟨hB,hF,hT⟩ hΦ ho hL hd K2 hK2
  match i,ho with
  |0,ho=>
   simp at ho;subst ho
   have hns:¬L 18=true:=fun h=>by have h2:=hcl.dep 18 0 h (by rfl);rw[hL]at h2;cases h2
   clear hΦ hd hT
   have HMo:=Lib.hid hmono;clear hmono
   have HB:=Lib.hid hB;have HF:=Lib.hid hF;clear hB hF
   first|go_big_move|go_big_op
   exact hK2 _ _ (by simp only[reduceIte,Nat.reduceEqDiff];exact q_0.symm) ⟨HB.out,HF.out,fun h=>absurd (show L 18=true from h) hns⟩ (fun _ _ _ h=>h)
  |1,ho=>
   simp at ho;subst ho
   have hu0:=hΦ 0 (hd ⟨0,.data⟩ (by simp) (by rfl))
   simp only[reduceIte,Nat.reduceEqDiff]at hu0
   rw[q_0]at hu0
   have hns:¬L 18=true:=fun h=>by have h2:=hcl.dep 18 1 h (by rfl);rw[hL]at h2;cases h2
   clear hΦ hd hT
   have HMo:=Lib.hid hmono;clear hmono
   have HB:=Lib.hid hB;have HF:=Lib.hid hF;clear hB hF
   first|go_big_move|go_big_op
   exact hK2 _ _ (by simp only[reduceIte,Nat.reduceEqDiff];exact q_1.symm) ⟨HB.out,HF.out,fun h=>absurd (show L 18=true from h) hns⟩ (fun _ _ _ h=>h)
  |2,ho=>
   simp at ho;subst ho
   have hu1:=hΦ 1 (hd ⟨1,.data⟩ (by simp) (by rfl))
   simp only[reduceIte,Nat.reduceEqDiff]at hu1
   rw[q_1]at hu1
   have hns:¬L 18=true:=fun h=>by have h2:=hcl.dep 18 2 h (by rfl);rw[hL]at h2;cases h2
   clear hΦ hd hT
   have HMo:=Lib.hid hmono;clear hmono
   have HB:=Lib.hid hB;have HF:=Lib.hid hF;clear hB hF
   first|go_big_move|go_big_op
   exact hK2 _ _ (by simp only[reduceIte,Nat.reduceEqDiff];exact q_2.symm) ⟨HB.out,HF.out,fun h=>absurd (show L 18=true from h) hns⟩ (fun _ _ _ h=>h)
  |3,ho=>
   simp at ho;subst ho
   have hu2:=hΦ 2 (hd ⟨2,.data⟩ (by simp) (by rfl))
   simp only[reduceIte,Nat.reduceEqDiff]at hu2
   rw[q_2]at hu2
   have hns:¬L 18=true:=fun h=>by have h2:=hcl.dep 18 3 h (by rfl);rw[hL]at h2;cases h2
   clear hΦ hd hT
   have HMo:=Lib.hid hmono;clear hmono
   have c23:=hB.g23
   have HB:=Lib.hid hB;have HF:=Lib.hid hF;clear hB hF
   first|go_big_move|go_big_op
   exact hK2 _ _ (by simp only[reduceIte,Nat.reduceEqDiff];exact q_3.symm) ⟨HB.out,HF.out,fun h=>absurd (show L 18=true from h) hns⟩ (fun _ _ _ h=>h)
  |4,ho=>
   simp at ho;subst ho
   have hns:¬L 18=true:=fun h=>by have h2:=hcl.dep 18 4 h (by rfl);rw[hL]at h2;cases h2
   clear hΦ hd hT
   have HMo:=Lib.hid hmono;clear hmono
   have HB:=Lib.hid hB;have HF:=Lib.hid hF;clear hB hF
   first|go_big_move|go_big_op
   exact hK2 _ _ (by simp only[reduceIte,Nat.reduceEqDiff];exact q_4.symm) ⟨HB.out,HF.out,fun h=>absurd (show L 18=true from h) hns⟩ (fun _ _ _ h=>h)
  |5,ho=>
   simp at ho;subst ho
   have hu4:=hΦ 4 (hd ⟨4,.data⟩ (by simp) (by rfl))
   simp only[reduceIte,Nat.reduceEqDiff]at hu4
   rw[q_4]at hu4
   have hns:¬L 18=true:=fun h=>by have h2:=hcl.dep 18 5 h (by rfl);rw[hL]at h2;cases h2
   clear hΦ hd hT
   have HMo:=Lib.hid hmono;clear hmono
   have hcall:=fR p T M s w4 hB
   have HB:=Lib.hid hB;have HF:=Lib.hid hF;have HC:=Lib.hid (show Calls Tryz.prog 51 #[y 4] w4 _ by rw[hu4];exact hcall);clear hB hF hcall hu4
   go_simp
   refine HC.out.mono ?_
   rintro e w5 ⟨rfl,hw⟩
   subst w5
   refine hK2 _ _ (by simp only[reduceIte,Nat.reduceEqDiff];exact q_5.symm) ⟨HB.out,HF.out,fun h=>absurd (show L 18=true from h) hns⟩ (fun _ _ _ h=>h)
  |6,ho=>
   simp at ho;subst ho
   have hns:¬L 18=true:=fun h=>by have h2:=hcl.dep 18 6 h (by rfl);rw[hL]at h2;cases h2
   clear hΦ hd hT
   have HMo:=Lib.hid hmono;clear hmono
   have HB:=Lib.hid hB;have HF:=Lib.hid hF;clear hB hF
   first|go_big_move|go_big_op
   exact hK2 _ _ (by simp only[reduceIte,Nat.reduceEqDiff];exact q_6.symm) ⟨HB.out,HF.out,fun h=>absurd (show L 18=true from h) hns⟩ (fun _ _ _ h=>h)
  |7,ho=>
   simp at ho;subst ho
   have hu6:=hΦ 6 (hd ⟨6,.data⟩ (by simp) (by rfl))
   simp only[reduceIte,Nat.reduceEqDiff]at hu6
   rw[q_6]at hu6
   have hns:¬L 18=true:=fun h=>by have h2:=hcl.dep 18 7 h (by rfl);rw[hL]at h2;cases h2
   clear hΦ hd hT
   have HMo:=Lib.hid hmono;clear hmono
   have HB:=Lib.hid hB;have HF:=Lib.hid hF;clear hB hF
   first|go_big_move|go_big_op
   exact hK2 _ _ (by simp only[reduceIte,Nat.reduceEqDiff];exact q_7.symm) ⟨HB.out,HF.out,fun h=>absurd (show L 18=true from h) hns⟩ (fun _ _ _ h=>h)
  |8,ho=>
   simp at ho;subst ho
   have hu7:=hΦ 7 (hd ⟨7,.data⟩ (by simp) (by rfl))
   simp only[reduceIte,Nat.reduceEqDiff]at hu7
   rw[q_7]at hu7
   have hns:¬L 18=true:=fun h=>by have h2:=hcl.dep 18 8 h (by rfl);rw[hL]at h2;cases h2
   clear hΦ hd hT
   have HMo:=Lib.hid hmono;clear hmono
   have HB:=Lib.hid hB;have HF:=Lib.hid hF;clear hB hF
   first|go_big_move|go_big_op
   exact hK2 _ _ (by simp only[reduceIte,Nat.reduceEqDiff];exact q_8.symm) ⟨HB.out,HF.out,fun h=>absurd (show L 18=true from h) hns⟩ (fun _ _ _ h=>h)
  |9,ho=>
   simp at ho;subst ho
   have hu8:=hΦ 8 (hd ⟨8,.data⟩ (by simp) (by rfl))
   simp only[reduceIte,Nat.reduceEqDiff]at hu8
   rw[q_8]at hu8
   have hns:¬L 18=true:=fun h=>by have h2:=hcl.dep 18 9 h (by rfl);rw[hL]at h2;cases h2
   clear hΦ hd hT
   have HMo:=Lib.hid hmono;clear hmono
   have HB:=Lib.hid hB;have HF:=Lib.hid hF;clear hB hF
   first|go_big_move|go_big_op
   exact hK2 _ _ (by simp only[reduceIte,Nat.reduceEqDiff];exact q_9.symm) ⟨HB.out,HF.out,fun h=>absurd (show L 18=true from h) hns⟩ (fun _ _ _ h=>h)
  |10,ho=>
   simp at ho;subst ho
   have hu9:=hΦ 9 (hd ⟨9,.data⟩ (by simp) (by rfl))
   simp only[reduceIte,Nat.reduceEqDiff]at hu9
   rw[q_9]at hu9
   have hns:¬L 18=true:=fun h=>by have h2:=hcl.dep 18 10 h (by rfl);rw[hL]at h2;cases h2
   clear hΦ hd hT
   have HMo:=Lib.hid hmono;clear hmono
   have c1:=hB.g1;have c2:=hB.g2;have c3:=hB.g3;have c4:=hB.g4;have c5:=hB.g5;have c6:=hB.g6
   have HB:=Lib.hid hB;have HF:=Lib.hid hF;clear hB hF
   first|go_big_move|go_big_op
   exact hK2 _ _ (by simp only[reduceIte,Nat.reduceEqDiff];exact q_10.symm) ⟨HB.out,HF.out,fun h=>absurd (show L 18=true from h) hns⟩ (fun _ _ _ h=>h)
  |11,ho=>
   simp at ho;subst ho
   have hns:¬L 18=true:=fun h=>by have h2:=hcl.dep 18 11 h (by rfl);rw[hL]at h2;cases h2
   clear hΦ hd hT
   have HMo:=Lib.hid hmono;clear hmono
   have HB:=Lib.hid hB;have HF:=Lib.hid hF;clear hB hF
   first|go_big_move|go_big_op
   exact hK2 _ _ (by simp only[reduceIte,Nat.reduceEqDiff];exact q_11.symm) ⟨HB.out,HF.out,fun h=>absurd (show L 18=true from h) hns⟩ (fun _ _ _ h=>h)
  |12,ho=>
   simp at ho;subst ho
   have hu11:=hΦ 11 (hd ⟨11,.data⟩ (by simp) (by rfl))
   simp only[reduceIte,Nat.reduceEqDiff]at hu11
   rw[q_11]at hu11
   have hns:¬L 18=true:=fun h=>by have h2:=hcl.dep 18 12 h (by rfl);rw[hL]at h2;cases h2
   clear hΦ hd hT
   have HMo:=Lib.hid hmono;clear hmono
   have hfr:Fr noB w4 (w4.alloc (.cells #[.int .u8 (kind.toNat:Int)] 5)):=(Fr.refl _ _).alloc _
   have hnew:=Bk.new w4 5 #[.int .u8 (kind.toNat:Int)]
   have hbs:=hF.size
   have HB:=Lib.hid (hB.none hfr);have HF:=Lib.hid (hF.none hfr);have HN:=Lib.hid hnew;have HR:=Lib.hid hfr;have HS:=Lib.hid hbs;clear hB hF hnew hfr hbs
   first|go_big_move|go_big_op
   refine hK2 _ _ (by simp only[reduceIte,Nat.reduceEqDiff];exact⟨_,rfl,HS.out,HN.out⟩) ⟨HB.out,HF.out,fun h=>absurd (show L 18=true from h) hns⟩ (fun j x _ h=>HMo.out j x _ _ HR.out h)
  |13,ho=>
   simp at ho;subst ho
   have hu12:=hΦ 12 (hd ⟨12,.data⟩ (by simp) (by rfl))
   simp only[reduceIte,Nat.reduceEqDiff]at hu12
   have hns:¬L 18=true:=fun h=>by have h2:=hcl.dep 18 13 h (by rfl);rw[hL]at h2;cases h2
   clear hΦ hd hT
   have HMo:=Lib.hid hmono;clear hmono
   obtain⟨b,hb1,hb2,hb3⟩:=hu12
   have hcv:(convert 55 9 (.slice (some ⟨b,0,none⟩) 1 1)).run Tryz.prog w4= .ok (.string (bs [kind])) w4:=gT w4 _ _ 5 Tryz.underlying55 Tryz.underlying5 Tryz.underlying9 noB (some ⟨b,0,none⟩) 1 1 [kind] ⟨rfl,fun _=>⟨_,rfl,hb3.lt,(fun x=>x),fun j u hj=>by
    have:=hb3.cell j
    rw[show((⟨b,0,none⟩:Addr).add j)=⟨b,j,none⟩ by cases j<;>simp[Addr.add],this]
    simpa[u8s,u8v]using hj⟩⟩ (.inr ⟨b,0,rfl⟩)
   have HB:=Lib.hid hB;have HF:=Lib.hid hF;clear hB hF hb2 hb3
   first|go_big_move|go_big_op
   exact hK2 _ _ (by simp only[reduceIte,Nat.reduceEqDiff];exact q_13.symm) ⟨HB.out,HF.out,fun h=>absurd (show L 18=true from h) hns⟩ (fun _ _ _ h=>h)
  |14,ho=>
   simp at ho;subst ho
   have hu13:=hΦ 13 (hd ⟨13,.data⟩ (by simp) (by rfl))
   simp only[reduceIte,Nat.reduceEqDiff]at hu13
   rw[q_13]at hu13
   have hns:¬L 18=true:=fun h=>by have h2:=hcl.dep 18 14 h (by rfl);rw[hL]at h2;cases h2
   clear hΦ hd hT
   have HMo:=Lib.hid hmono;clear hmono
   have HB:=Lib.hid hB;have HF:=Lib.hid hF;clear hB hF
   first|go_big_move|go_big_op
   exact hK2 _ _ (by simp only[reduceIte,Nat.reduceEqDiff];exact q_14.symm) ⟨HB.out,HF.out,fun h=>absurd (show L 18=true from h) hns⟩ (fun _ _ _ h=>h)
  |15,ho=>
   simp at ho;subst ho
   have hu14:=hΦ 14 (hd ⟨14,.data⟩ (by simp) (by rfl))
   simp only[reduceIte,Nat.reduceEqDiff]at hu14
   rw[q_14]at hu14
   have hns:¬L 18=true:=fun h=>by have h2:=hcl.dep 18 15 h (by rfl);rw[hL]at h2;cases h2
   clear hΦ hd hT
   have HMo:=Lib.hid hmono;clear hmono
   have hfr:Fr noB w4 (w4.alloc (.cells #[.int .u8 53,.string (bs [kind])] 157)):=(Fr.refl _ _).alloc _
   have hnew:=Bk.new w4 157 #[.int .u8 53,.string (bs [kind])]
   have hbs:=hF.size
   have HB:=Lib.hid (hB.none hfr);have HF:=Lib.hid (hF.none hfr);have HN:=Lib.hid hnew;have HR:=Lib.hid hfr;have HS:=Lib.hid hbs;clear hB hF hnew hfr hbs
   first|go_big_move|go_big_op
   refine hK2 _ _ (by simp only[reduceIte,Nat.reduceEqDiff];exact⟨_,rfl,HS.out,HN.out⟩) ⟨HB.out,HF.out,fun h=>absurd (show L 18=true from h) hns⟩ (fun j x _ h=>HMo.out j x _ _ HR.out h)
  |16,ho=>
   simp at ho;subst ho
   have hu3:=hΦ 3 (hd ⟨3,.data⟩ (by simp) (by rfl))
   simp only[reduceIte,Nat.reduceEqDiff]at hu3
   rw[q_3]at hu3
   have hu5:=hΦ 5 (hd ⟨5,.data⟩ (by simp) (by rfl))
   simp only[reduceIte,Nat.reduceEqDiff]at hu5
   rw[q_5]at hu5
   have hu10:=hΦ 10 (hd ⟨10,.data⟩ (by simp) (by rfl))
   simp only[reduceIte,Nat.reduceEqDiff]at hu10
   rw[q_10]at hu10
   have hu15:=hΦ 15 (hd ⟨15,.data⟩ (by simp) (by rfl))
   simp only[reduceIte,Nat.reduceEqDiff]at hu15
   have hns:¬L 18=true:=fun h=>by have h2:=hcl.dep 18 16 h (by rfl);rw[hL]at h2;cases h2
   clear hΦ hd hT
   have HMo:=Lib.hid hmono;clear hmono
   obtain⟨b,hb1,hb2,hb3⟩:=hu15
   have HB:=Lib.hid hB;have HF:=Lib.hid hF;have H2:=Lib.hid hb2;have H3:=Lib.hid hb3;clear hB hF hb2 hb3
   first|go_big_move|go_big_op
   exact hK2 _ _ (by simp only[reduceIte,Nat.reduceEqDiff];exact⟨b,rfl,H2.out,H3.out⟩) ⟨HB.out,HF.out,fun h=>absurd (show L 18=true from h) hns⟩ (fun _ _ _ h=>h)
  |17,ho=>
   simp at ho;subst ho
   have hns:¬L 18=true:=fun h=>by have h2:=hcl.dep 18 17 h (by rfl);rw[hL]at h2;cases h2
   clear hΦ hd hT
   have HMo:=Lib.hid hmono;clear hmono
   have hfr:Fr noB w4 (w4.alloc (.cells #[.bool false,.int .u32 0,.int .u32 0,.int .u32 0,.int .u32 0,.int .u8 0,.int .u8 0,.int .u8 0,.int .u8 0,.int .u8 0,.int .u8 0,.slice none 0 0] 139)):=(Fr.refl _ _).alloc _
   have hnew:=Bk.new w4 139 #[.bool false,.int .u32 0,.int .u32 0,.int .u32 0,.int .u32 0,.int .u8 0,.int .u8 0,.int .u8 0,.int .u8 0,.int .u8 0,.int .u8 0,.slice none 0 0]
   have hbs:=hF.size
   have HB:=Lib.hid (hB.none hfr);have HF:=Lib.hid (hF.none hfr);have HN:=Lib.hid hnew;have HR:=Lib.hid hfr;have HS:=Lib.hid hbs;clear hB hF hnew hfr hbs
   first|go_big_move|go_big_op
   refine hK2 _ _ (by simp only[reduceIte,Nat.reduceEqDiff];exact⟨_,_,rfl,HS.out,HN.out,rfl⟩) ⟨HB.out,HF.out,fun h=>absurd (show L 18=true from h) hns⟩ (fun j x _ h=>HMo.out j x _ _ HR.out h)
  |18,ho=>
   simp at ho;subst ho
   have hu16:=hΦ 16 (hd ⟨16,.data⟩ (by simp) (by rfl))
   simp only[reduceIte,Nat.reduceEqDiff]at hu16
   have hu17:=hΦ 17 (hd ⟨17,.data⟩ (by simp) (by rfl))
   simp only[reduceIte,Nat.reduceEqDiff]at hu17
   clear hΦ hd hT
   have HMo:=Lib.hid hmono;clear hmono
   obtain⟨g,cs,hg1,hg2,hg3,hg4⟩:=hu17
   obtain⟨b,hb1,hb2,hb3⟩:=hu16
   have hs:=hF.size
   refine eH 139 (.tmp 8) (.tmp 29) rfl g 139 cs #[.bool false,.int .u32 (s.xid:Int),.int .u32 (s.address:Int),.int .u32 0,.int .u32 0,.int .u8 (s.c.card.1.toNat:Int),.int .u8 (s.c.card.2.1.toNat:Int),.int .u8 (s.c.card.2.2.1.toNat:Int),.int .u8 (s.c.card.2.2.2.1.toNat:Int),.int .u8 (s.c.card.2.2.2.2.1.toNat:Int),.int .u8 (s.c.card.2.2.2.2.2.toNat:Int),.slice (some ⟨b,0,none⟩) 1 1] hg1 hb1 hg3 hg4.symm (by kernel_rfl) (by kernel_rfl) ?_
   intro w9 hx9 hf9
   have hne:b≠g:=fun e=>by subst e;have:=hg3.symm.trans hb3;injection this with this;injection this with _ this;exact absurd this (by decide)
   have hb9:=hb3.keep hf9 hne
   have hlt:=h.lt
   refine hK2 _ _ (by simp only[reduceIte,Nat.reduceEqDiff];exact q_18.symm) ⟨hB.keep hf9 (fun x hx e=>by have:=hlt x hx;have e':x=g:=e;omega) (fun e=>by have:=h.all.1;have e':_=g:=e;omega),hF.trans' hf9 (fun x hx e=>by have e':x=g:=e;omega),fun _=>⟨g,b,hg1,hg2,hb2,hx9,hb9⟩⟩ (fun j x hj hx=> ?_)
   have hg3':=hg3
   by_cases h12:j=12
   ·subst h12;simp only[reduceIte,Nat.reduceEqDiff]at hx⊢;exact hx.one hg3 (by decide) hf9
   by_cases h15:j=15
   ·subst h15;simp only[reduceIte,Nat.reduceEqDiff]at hx⊢;exact hx.one hg3 (by decide) hf9
   by_cases h16:j=16
   ·subst h16;simp only[reduceIte,Nat.reduceEqDiff]at hx⊢;exact hx.one hg3 (by decide) hf9
   by_cases h17:j=17
   ·subst h17;simp only[reduceIte,Nat.reduceEqDiff]at hx⊢;exact hx.one hx9 rfl hf9
   simp only[h12,h15,h16,h17,reduceIte]at hx⊢;exact hx
 rintro y w4 hΦ L hall ⟨hB,hF,hT⟩
 have hT:=hT (hall 18 (by decide))
 obtain⟨g,b,hy,hg,hb,hG,hO⟩:=hT
 exact HK.out _ _ _ _ ⟨rfl,rfl⟩ kZ (hy) hg hb hG hO hB hF
end Go.Proofs.YtcllkmllflheiaaGreatDoor
