/- Parts of the walk; written by programs, merged. -/
import Derived.Test.YtcllkmllflheiaaGreatDoorLau
import Derived.Laws.BitsAll
set_option linter.unusedSimpArgs false
set_option linter.unusedVariables false
set_option maxRecDepth 20000
set_option maxHeartbeats 8000000
set_option maxRecDepth 20000
namespace Go.Proofs.YtcllkmllflheiaaGreatDoor
open Go.RowKit Go.Proofs
attribute [local go_sem] aG aD aE aF
theorem mX {P:Program} {o:Oper} {a:Act} {w:World} (ty:TypeId) (x:Operand) (ho:o.op= .load ty x)
 (ad:Addr) (hx:a.eval x= .pointer (some ad)) (cs:Array Value) (d:TypeDesc) (hg:∀(j:Nat) (u:Value),cs[j]? =some u→w.cell? (ad.add j)=some u)
 (hu:P.underlying ty=some d) (hd:(match d with| .struct _| .array _ _=>true|_=>false)=true) (hi:(P.info? ty).map (·.size)=some cs.size):(execOp a.eval o).run P w= .ok (.value (.agg cs)) w:=by
 have hrun:(loadVar ty ad).run P w= .ok (.agg cs) w:=by
  have hl:(loadCells ad cs.toList.length).run P w= .ok cs.toList.toArray w:=run_loadCells_list (P:=P) w ad cs.toList (fun j v hv=>hg j v (by simpa using hv))
  cases hq:P.info? ty with
  |none=>simp[hq]at hi
  |some i=>
   have hs:i.size=cs.size:=by simpa[hq]using hi
   have hagg:(isAgg ty).run P w= .ok true w:=by
    unfold isAgg
    rw[Sem.run_bind,run_underlying hu w]
    cases d<;>simp_all
   simp only[Array.length_toList,Array.toArray_toList]at hl
   simp[loadVar,Sem.run_bind,hagg,sizeOf,typeInfo,hq,hs,hl]
 unfold execOp
 simp only[ho,hx,Instr.loadAt,Instr.sureAddr,Sem.run_bind,Sem.run_pure,Result.andThen_ok,hrun]
theorem Ak:(Tryz.prog.info? 28).map (·.size)=some 13:=by kernel_rfl
structure xF (w:World) (q:Nat) (o:OpD):Prop where
 bk:Bk w q 30 (opC o)
theorem xF.keep {w w':World} {S:Nat→Prop} {q:Nat} {o:OpD} (h:xF w q o) (hf:Fr S w w') (hq:¬S q):xF w' q o:=⟨h.bk.keep hf hq⟩
theorem xF.c0 {w:World} {q:Nat} {o:OpD} (h:xF w q o):w.cell? ⟨q,0,none⟩=some (.int .i64 o.kind):=h.bk.cell 0
theorem Gr {a b c:Array Value} {j n:Nat} {u:Value} (hn:a.size=n) (h:b[j]? =some u):(a++b++c)[n+j]? =some u:=by
 have hj:j<b.size:=by
  rcases Nat.lt_or_ge j b.size with h1|h1
  ·exact h1
  ·rw[Array.getElem?_eq_none h1]at h;cases h
 subst hn
 rw[Array.getElem?_append_left (by rw[Array.size_append];omega),Array.getElem?_append_right (by omega)]
 simpa using h
theorem DM {w:World} {g:Nat} {t:TypeId} {cs:Array Value} (h:Bk w g t cs) {k:Nat} {u:Value} (hu:cs[k]? =some u):w.cell? ⟨g,k,none⟩=some u:=(Bk.cell h k).trans hu
theorem kX (q n j:Nat):(⟨q,n,none⟩:Addr).add j=⟨q,n+j,none⟩:=by cases j<;>simp[Addr.add]
theorem xF.cfg {w:World} {q:Nat} {o:OpD} (h:xF w q o) (j:Nat) (u:Value) (hu:(gI o.c)[j]? =some u):w.cell? ((⟨q,3,none⟩:Addr).add j)=some u:=by
 rw[kX];exact DM h.bk (Gr rfl hu)
def utF (u:Nat→Value):Act:=⟨#[u 0,u 1,u 2,u 3,u 4,u 5,u 6,u 7,u 8,u 9,u 10,u 11,u 12,u 13,u 14,u 15,u 16,u 17,u 18,u 19,u 20,u 21,u 22,u 23,u 24,u 25,u 26,u 27,u 28,u 29,u 30,u 31,u 32,u 33,u 34,u 35,u 36,u 37,u 38,u 39,u 40,u 41,u 42,u 43,u 44,u 45,u 46,u 47,u 48,u 49,u 50,u 51,u 52,u 53,u 54,u 55,u 56,u 57,u 58,u 59,u 60,u 61,u 62,u 63,u 64,u 65,u 66,u 67,u 68,u 69,u 70,u 71,u 72,u 73,u 74,u 75,u 76,u 77,u 78,u 79,u 80,u 81,u 82,u 83,u 84,u 85,u 86,u 87,u 88,u 89,u 90,u 91,u 92,u 93,u 94,u 95,u 96,u 97,u 98,u 99,u 100,u 101,u 102,u 103,u 104,u 105,u 106,u 107,u 108,u 109,u 110,u 111,u 112,u 113,u 114,u 115,u 116,u 117,u 118,u 119,u 120,u 121,u 122,u 123,u 124,u 125,u 126,u 127,u 128,u 129,u 130,u 131,u 132,u 133,u 134,u 135,u 136,u 137,u 138,u 139,u 140,u 141,u 142,u 143,u 144,u 145,u 146,u 147,u 148,u 149,u 150,u 151,u 152,u 153,u 154,u 155,u 156,u 157,u 158,u 159,u 160,u 161,u 162,u 163,u 164,u 165,u 166,u 167,u 168,u 169,u 170,u 171,u 172,u 173,u 174,u 175,u 176,u 177,u 178,u 179,u 180,u 181,u 182,u 183,u 184,u 185,u 186,u 187],[]⟩
set_option maxRecDepth 100000 in
theorem Ik (u:Nat→Value):utF u=frN 188 u:=rfl
theorem jB {a:Act} (h:Sz 188 a):a=utF (sl a):=h.eq.trans (Ik _).symm
theorem Ki (cs:Array Value) (a:Act) (w:World) (K:KT) (hs:Sz 188 a)
 (h1:sl a 1= .agg cs)
 (hK:∀a' w',Sz 188 a'→Kp [0,5,6,7,8,9,10,11,12,13,85] a a'→sl a' 3= .pointer (some ⟨w.heap.size,0,none⟩)→Fr noB w w'→Bk w' w.heap.size 30 cs→K .normal a' w'):
 (aB Tryz.f9 0).wp Tryz.prog K a w:=by
 refine rgE hK (jB hs) fun HK=> ?_;clear hK hs
 simp only[utF,h1]
 go_wp2_with fail
 exact HK.out _ _ ⟨rfl,rfl⟩ kZ (rfl) ((Fr.refl _ _).alloc _) (Bk.new _ _ _)
theorem Kh (q:Nat) (o:OpD) (a:Act) (w:World) (K:KT) (hs:Sz 188 a)
 (h3:sl a 3= .pointer (some ⟨q,0,none⟩)) (hO:xF w q o)
 (hK:∀a' w',Sz 188 a'→Kp [0,3,4,5,6,7,8,9,10,11,12,13,85] a a'→sl a' 18= .bool (o.kind==1)→w'=w→K .normal a' w'):
 (aB Tryz.f9 1).wp Tryz.prog K a w:=by
 refine rgE hK (jB hs) fun HK=> ?_;clear hK hs
 simp only[utF,h3]
 have c0:=hO.c0
 clear hO
 go_wp2_with fail
 exact HK.out _ _ ⟨rfl,rfl⟩ kZ (rfl) rfl
theorem Iy (q:Nat) (o:OpD) (a:Act) (w:World) (K:KT) (hs:Sz 188 a)
 (h3:sl a 3= .pointer (some ⟨q,0,none⟩)) (hO:xF w q o) (hG:Glb w) (hok:o.c.Ok)
 (hK:∀a' w' L,Sz 188 a'→Kp [0,3,4,7,8,9,10,11,12,13,85] a a'→sl a' 5= .pointer (some ⟨L.p,0,none⟩)→sl a' 6= .int .i64 0→aC w' L (iH o.c)→(∀b,bW L b→w.heap.size≤b)→Fr noB w w'→K .normal a' w'):
 (aB Tryz.f9 2).wp Tryz.prog K a w:=by
 refine rgE hK (jB hs) fun HK=> ?_;clear hK hs
 simp only[utF,h3]
 have hu:=Tryz.underlying28
 go_wp2_with (first|(refine eY rfl 28 (.tmp 20) rfl ⟨q,3,none⟩ rfl (gI o.c) _ hO.cfg hu rfl Ak ?_)|(go_at_call 13;refine(zY o.c _ hG).mono ?_;rintro e w4 hp;obtain⟨L,rfl,hB1,ho1,hf1⟩:=hp.1 hok))
 exact HK.out _ _ L ⟨rfl,rfl⟩ kZ (rfl) (rfl) hB1 ho1 hf1
theorem Jt (q:Nat) (o:OpD) (a:Act) (w:World) (K:KT) (hs:Sz 188 a)
 (h3:sl a 3= .pointer (some ⟨q,0,none⟩)) (hO:xF w q o) (hG:Glb w) (hok:¬o.c.Ok)
 (hK:∀a' w',Sz 188 a'→Kp [0,3,4,7,8,9,10,11,12,13,85] a a'→sl a' 5= .pointer none→sl a' 6= .int .i64 8→Fr noB w w'→K .normal a' w'):
 (aB Tryz.f9 2).wp Tryz.prog K a w:=by
 refine rgE hK (jB hs) fun HK=> ?_;clear hK hs
 simp only[utF,h3]
 have hu:=Tryz.underlying28
 go_wp2_with (first|(refine eY rfl 28 (.tmp 20) rfl ⟨q,3,none⟩ rfl (gI o.c) _ hO.cfg hu rfl Ak ?_)|(go_at_call 13;refine(zY o.c _ hG).mono ?_;rintro e w4 hp;obtain⟨rfl,hf1⟩:=hp.2 hok))
 exact HK.out _ _ ⟨rfl,rfl⟩ kZ (rfl) (rfl) hf1
theorem Iw (g q T:Nat) (o:OpD) (a:Act) (w:World) (K:KT) (hs:Sz 188 a)
 (h0:sl a 0= .pointer (some ⟨g,0,none⟩)) (h3:sl a 3= .pointer (some ⟨q,0,none⟩)) (hOp:xF w q o) (hT:w.cell? ⟨g,0,none⟩=some (.pointer (some ⟨T,0,none⟩))) (hall:wU w 1 #[.int .u8 255,.int .u8 255,.int .u8 255,.int .u8 255,.int .u8 255,.int .u8 255]) (hok:o.c.Ok)
 (hK:∀a' w' p,Sz 188 a'→Kp [0,3,4,5,6,9,10,11,12,13,85] a a'→sl a' 7= .pointer (some ⟨p,0,none⟩)→sl a' 8= .bool true→aA w' p T ⟨none,0,none,0,none,0,none,0⟩ (iH o.c)→w.heap.size≤p→Fr noB w w'→K .normal a' w'):
 (aB Tryz.f9 3).wp Tryz.prog K a w:=by
 refine rgE hK (jB hs) fun HK=> ?_;clear hK hs
 simp only[utF,h0,h3]
 refine wpr (fun w'=>(xF w' q o∧w'.cell? ⟨g,0,none⟩=some (.pointer (some ⟨T,0,none⟩)))∧(wU w' 1 #[.int .u8 255,.int .u8 255,.int .u8 255,.int .u8 255,.int .u8 255,.int .u8 255]∧Fr noB w w')) [6] (.p 0 (.p 1 (.p 2 (.p 4 (.q 3 (.q 5 (.e 6 (.p 7 (.p 8 (.p 9 (.p 10 (.p 11 .nil)))))))))))) (⟨⟨hOp.keep (Fr.refl noB _).drew (fun x=>x),hT⟩,hall.keep (Fr.refl noB _).drew (fun x=>x),(Fr.refl _ _).drew⟩) ?_
 intro ops Q' hO hQ' wr1 hR1
 iterate 4 refine pP hO ?_
 refine pQ hO rfl rfl (fun w' hS=>by obtain⟨⟨hO,hT⟩,hall,hF⟩:=hS;exact qd) ?_
 refine Gj hO rfl rfl (.agg (gI o.c)) (fun w' hS=>mX 28 (.tmp 30) rfl ⟨q,3,none⟩ rfl (gI o.c) _ hS.1.1.cfg Tryz.underlying28 rfl Ak) ?_;simp only[Act.put,List.setIfInBounds_toArray,List.set_cons_zero,List.set_cons_succ]
 refine gC hO rfl rfl rfl (fun K hK=> ?_)
 go_simp
 refine(EK o.c T _ hR1.2.1).mono ?_
 rintro e w4 hp
 obtain⟨p,rfl,hM,hle,hf4⟩:=hp.1 hok
 refine hK _ _ ?_
 clear hK K
 iterate 5 refine pP hO ?_
 refine bV (hQ' _ _ ?_)
 exact HK.out _ _ p ⟨rfl,rfl⟩ kZ (rfl) (rfl) hM (Nat.le_trans hR1.2.2.size hle) (hR1.2.2.none hf4)
theorem IK (g q T:Nat) (o:OpD) (a:Act) (w:World) (K:KT) (hs:Sz 188 a)
 (h0:sl a 0= .pointer (some ⟨g,0,none⟩)) (h3:sl a 3= .pointer (some ⟨q,0,none⟩)) (hOp:xF w q o) (hT:w.cell? ⟨g,0,none⟩=some (.pointer (some ⟨T,0,none⟩))) (hall:wU w 1 #[.int .u8 255,.int .u8 255,.int .u8 255,.int .u8 255,.int .u8 255,.int .u8 255]) (hok:¬o.c.Ok)
 (hK:∀a' w',Sz 188 a'→Kp [0,3,4,5,6,9,10,11,12,13,85] a a'→sl a' 7= .pointer none→sl a' 8= .bool false→Fr noB w w'→K .normal a' w'):
 (aB Tryz.f9 3).wp Tryz.prog K a w:=by
 refine rgE hK (jB hs) fun HK=> ?_;clear hK hs
 simp only[utF,h0,h3]
 refine wpr (fun w'=>(xF w' q o∧w'.cell? ⟨g,0,none⟩=some (.pointer (some ⟨T,0,none⟩)))∧(wU w' 1 #[.int .u8 255,.int .u8 255,.int .u8 255,.int .u8 255,.int .u8 255,.int .u8 255]∧Fr noB w w')) [6] (.p 0 (.p 1 (.p 2 (.p 4 (.q 3 (.q 5 (.e 6 (.p 7 (.p 8 (.p 9 (.p 10 (.p 11 .nil)))))))))))) (⟨⟨hOp.keep (Fr.refl noB _).drew (fun x=>x),hT⟩,hall.keep (Fr.refl noB _).drew (fun x=>x),(Fr.refl _ _).drew⟩) ?_
 intro ops Q' hO hQ' wr1 hR1
 iterate 4 refine pP hO ?_
 refine pQ hO rfl rfl (fun w' hS=>by obtain⟨⟨hO,hT⟩,hall,hF⟩:=hS;exact qd) ?_
 refine Gj hO rfl rfl (.agg (gI o.c)) (fun w' hS=>mX 28 (.tmp 30) rfl ⟨q,3,none⟩ rfl (gI o.c) _ hS.1.1.cfg Tryz.underlying28 rfl Ak) ?_;simp only[Act.put,List.setIfInBounds_toArray,List.set_cons_zero,List.set_cons_succ]
 refine gC hO rfl rfl rfl (fun K hK=> ?_)
 go_simp
 refine(EK o.c T _ hR1.2.1).mono ?_
 rintro e w4 hp
 obtain⟨rfl,hf4⟩:=hp.2 hok
 refine hK _ _ ?_
 clear hK K
 iterate 5 refine pP hO ?_
 refine bV (hQ' _ _ ?_)
 exact HK.out _ _ ⟨rfl,rfl⟩ kZ (rfl) (rfl) (hR1.2.2.none hf4)
theorem JD (b:Bool) (a:Act) (w:World) (K:KT) (hs:Sz 188 a)
 (h8:sl a 8= .bool b)
 (hK:∀a' w',Sz 188 a'→Kp [0,3,4,5,6,7,8,9,10,11,12,13,85] a a'→sl a' 36= .bool (!b)→w'=w→K .normal a' w'):
 (aB Tryz.f9 4).wp Tryz.prog K a w:=by
 refine rgE hK (jB hs) fun HK=> ?_;clear hK hs
 simp only[utF,h8]
 go_wp2_with fail
 exact HK.out _ _ ⟨rfl,rfl⟩ kZ (rfl) rfl
theorem K8 (a:Act) (w:World) (K:KT) (hs:Sz 188 a)
 (h5:sl a 5= .pointer none) (h6:sl a 6= .int .i64 8)
 (hK:∀a' w',Sz 188 a'→Kp [0,3,5,6,7,8,9,10,11,12,13,85] a a'→sl a' 4= .bool true→w'=w→K .normal a' w'):
 (aB Tryz.f9 5).wp Tryz.prog K a w:=by
 refine rgE hK (jB hs) fun HK=> ?_;clear hK hs
 simp only[utF,h5,h6]
 go_wp2_with fail
 exact HK.out _ _ ⟨rfl,rfl⟩ kZ (rfl) rfl
theorem KS (p:Nat) (a:Act) (w:World) (K:KT) (hs:Sz 188 a)
 (h5:sl a 5= .pointer (some ⟨p,0,none⟩)) (h6:sl a 6= .int .i64 0)
 (hK:∀a' w',Sz 188 a'→Kp [0,3,4,5,6,7,8,9,10,11,12,13,85] a a'→sl a' 48= .bool false→w'=w→K .normal a' w'):
 (aB Tryz.f9 6).wp Tryz.prog K a w:=by
 refine rgE hK (jB hs) fun HK=> ?_;clear hK hs
 simp only[utF,h5,h6]
 go_wp2_with fail
 exact HK.out _ _ ⟨rfl,rfl⟩ kZ (rfl) rfl
theorem IL (a:Act) (w:World) (K:KT) (hs:Sz 188 a)
 (hK:∀a' w',Sz 188 a'→Kp [0,3,5,6,7,8,9,10,11,12,13,85] a a'→sl a' 4= .bool true→w'=w→K .normal a' w'):
 (aB Tryz.f9 10).wp Tryz.prog K a w:=by
 refine rgE hK (jB hs) fun HK=> ?_;clear hK hs
 simp only[utF]
 go_wp2_with fail
 exact HK.out _ _ ⟨rfl,rfl⟩ kZ (rfl) rfl
end Go.Proofs.YtcllkmllflheiaaGreatDoor
set_option maxRecDepth 20000
namespace Go.Proofs.YtcllkmllflheiaaGreatDoor
open Go.RowKit Go.Proofs
attribute [local go_sem] aG aD aE aF
theorem DV:(Tryz.prog.info? 48).map (fun i=>(i.zero,i.size,i.bytes))=some (some (.agg #[.pointer none,.pointer none]),2,16):=by kernel_rfl
theorem qF {w w':World} {base size:Nat} {v:Value} {k:Nat} {xs:List Value} {S:Nat→Prop} {t:TypeId} (h:w.ownsRow base t size v k xs) (hf:Fr S w w') (hb:∀b,v.ownBlock=some b→¬S b):w'.ownsRow base t size v k xs:=by
 refine⟨h.1,?_⟩
 rcases h.2 with h1|⟨g,cap,cur,h1,h2,h3,h4⟩
 ·exact .inl h1
 ·have hl:g<w.heap.size:=(Array.getElem?_eq_some_iff.1 h3).1
  exact .inr ⟨g,cap,cur,h1,h2,(hf.block g hl (hb g (by rw[h1];rfl))).trans h3,h4⟩
theorem Ax (w:World) (cs:Array Value) (t:TypeId):∀j u,cs.toList[j]? =some u→(w.alloc (.cells cs t)).cell? ((⟨w.heap.size,0,none⟩:Addr).add j)=some u:=by
 intro j u hj
 rw[kX,Nat.zero_add]
 exact DM (Bk.new w t cs) (by simpa using hj)
theorem KI (base g T lp mp cap:Nat) (l:List Pr) (A:Option Addr) (a:Act) (w:World) (K:KT) (hs:Sz 188 a)
 (h0:sl a 0= .pointer (some ⟨g,0,none⟩)) (h5:sl a 5= .pointer (some ⟨lp,0,none⟩)) (h7:sl a 7= .pointer (some ⟨mp,0,none⟩)) (h:fD base w g T l A cap) (hll:l.length≤65536) (hbs:base≤w.heap.size)
 (hK:∀a' w' A' c',Sz 188 a'→Kp [0,3,4,5,6,7,8,9,10,11,12,13,85] a a'→Bk w' g 36 #[.pointer (some ⟨T,0,none⟩),.slice A' (l.length+1) c',.bool false]→w'.ownsRow base 48 2 (.slice A' (l.length+1) c') (l.length+1) (oR l++[.pointer (some ⟨lp,0,none⟩),.pointer (some ⟨mp,0,none⟩)])→(∀b,(Value.slice A' (l.length+1) c').ownBlock=some b→b≠g∧((Value.slice A l.length cap).ownBlock=some b∨w.heap.size≤b))→Fr (fun b=>b=g∨(Value.slice A l.length cap).ownBlock=some b) w w'→K .normal a' w'):
 (aB Tryz.f9 9).wp Tryz.prog K a w:=by
 refine rgE hK (jB hs) fun HK=> ?_;clear hK hs
 simp only[utF,h0,h5,h7]
 obtain⟨i0,hi,hz0,hz1,hz2⟩:=info_parts DV
 have cg:=h.bk.cell 1
 have ow:=h.row.alloc (.cells #[.pointer (some ⟨lp,0,none⟩),.pointer (some ⟨mp,0,none⟩)] 48)
 have hglt:=h.bk.lt
 go_wp2_with (at_builtin;refine wpList_append_own_at _ rfl _ _ 34 rfl base 48 i0 (.agg #[.pointer none,.pointer none]) 2 16 Tryz.underlying34 hi hz0 hz1 hz2 rfl (by decide) _ _ _ rfl ow ⟨w.heap.size,0,none⟩ 1 1 [.pointer (some ⟨lp,0,none⟩),.pointer (some ⟨mp,0,none⟩)] rfl rfl (Ax w #[.pointer (some ⟨lp,0,none⟩),.pointer (some ⟨mp,0,none⟩)] 48) (by simp[Value.oneCell']) (by unfold maxLen;omega) (by omega) (by simp;omega) ?_;intro v' w3 hown' hg3 hnil3 hbk3;obtain⟨A',c',hv',hvn⟩:∃A' c',v'= .slice A' (l.length+1) c'∧True:=((by rcases hown'.2 with⟨hv,h0⟩|⟨gr,cp,cur,hv,_⟩;exact absurd h0 (by omega);exact⟨_,_,hv,trivial⟩));subst hv';have hf3:Fr (fun k=>(Value.slice A l.length cap).ownBlock=some k) (w.alloc (.cells #[.pointer (some ⟨lp,0,none⟩),.pointer (some ⟨mp,0,none⟩)] 48)) w3:=(Fr.refl _ _).grown hg3 (fun g h _=>h);have hB3:=(h.bk.alloc (.cells #[.pointer (some ⟨lp,0,none⟩),.pointer (some ⟨mp,0,none⟩)] 48)).keep hf3 (fun hx=>h.rg g hx rfl);have cc:=hB3.cell 1;have hfz:=hB3.frees)
 have hB4:=hB3.set 1 (.slice A' (l.length+1) c')
 have hap:∀b,(Value.slice A' (l.length+1) c').ownBlock=some b→b≠g∧((Value.slice A l.length cap).ownBlock=some b∨w.heap.size≤b):=fun b hb=>by
  rcases hbk3 with e|e
  ·exact⟨h.rg b (e.symm.trans hb),.inl (e.symm.trans hb)⟩
  ·rw[e]at hb;injection hb with hb
   have hsz:w.heap.size≤b:=by rw[←hb];simp
   exact⟨by omega,.inr hsz⟩
 have hrow4:=qF hown' ((Fr.refl (aJ g) w3).setCell (p:=⟨g,1,none⟩) (fun _=>rfl) (.slice A' (l.length+1) c')) (fun b hb e=>(hap b hb).1 e)
 have hfr4:Fr (fun b=>b=g∨(Value.slice A l.length cap).ownBlock=some b) w (w3.setCell ⟨g,1,none⟩ (.slice A' (l.length+1) c')):=((((Fr.refl noB w).alloc (.cells #[.pointer (some ⟨lp,0,none⟩),.pointer (some ⟨mp,0,none⟩)] 48)).of_no _).trans (hf3.mono fun b _ hb=> .inr hb)).trans ((Fr.refl _ w3).setCell (p:=⟨g,1,none⟩) (fun _=> .inl rfl) _)
 exact HK.out _ _ A' c' ⟨rfl,rfl⟩ kZ hB4 hrow4 hap hfr4
end Go.Proofs.YtcllkmllflheiaaGreatDoor
set_option maxRecDepth 20000
namespace Go.Proofs.YtcllkmllflheiaaGreatDoor
open Go.RowKit Go.Proofs
attribute [local go_sem] aG aD aE aF
theorem fI.both {base:Nat} {w w1 w2:World} {T:Nat} {x:Pr} {s':St} (h:fI base w T x) (hl:Low base) (hw1:Now x.L w s' w1) (hw2:bE x.p T x.M w1 s' w2):
 ∃x':Pr,x'.s=s'∧x'.L.p=x.L.p∧x'.p=x.p∧fI base w2 T x'∧Fr (rP x) w w2∧∀k,rP x' k→rP x k∨w.heap.size≤k:=by
 obtain⟨L',p1,o1,B1,F1⟩:=hw1
 obtain⟨M',o2,m2,F2⟩:=hw2
 have hs1:=F1.size
 have hmlt:∀k,bX x.p x.M k→k<w.heap.size:=fun k hk=>h.lt k (.inr hk)
 have hd:∀k,bW L' k→¬bX x.p x.M k:=fun k hk hm=>by
  rcases o1 k hk with h1|h1
  ·exact h.d k h1 hm
  ·have:=hmlt k hm;omega
 have hlo:∀k,bW L' k→base≤k:=fun k hk=>by
  rcases o1 k hk with h1|h1
  ·exact h.lo k (.inl h1)
  ·have:=h.lo x.L.p (.inl (mH _));have:=h.lt x.L.p (.inl (mH _));omega
 have hpl:=h.lt x.L.p (.inl (mH _))
 have hpb:=h.lo x.L.p (.inl (mH _))
 refine⟨⟨L',x.p,M',s'⟩,rfl,p1,rfl,⟨B1.keep F2 hd (fun b hb hm=> ?_),m2,fun k hk hm=> ?_,fun k hk=> ?_⟩,?_,fun k hk=> ?_⟩
 ·have:=h.lo b (.inr hm);have:=hl.g b hb;omega
 ·rcases o2 k hm with h1|h1
  ·exact hd k hk h1
  ·have:=B1.lt k hk;omega
 ·rcases hk with hk|hk
  ·exact hlo k hk
  ·rcases o2 k hk with h1|h1
   ·exact h.lo k (.inr h1)
   ·omega
 ·exact(F1.mono fun b _ hb=> .inl hb).trans (F2.mono fun b _ hb=> .inr hb)
 ·rcases hk with hk|hk
  ·rcases o1 k hk with h1|h1
   ·exact .inl (.inl h1)
   ·exact .inr h1
  ·rcases o2 k hk with h1|h1
   ·exact .inl (.inr h1)
   ·exact .inr (by omega)
theorem fI.model {base:Nat} {w w1:World} {T:Nat} {x:Pr} (h:fI base w T x) (hl:Low base) (hf:Fr (bW x.L) w w1):aA w1 x.p T x.M x.s:=
 h.m.keep hf (fun b hb hx=>h.d b hx hb) (fun hx=>by have:=h.lo _ (.inl hx);have:=hl.a;omega)
def lN (base g T:Nat) (ss:List St) (w:World) (e:Ending) (w':World):Prop:=
 e= .returned (.bool true)∧∃l' A' cap',fD base w' g T l' A' cap'∧l'.map (·.s)=ss∧Fr (fL base) w w'
theorem fD.nop {base:Nat} {w w':World} {g T:Nat} {l:List Pr} {A:Option Addr} {cap:Nat} (h:fD base w g T l A cap) (hl:Low base) (hf:Fr noB w w'):fD base w' g T l A cap:=
 ⟨h.bk.keep hf (fun x=>x),qF h.row hf (fun _ _ x=>x),h.ps.keep hl hf (fun _ _ _ _ _ y=>y) (fun _ y=>y.elim),h.go,h.gn,h.rg,h.rn⟩
theorem fD.more {base:Nat} {w w1 w2:World} {g T:Nat} {l:List Pr} {A A':Option Addr} {cap c':Nat} {x:Pr} (h:fD base w g T l A cap) (hl:Low base) (hf1:Fr noB w w1) (hx:fI base w1 T x) (ho:∀k,rP x k→w.heap.size≤k)
 (hB:Bk w2 g 36 #[.pointer (some ⟨T,0,none⟩),.slice A' (l.length+1) c',.bool false]) (hrow:w2.ownsRow base 48 2 (.slice A' (l.length+1) c') (l.length+1) (oR l++Bd x))
 (hap:∀b,(Value.slice A' (l.length+1) c').ownBlock=some b→b≠g∧((Value.slice A l.length cap).ownBlock=some b∨w1.heap.size≤b)) (hf2:Fr (fun b=>b=g∨(Value.slice A l.length cap).ownBlock=some b) w1 w2):fD base w2 g T (l++[x]) A' c':=by
 have hlen:(l++[x]).length=l.length+1:=by simp
 have hgl:=h.bk.lt
 have hs1:=hf1.size
 have hbs:∀b,(Value.slice A l.length cap).ownBlock=some b→base≤b∧b<w.heap.size:=fun b hb=>h.row.lt b hb
 have hmem:∀(j:Nat) (y:Pr),(l++[x])[j]? =some y→y=x∨∃j2:Nat,l[j2]? =some y:=by
  intro j y hy
  rcases Nat.lt_or_ge j l.length with h1|h1
  ·rw[List.getElem?_append_left h1]at hy;exact .inr ⟨j,hy⟩
  ·rw[List.getElem?_append_right h1]at hy
   rcases Nat.eq_zero_or_pos (j-l.length)with h2|h2
   ·rw[h2]at hy;injection hy with hy;exact .inl hy.symm
   ·rw[List.getElem?_eq_none (by simp;omega)]at hy;cases hy
 have hps:=h.ps.more hl hf1 hx ho
 refine⟨by rw[hlen];exact hB,by rw[hlen,CL];exact hrow,hps.keep hl hf2 (fun i y hy k hk hS=> ?_) (fun k hk=> .inl ?_),h.go,fun j y hy hk=> ?_,by rw[hlen];exact fun b hb=>(hap b hb).1,fun b hb j y hy hk=> ?_⟩
 ·rcases hmem i y hy with rfl|⟨j,hy2⟩
  ·have:=ho k hk
   rcases hS with rfl|hS
   ·omega
   ·have:=(hbs k hS).2;omega
  ·rcases hS with rfl|hS
   ·exact h.gn j y hy2 hk
   ·exact h.rn k hS j y hy2 hk
 ·rcases hk with rfl|hk
  ·exact h.go
  ·exact(hbs k hk).1
 ·rcases hmem j y hy with rfl|⟨j,hy2⟩
  ·have:=ho g hk;omega
  ·exact h.gn j y hy2 hk
 ·rw[hlen]at hb
  rcases(hap b hb).2 with h3|h3
  ·rcases hmem j y hy with rfl|⟨j,hy2⟩
   ·have:=ho b hk;have:=(hbs b h3).2;omega
   ·exact h.rn b h3 j y hy2 hk
  ·rcases hmem j y hy with rfl|⟨j,hy2⟩
   ·have:=hx.lt b hk;omega
   ·have:=(h.ps.at_ j y hy2).lt b hk;omega
structure Db (base:Nat) (w:World):Prop where
 g:Glb w
 a:wU w 1 #[.int .u8 255,.int .u8 255,.int .u8 255,.int .u8 255,.int .u8 255,.int .u8 255]
 low:Low base
 le:base≤w.heap.size
theorem Db.keep {base:Nat} {w w':World} (h:Db base w) (hf:Fr (fL base) w w'):Db base w':=
 ⟨h.g.keep hf (fun b hb hx=>by have h1:base≤b:=hx;have:=h.low.g b hb;omega),h.a.keep hf (fun hx=>by have h1:base≤_:=hx;have:=h.low.a;omega),h.low,Nat.le_trans h.le hf.size⟩
theorem Gm (base g T:Nat) (l:List Pr) (A:Option Addr) (cap:Nat) (o:OpD) (w:World) (h:fD base w g T l A cap) (hG:Db base w) (hk:o.kind=1) (hll:l.length≤65535):
 Calls Tryz.prog 9 #[.pointer (some ⟨g,0,none⟩),.agg (opC o)] w (lN base g T (if o.c.Ok then l.map (·.s)++[iH o.c]else l.map (·.s)) w):=by
 have hlow:=hG.low
 have hble:=hG.le
 go_enter Tryz.func9,Tryz.ntmps9
 refine wp_seq ?_
 refine Ki _ _ w _ ⟨rfl,rfl⟩ rfl ?_
 intro a0 w0 hs0 k0 o3 f0 hB0
 have e0:sl a0 0= .pointer (some ⟨g,0,none⟩):=(k0 0 (by decide)).trans rfl
 clear k0
 have hO0:xF w0 w.heap.size o:=⟨hB0⟩
 have hql:w.heap.size<w0.heap.size:=hB0.lt
 obtain⟨q,hq⟩:∃q,w.heap.size=q:=⟨_,rfl⟩
 rw[hq]at o3 hO0
 refine wp_seq (wp_seq ?_)
 refine Kh q o a0 w0 _ hs0 o3 hO0 ?_
 intro a1 w1 hs1 k1 o18 hw;subst w1
 rw[hk]at o18
 refine fK o18 (fun _=> ?_) (fun hb=>by cases hb)
 have e0:=k1.t e0
 have o3:=k1.t o3
 have hG0:=hG.keep (f0.of_no _)
 have fin:∀(a':Act) (w':World),Sz 188 a'→sl a' 4= .bool true→lN base g T (if o.c.Ok then l.map (·.s)++[iH o.c]else l.map (·.s)) w (.returned (.bool true)) w'→bodyPost Tryz.prog Tryz.f9 (lN base g T (if o.c.Ok then l.map (·.s)++[iH o.c]else l.map (·.s)) w) .ret a' w':=fun a' w' hs h4 hp=>by
  refine bodyPost_ret (results_tmp rfl _ _ _) hs.defers ?_
  rw[show a'.tmps.getD 4 undef= .bool true from h4];exact hp
 refine wp_seq ?_
 by_cases hok:o.c.Ok
 rotate_left
 ·rw[if_neg hok]at fin⊢
  refine Jt q o a1 w0 _ hs1 o3 hO0 hG0.g hok ?_
  intro a2 w2 hs2 k2 o5 o6 f2
  refine wp_seq ?_
  refine IK g q T o a2 w2 _ hs2 (k2.t e0) (k2.t o3) (hO0.keep f2 (fun x=>x)) (((h.nop hlow f0).nop hlow f2).bk.cell 0) (hG0.keep (f2.of_no _)).a hok ?_
  intro a3 w3 hs3 k3 o7 o8 f3
  refine wp_seq (wp_seq ?_)
  refine JD _ a3 w3 _ hs3 o8 ?_
  intro a4 w4 hs4 k4 o36 hw;subst w4
  refine fK o36 (fun _=> ?_) (fun hb=>by cases hb)
  refine wp_seq ?_
  refine K8 a4 w3 _ hs4 (k4.t (k3.t o5)) (k4.t (k3.t o6)) ?_
  intro a5 w5 hs5 k5 o4 hw;subst w5
  refine wp_ret ?_
  exact fin a5 w3 hs5 o4 ⟨rfl,l,A,cap,((h.nop hlow f0).nop hlow f2).nop hlow f3,rfl,((f0.none f2).none f3).of_no _⟩
 rw[if_pos hok]at fin⊢
 refine Iy q o a1 w0 _ hs1 o3 hO0 hG0.g hok ?_
 intro a2 w2 L hs2 k2 o5 o6 hB2 ho2 f2
 refine wp_seq ?_
 refine Iw g q T o a2 w2 _ hs2 (k2.t e0) (k2.t o3) (hO0.keep f2 (fun x=>x)) (((h.nop hlow f0).nop hlow f2).bk.cell 0) (hG0.keep (f2.of_no _)).a hok ?_
 intro a3 w3 p hs3 k3 o7 o8 hM3 hle3 f3
 have e0:=k3.t (k2.t e0)
 refine wp_seq (wp_seq ?_)
 refine JD _ a3 w3 _ hs3 o8 ?_
 intro a4 w4 hs4 k4 o36 hw;subst w4
 refine fK o36 (fun hb=>by cases hb) (fun _=> ?_)
 refine wp_skip ?_
 have o5:=k4.t (k3.t o5)
 refine wp_seq (wp_seq ?_)
 refine KS L.p a4 w3 _ hs4 o5 (k4.t (k3.t o6)) ?_
 intro a5 w5 hs5 k5 o48 hw;subst w5
 refine fK o48 (fun hb=>by cases hb) (fun _=> ?_)
 refine wp_skip ?_
 refine wp_seq ?_
 have hs02:=f0.size
 have hs23:=f2.size
 have hW3:=((h.nop hlow f0).nop hlow f2).nop hlow f3
 refine KI base g T L.p p cap l A a5 w3 _ hs5 (k5.t (k4.t e0)) (k5.t o5) (k5.t (k4.t o7)) hW3 (by omega) (by have:=f3.size;omega) ?_
 intro a6 w6 A' c' hs6 k6 hB6 hrow6 hap6 f6
 refine wp_seq ?_
 refine IL a6 w6 _ hs6 ?_
 intro a7 w7 hs7 k7 o4 hw;subst w7
 refine wp_ret ?_
 have hmb:aK p ⟨none,0,none,0,none,0,none,0⟩=[p]:=by simp[aK,bH]
 have hmo:∀k,bX p ⟨none,0,none,0,none,0,none,0⟩ k→k=p:=fun k hk=>by unfold bX at hk;rw[hmb]at hk;simpa using hk
 have hx:fI base w3 T ⟨L,p,⟨none,0,none,0,none,0,none,0⟩,iH o.c⟩:=by
  refine⟨hB2.none f3,hM3,fun k hk hm=> ?_,fun k hk=> ?_⟩
  ·have:=hmo k hm;have:=hB2.lt k hk;omega
  ·rcases hk with hk|hk
   ·have:=ho2 k hk;omega
   ·have:=hmo k hk;omega
 have hto:Fr (fL base) w w6:=(((f0.none f2).none f3).of_no _).trans (f6.mono fun b _ hb=>by
  rcases hb with rfl|hb
  ·exact h.go
  ·exact(h.row.lt b hb).1)
 refine fin a7 w6 hs7 o4 ⟨rfl,_,A',c',fD.more (w:=w) h hlow ((f0.none f2).none f3) hx (fun k hk=> ?_) hB6 hrow6 hap6 f6,by rw[List.map_append];rfl,hto⟩
 rcases hk with hk|hk
 ·have:=ho2 k hk;omega
 ·have:=hmo k hk;omega
end Go.Proofs.YtcllkmllflheiaaGreatDoor
namespace Go.Proofs.YtcllkmllflheiaaGreatDoor
open Go.RowKit Go.Proofs
def opV (o:OpD):Array Value:= #[.int .i64 o.kind,.int .i64 o.a,.int .i64 o.n,.int .u8 (o.c.card.1.toNat:Int),.int .u8 (o.c.card.2.1.toNat:Int),.int .u8 (o.c.card.2.2.1.toNat:Int),.int .u8 (o.c.card.2.2.2.1.toNat:Int),.int .u8 (o.c.card.2.2.2.2.1.toNat:Int),.int .u8 (o.c.card.2.2.2.2.2.toNat:Int),.string (bs o.c.name),.int .i64 o.c.cap,.string (bs o.c.digest),.int .i64 o.c.block,.int .i64 o.c.window,.int .i64 o.c.rx,.int .i64 o.c.tx,.string (bs o.s)]
theorem In (o:OpD):opC o=opV o:=rfl
def DK (w:World) (a:Addr) (v:Value):Prop:=w.cell? a=some v
theorem DK.keep {w w':World} {S:Nat→Prop} {a:Addr} {v:Value} (h:DK w a v) (hf:Fr S w w') (hs:¬S a.block):DK w' a v:=(hf.cell (yY h) hs).trans h
instance (a:Addr) (v:Value):Kp0 fun w=>DK w a v:=⟨fun _ _ h f=>h.keep f id⟩
theorem fD.pair {base:Nat} {w:World} {g T:Nat} {l:List Pr} {A:Option Addr} {cap:Nat} (h:fD base w g T l A cap) {i:Nat} {x:Pr} (hx:l[i]? =some x):
 ∃ga,A=some ⟨ga,0,none⟩∧DK w ⟨ga,i*2,none⟩ (.pointer (some ⟨x.L.p,0,none⟩))∧DK w ⟨ga,i*2+1,none⟩ (.pointer (some ⟨x.p,0,none⟩)):=by
 have hil:i<l.length:=by
  rcases Nat.lt_or_ge i l.length with h1|h1
  ·exact h1
  ·rw[List.getElem?_eq_none h1]at hx;cases hx
 rcases h.row.2 with⟨hv,h0⟩|⟨ga,cp,cur,hv,_⟩
 ·omega
 ·cases hv
  exact⟨ga,rfl,nV h.row (yX l i x 0 _ hx rfl),nV h.row (yX l i x 1 _ hx rfl)⟩
def At (o:OpD) (ss:List St):Bool:=match ss[nZ o.a ss.length]? with
 |some s=>decide (s.lease=3∧o.kind=4∧s.lagain≤wrap64 (s.now+1))
 |none=>false
end Go.Proofs.YtcllkmllflheiaaGreatDoor
namespace Go.Proofs.YtcllkmllflheiaaGreatDoor
def aW:List Nat:=[2,3,5,7,11,13,17,19,23,29,31,37,41,43,47,53,59,61,67,71,73,79,83,89,97,101,103,107,109,113,127,131,137,139,149,151,157,163,167,173,179,181,191,193,197,199,211,223,227,229,233,239,241,251,257,263,269,271,277,281,283,293,307,311]
def below (p:Nat):List Nat:=aW.filter fun q=>decide (q<p)
def yQ (p:Nat):Bool:=(below p).all fun q=>p%q !=0
theorem AP:∀p,2≤p→p<312→below (p+1)=(if yQ p then below p++[p]else below p):=by
 have h:((List.range 312).all fun p=>decide (p<2)||(below (p+1)==(if yQ p then below p++[p]else below p)))=true:=by decide+kernel
 intro p h2 h3
 have h1:=List.all_eq_true.1 h p (by simpa using h3)
 simp only[Bool.or_eq_true,decide_eq_true_eq,beq_iff_eq]at h1
 rcases h1 with h1|h1
 ·omega
 ·exact h1
theorem Cg:∀p,p<312→(below p).length<64:=by
 have h:((List.range 312).all fun p=>decide ((below p).length<64))=true:=by decide+kernel
 intro p h3
 have h1:=List.all_eq_true.1 h p (by simpa using h3)
 simpa using h1
theorem BZ:below 2=[]:=by decide+kernel
theorem uR:below 312=aW:=by decide+kernel
theorem gG:aW.length=64:=by decide+kernel
theorem zX (p:Nat):∀q∈below p,2≤q∧q<p:=by
 have h:(aW.all fun q=>decide (2≤q))=true:=by decide+kernel
 intro q hq
 unfold below at hq
 rw[List.mem_filter]at hq
 exact⟨by simpa using List.all_eq_true.1 h q hq.1,by simpa using hq.2⟩
def sJ (p pw r bit:Nat):Nat:=if(r+bit)^pw≤p*2^(32*pw)then r+bit else r
def pG (p pw:Nat):Nat→Nat
 |0=>0
 |k+1=>sJ p pw (pG p pw k) (2^(36-k))
def gX (p pw:Nat):Nat:=pG p pw 37%4294967296
theorem zM (p pw:Nat):∀k,k≤37→pG p pw k+2^(37-k)≤2^37
 |0,_=>by simp[pG]
 |k+1,h=>by
  have ih:=zM p pw k (by omega)
  have e:(2:Nat)^(37-k)=2^(36-k)+2^(36-k):=by rw[show 37-k=(36-k)+1 by omega,Nat.pow_succ];omega
  rw[show 37-(k+1)=36-k by omega]
  simp only[pG,sJ]
  generalize 2^(36-k)=c at*
  split<;>omega
theorem AB:aW.map (fun p=>gX p 3)=GA.map UInt32.toNat:=by decide+kernel
theorem AA:(aW.take 8).map (fun p=>gX p 2)=h0.list.map UInt32.toNat:=by decide+kernel
def val:List Nat→Nat
 |[]=>0
 |d::r=>d+65536*val r
def kT (x:Nat):List Nat→List Nat→Nat→List Nat
 |o::os,y::ys,c=>(o+x*y+c)%65536::kT x os ys ((o+x*y+c)/65536)
 |o::os,[],c=>(o+c)::os
 |[],_,_=>[]
theorem pZ (x:Nat):∀(os ys:List Nat) (c:Nat),ys.length<os.length→val (kT x os ys c)=val os+x*val ys+c
 |o::os,y::ys,c,h=>by
  simp only[kT,val]
  rw[pZ x os ys _ (by simpa using h)]
  have e1:x*(y+65536*val ys)=x*y+65536*(x*val ys):=by rw[Nat.mul_add,Nat.mul_left_comm]
  rw[e1]
  omega
 |o::os,[],c,h=>by simp[kT,val];omega
 |[],_,_,h=>by simp at h
def dig (l:List Nat):Prop:=∀d∈l,d<65536
theorem E2:∀l:List Nat,dig l→val l<65536^l.length
 |[],_=>by simp[val]
 |d::r,h=>by
  have h1:=E2 r (fun x hx=>h x (by simp[hx]))
  have h2:=h d (by simp)
  rw[List.length_cons,Nat.pow_succ,val];omega
theorem eO:∀a b:List Nat,val (a++b)=val a+65536^a.length*val b
 |[],b=>by simp[val]
 |d::r,b=>by
  rw[List.cons_append,val,val,eO r b,List.length_cons,Nat.pow_succ,Nat.mul_add,Nat.mul_comm (65536^r.length) 65536,Nat.mul_assoc]
  omega
def Row (x:Nat) (pre R0 ys:List Nat) (j c:Nat) (cur:List Nat):Prop:=
 ∃done,done.length=j∧cur=pre++(done++R0.drop j)∧kT x R0 ys 0=done++kT x (R0.drop j) (ys.drop j) c∧j≤R0.length∧c<65536∧dig cur
theorem Row.start {x:Nat} {pre R0 ys:List Nat} (h:dig (pre++R0)):Row x pre R0 ys 0 0 (pre++R0):=⟨[],rfl,rfl,rfl,by omega,by omega,h⟩
theorem CG {l:List Nat} (h:dig l) (k v:Nat) (hv:v<65536):dig (l.set k v):=by
 intro d hd
 rcases List.mem_or_eq_of_mem_set hd with h1|h1
 ·exact h d h1
 ·omega
theorem Row.get {x:Nat} {pre R0 ys cur:List Nat} {j c:Nat} (h:Row x pre R0 ys j c cur) (k:Nat) (hk:j≤k):cur[pre.length+k]? =R0[k]? :=by
 obtain⟨done,hd,rfl,he,hr,hc,hdig⟩:=h
 rw[List.getElem?_append_right (by omega),List.getElem?_append_right (by omega),List.getElem?_drop]
 congr 1;omega
theorem Row.length {x:Nat} {pre R0 ys cur:List Nat} {j c:Nat} (h:Row x pre R0 ys j c cur):cur.length=pre.length+R0.length:=by
 obtain⟨done,hd,rfl,he,hr,hc,hdig⟩:=h
 simp[hd];omega
theorem Row.step {x:Nat} {pre R0 ys cur:List Nat} {j c y o:Nat} (h:Row x pre R0 ys j c cur) (hy:ys[j]? =some y) (ho:cur[pre.length+j]? =some o) (hx:x<65536) (hyl:y<65536):
 Row x pre R0 ys (j+1) ((o+x*y+c)/65536) (cur.set (pre.length+j) ((o+x*y+c)%65536))∧o<65536∧x*y≤4294836225∧c<65536:=by
 have hg:=h.get j (Nat.le_refl _)
 rw[ho]at hg
 obtain⟨done,hd,rfl,he,hr,hc,hdig⟩:=h
 have hj:j<ys.length:=by
  rcases Nat.lt_or_ge j ys.length with h|h
  ·exact h
  ·rw[List.getElem?_eq_none h]at hy;cases hy
 have hjr:j<R0.length:=by
  rcases Nat.lt_or_ge j R0.length with h|h
  ·exact h
  ·rw[List.getElem?_eq_none h]at hg;cases hg
 have e1:R0.drop j=o::R0.drop (j+1):=by
  rw[List.drop_eq_getElem_cons hjr]
  rw[List.getElem?_eq_getElem hjr]at hg
  injection hg with hg
  rw[hg]
 have e2:ys.drop j=y::ys.drop (j+1):=by
  rw[List.drop_eq_getElem_cons hj]
  rw[List.getElem?_eq_getElem hj]at hy
  injection hy with hy
  rw[hy]
 have hol:o<65536:=by
  apply hdig
  rw[e1];simp
 have hxy:x*y≤65535*65535:=Nat.mul_le_mul (by omega) (by omega)
 refine⟨⟨done++[(o+x*y+c)%65536],by simp[hd],?_,?_,by omega,by omega,CG hdig _ _ (by omega)⟩,hol,by omega,hc⟩
 ·rw[List.set_append_right _ _ (by omega),List.set_append_right _ _ (by omega),show pre.length+j-pre.length-done.length=0 by omega,e1]
  simp
 ·rw[he,e1,e2]
  simp[kT]
theorem Row.fin {x:Nat} {pre R0 ys cur:List Nat} {c o:Nat} (h:Row x pre R0 ys ys.length c cur) (ho:cur[pre.length+ys.length]? =some o):
 cur.set (pre.length+ys.length) (o+c)=pre++kT x R0 ys 0:=by
 have hg:=h.get ys.length (Nat.le_refl _)
 rw[ho]at hg
 obtain⟨done,hd,rfl,he,hr,hc,hdig⟩:=h
 have hjr:ys.length<R0.length:=by
  rcases Nat.lt_or_ge ys.length R0.length with h|h
  ·exact h
  ·rw[List.getElem?_eq_none h]at hg;cases hg
 have e1:R0.drop ys.length=o::R0.drop (ys.length+1):=by
  rw[List.drop_eq_getElem_cons hjr]
  rw[List.getElem?_eq_getElem hjr]at hg
  injection hg with hg
  rw[hg]
 rw[he,List.drop_length,List.set_append_right _ _ (by omega),List.set_append_right _ _ (by omega),show pre.length+ys.length-pre.length-done.length=0 by omega,e1]
 simp[kT]
structure Tim (xs ys:List Nat) (i:Nat) (out:List Nat):Prop where
 len:out.length=xs.length+ys.length
 dg:dig out
 vl:val out=val (xs.take i)*val ys
 zr:∀k,i+ys.length≤k→k<out.length→out[k]? =some 0
theorem Tim.start (xs ys:List Nat):Tim xs ys 0 (List.replicate (xs.length+ys.length) 0):=by
 refine⟨by simp,?_,?_,?_⟩
 ·intro d hd;simp at hd;omega
 ·have h:∀n,val (List.replicate n 0)=0:=by intro n;induction n with|zero=>rfl|succ n ih=>simp[List.replicate_succ,val,ih]
  rw[h];simp[val]
 ·intro k _ hk;simp at hk;simp[hk]
theorem tC (xs:List Nat) (i x:Nat) (hx:xs[i]? =some x):val (xs.take (i+1))=val (xs.take i)+65536^i*x:=by
 have hi:i<xs.length:=by
  rcases Nat.lt_or_ge i xs.length with h|h
  ·exact h
  ·rw[List.getElem?_eq_none h]at hx;cases hx
 have hxe:xs[i]=x:=by rw[List.getElem?_eq_getElem hi]at hx;injection hx
 rw[List.take_succ_eq_append_getElem hi,eO,hxe,List.length_take,Nat.min_eq_left (by omega)]
 simp[val]
theorem Tim.step {xs ys out cur:List Nat} {i x c:Nat} (h:Tim xs ys i out) (hx:xs[i]? =some x) (hr:Row x (out.take i) (out.drop i) ys ys.length c cur):
 cur[i+ys.length]? =some 0∧c<65536∧Tim xs ys (i+1) (cur.set (i+ys.length) (0+c)):=by
 have hi:i<xs.length:=by
  rcases Nat.lt_or_ge i xs.length with h|h
  ·exact h
  ·rw[List.getElem?_eq_none h]at hx;cases hx
 have hlen:=h.len
 have hpl:(out.take i).length=i:=by rw[List.length_take];omega
 have hcl:=hr.length
 rw[hpl,List.length_drop]at hcl
 have hg:=hr.get ys.length (Nat.le_refl _)
 rw[hpl,List.getElem?_drop,h.zr (i+ys.length) (Nat.le_refl _) (by omega)]at hg
 have hf:=hr.fin (o:=0) (by rw[hpl];exact hg)
 rw[hpl]at hf
 have hc:c<65536:=by obtain⟨_,_,_,_,_,hc,_⟩:=hr;exact hc
 have hdc:dig cur:=by obtain⟨_,_,_,_,_,_,hd⟩:=hr;exact hd
 refine⟨hg,hc,⟨by rw[List.length_set];omega,CG hdc _ _ (by omega),?_,?_⟩⟩
 ·rw[hf,eO,hpl,pZ x _ _ _ (by rw[List.length_drop];omega),tC xs i x hx,Nat.add_mul,←h.vl]
  have e2:val out=val (out.take i)+65536^i*val (out.drop i):=by
   conv=>lhs;rw[←List.take_append_drop i out]
   rw[eO,hpl]
  rw[e2,Nat.mul_add,Nat.mul_add,Nat.mul_zero,Nat.add_zero,Nat.add_assoc,Nat.mul_assoc]
 ·intro k hk1 hk2
  rw[List.length_set]at hk2
  rw[List.getElem?_set_ne (by omega)]
  have h1:=hr.get (k-i) (by omega)
  rw[hpl,show i+(k-i)=k by omega,List.getElem?_drop,show i+(k-i)=k by omega]at h1
  rw[h1]
  exact h.zr k (by omega) (by omega)
theorem Tim.all {xs ys out:List Nat} (h:Tim xs ys xs.length out):val out=val xs*val ys:=by rw[h.vl,List.take_length]
theorem lR {a b:List Nat} (ha:dig a) (hb:dig b) (hl:a.length=b.length):∀k,k<a.length→a.drop (k+1)=b.drop (k+1)→∀x y,a[k]? =some x→b[k]? =some y→x<y→val a<val b:=by
 intro k hk hd x y hx hy hxy
 have hxe:a[k]=x:=by rw[List.getElem?_eq_getElem hk]at hx;injection hx
 have hye:b[k]=y:=by rw[List.getElem?_eq_getElem (by omega)]at hy;injection hy
 have e1:val a=val (a.take k)+65536^k*(x+65536*val (a.drop (k+1))):=by
  conv=>lhs;rw[←List.take_append_drop k a]
  rw[eO,List.length_take,Nat.min_eq_left (by omega),List.drop_eq_getElem_cons hk,val,hxe]
 have e2:val b=val (b.take k)+65536^k*(y+65536*val (a.drop (k+1))):=by
  conv=>lhs;rw[←List.take_append_drop k b]
  rw[eO,List.length_take,Nat.min_eq_left (by omega),List.drop_eq_getElem_cons (by omega),val,hye,hd]
 have h1:=E2 (a.take k) (fun d hd'=>ha d (List.mem_of_mem_take hd'))
 rw[List.length_take,Nat.min_eq_left (by omega)]at h1
 rw[e1,e2]
 generalize val (a.drop (k+1))=z at*
 have h2:65536^k*(x+65536*z)+65536^k≤65536^k*(y+65536*z):=by
  rw[←Nat.mul_succ]
  exact Nat.mul_le_mul_left _ (by omega)
 omega
def ext (l:List Nat) (n:Nat):List Nat:=l++List.replicate (n-l.length) 0
theorem nO:∀n,val (List.replicate n 0)=0
 |0=>rfl
 |n+1=>by simp[List.replicate_succ,val,nO n]
theorem wY (l:List Nat) (n:Nat):val (ext l n)=val l:=by simp[ext,eO,nO]
theorem BM {l:List Nat} (h:dig l) (n:Nat):dig (ext l n):=by
 intro d hd
 rw[ext,List.mem_append]at hd
 rcases hd with h1|h1
 ·exact h d h1
 ·have:=(List.mem_replicate.1 h1).2;omega
theorem qG {l:List Nat} {n:Nat} (h:l.length≤n):(ext l n).length=n:=by simp[ext];omega
theorem Gq {l:List Nat} {n k:Nat} (h:k<l.length):(ext l n)[k]? =l[k]? :=by rw[ext,List.getElem?_append_left h]
theorem Es {l:List Nat} {n k:Nat} (h:l.length≤k) (hk:k<n):(ext l n)[k]? =some 0:=by
 rw[ext,List.getElem?_append_right h,List.getElem?_replicate];simp;omega
theorem AD {a b:List Nat} {k x:Nat} (ha:a[k]? =some x) (hb:b[k]? =some x) (h:a.drop (k+1)=b.drop (k+1)):a.drop k=b.drop k:=by
 have hka:k<a.length:=by
  rcases Nat.lt_or_ge k a.length with h|h
  ·exact h
  ·rw[List.getElem?_eq_none h]at ha;cases ha
 have hkb:k<b.length:=by
  rcases Nat.lt_or_ge k b.length with h|h
  ·exact h
  ·rw[List.getElem?_eq_none h]at hb;cases hb
 rw[List.drop_eq_getElem_cons hka,List.drop_eq_getElem_cons hkb,h]
 rw[List.getElem?_eq_getElem hka]at ha;rw[List.getElem?_eq_getElem hkb]at hb
 injection ha with ha;injection hb with hb
 rw[ha,hb]
end Go.Proofs.YtcllkmllflheiaaGreatDoor
namespace Go.Proofs.YtcllkmllflheiaaGreatDoor
open Go.RowKit Go.Proofs
def nH (l:List Nat):List Value:=l.map fun(x:Nat)=>Value.int .i64 (x:Int)
theorem zB (l:List Nat) (k x:Nat) (h:l[k]? =some x):(nH l)[k]? =some (.int .i64 (x:Int)):=by simp[nH,h]
theorem Ds (l:List Nat) (k x:Nat):((nH l).toArray).setIfInBounds k (.int .i64 (x:Int))=(nH (l.set k x)).toArray:=by
 simp[nH,List.map_set]
theorem rL:(Tryz.prog.info? 3).map (fun i=>(i.zero,i.size,i.bytes))=some (some (.int .i64 0),1,8):=by kernel_rfl
theorem tD (w:World) (n:Nat) (hn:n≤1000000):
 (Instr.makeSlice 40 (.int .i64 (n:Int)) (.int .i64 (n:Int))).run Tryz.prog w= .ok (.slice (some ⟨w.heap.size,0,none⟩) n n) (w.alloc (.cells (nH (List.replicate n 0)).toArray 3)):=by
 obtain⟨i,hi,hz,hs,hb⟩:=info_parts rL
 have h:=run_make (P:=Tryz.prog) (w:=w) 40 3 i _ Tryz.underlying40 hi hz .i64 .i64 (n:Int) (n:Int) (by omega) (by omega) (by rw[hb];omega) (by omega)
 rw[h,Int.toNat_natCast,hs,Nat.mul_one]
 congr 3
 apply Array.ext'
 rw[show(Value.int IntKind.i64 0).cells= #[Value.int IntKind.i64 0]from rfl,toList_madeCells_one]
 simp[nH]
def IB (w:World) (g:Nat) (l:List Nat):Prop:=Bk w g 3 (nH l).toArray
theorem IB.get {w:World} {g:Nat} {l:List Nat} (h:IB w g l) (k x:Nat) (hx:l[k]? =some x):w.cell? ⟨g,k,none⟩=some (.int .i64 (x:Int)):=by
 have h1:=Bk.cell h k
 rw[h1];simpa using zB l k x hx
theorem IB.set {w:World} {g:Nat} {l:List Nat} (h:IB w g l) (k x:Nat):IB (w.setCell ⟨g,k,none⟩ (.int .i64 (x:Int))) g (l.set k x):=by
 have h1:=Bk.set h k (.int .i64 (x:Int))
 rw[Ds]at h1;exact h1
def RI (w:World) (g:Nat) (l:List Nat):Prop:=g<w.heap.size∧∀(k x:Nat),l[k]? =some x→w.cell? ⟨g,k,none⟩=some (.int .i64 (x:Int))
theorem IB.ri {w:World} {g:Nat} {l:List Nat} (h:IB w g l):RI w g l:=⟨Bk.lt h,fun k x hx=>h.get k x hx⟩
theorem RI.lt {w:World} {g:Nat} {l:List Nat} (h:RI w g l):g<w.heap.size:=h.1
theorem RI.get {w:World} {g:Nat} {l:List Nat} (h:RI w g l) (k x:Nat) (hx:l[k]? =some x):w.cell? ⟨g,k,none⟩=some (.int .i64 (x:Int)):=h.2 k x hx
theorem RI.keep {S:Nat→Prop} {w w':World} {g:Nat} {l:List Nat} (h:RI w g l) (hf:Fr S w w') (hg:¬S g):RI w' g l:=
 ⟨Nat.lt_of_lt_of_le h.1 hf.size,fun k x hx=>(hf.cell (a:=⟨g,k,none⟩) h.1 hg).trans (h.2 k x hx)⟩
theorem RI.alloc {w:World} {g:Nat} {l:List Nat} (h:RI w g l) (o:Obj):RI (w.alloc o) g l:=h.keep ((Fr.refl noB w).alloc o) id
theorem Dl (xs ys:List Nat) (a b n m s ca cb:Nat) (w:World) (hx:RI w a xs) (hy:RI w b ys) (hn:xs.length=n) (hm:ys.length=m) (hs:s=n+m) (hxl:n≤1000) (hyl:m≤1000) (dx:dig xs) (dy:dig ys):
 Calls Tryz.prog 26 #[.slice (some ⟨a,0,none⟩) n ca,.slice (some ⟨b,0,none⟩) m cb] w (fun e w'=>∃g r,e= .returned (.slice (some ⟨g,0,none⟩) s s)∧IB w' g r∧r.length=s∧dig r∧val r=val xs*val ys∧Fr noB w w'∧w.heap.size≤g):=by
 have hal:=hx.lt
 have hbl:=hy.lt
 have hmk:=tD w s (by omega)
 have hsum2:((n:Int)+(m:Int))=(s:Int):=by omega
 have hI0:IB (w.alloc (.cells (nH (List.replicate s 0)).toArray 3)) w.heap.size (List.replicate s 0):=Bk.new w _ _
 have hx1:RI (w.alloc (.cells (nH (List.replicate s 0)).toArray 3)) a xs:=hx.alloc _
 have hy1:RI (w.alloc (.cells (nH (List.replicate s 0)).toArray 3)) b ys:=hy.alloc _
 have hf1:Fr noB w (w.alloc (.cells (nH (List.replicate s 0)).toArray 3)):=(Fr.refl _ _).alloc _
 have hT0:=Tim.start xs ys
 rw[hn,hm,←hs]at hT0
 generalize w.alloc (.cells (nH (List.replicate s 0)).toArray 3)=w1 at*
 have Hs:=Lib.hid hs
 have Hn:=Lib.hid hn
 have Hm:=Lib.hid hm
 have hsl:s≤2000:=by omega
 clear hs hn hm
 generalize hg:w.heap.size=g at*
 have Hg:=Lib.hid hg
 clear hg
 go_enter Tryz.func26,Tryz.ntmps26
 go_wp2_with fail
 go_loopw [20] (fun i wr=>∃(k:Nat) (out:List Nat),k≤n∧i= .int .i64 k∧Tim xs ys k out∧IB wr g out∧Fr (fun q=>q=g) w1 wr) (fun i _=>n-(intOf i).toNat)
 case atStart=>exact⟨0,_,by omega,rfl,hT0,hI0,Fr.refl _ _⟩
 case round=>
  obtain⟨i,out,hi,rfl,hT,hI,hfr⟩:=hrel
  by_cases hlt:i<n
  ·obtain⟨x,hxi⟩:∃x,xs[i]? =some x:=⟨xs[i]'(by rw[Hn.out];exact hlt),List.getElem?_eq_getElem _⟩
   have hxd:x<65536:=dx x (List.mem_of_getElem? hxi)
   have hxw:RI wr a xs:=hx1.keep hfr (by omega)
   have hyw:RI wr b ys:=hy1.keep hfr (by omega)
   have hcx:=hxw.get i x hxi
   have hlen:=hT.len
   rw[Hn.out,Hm.out,←Hs.out]at hlen
   have hsi:i+m<s:=by have:=Hs.out;omega
   have Hlen:=Lib.hid hlen
   have Hxi:=Lib.hid hxi
   have hpl:Hid ((out.take i).length=i):=by unfold Hid;rw[List.length_take];omega
   have hR0:Row x (out.take i) (out.drop i) ys 0 0 out:=by
    have h:=Row.start (x:=x) (pre:=out.take i) (R0:=out.drop i) (ys:=ys) (by rw[List.take_append_drop];exact hT.dg)
    rw[List.take_append_drop]at h;exact h
   clear hlen hxi
   obtain⟨wo,rfl⟩:∃wo,wo=wr:=⟨_,rfl⟩
   go_wp2_with fail
   go_loopw [8,27] (fun c j wq=>∃(cc k:Nat) (cur:List Nat),k≤m∧j= .int .i64 k∧c= .int .i64 cc∧Row x (out.take i) (out.drop i) ys k cc cur∧IB wq g cur∧Fr (fun q=>q=g) w1 wq) (fun _ j _=>m-(intOf j).toNat)
   case atStart=>exact⟨0,0,_,by omega,rfl,rfl,hR0,hI,hfr⟩
   case round=>
    obtain⟨cc,j,cur,hj,rfl,rfl,hR,hIc,hfq⟩:=hrel
    have hcl:Hid (cur.length=s):=by
     unfold Hid;rw[hR.length,hpl.out,List.length_drop,Hlen.out];omega
    by_cases hjl:j<m
    ·obtain⟨y,hyj⟩:∃y,ys[j]? =some y:=⟨ys[j]'(by rw[Hm.out];exact hjl),List.getElem?_eq_getElem _⟩
     have hyd:y<65536:=dy y (List.mem_of_getElem? hyj)
     obtain⟨o,ho⟩:∃o,cur[i+j]? =some o:=⟨cur[i+j]'(by rw[hcl.out];omega),List.getElem?_eq_getElem _⟩
     obtain⟨hR2,hol,hxy,hcc⟩:=hR.step (y:=y) (o:=o) hyj (by rw[hpl.out];exact ho) hxd hyd
     rw[hpl.out]at hR2
     have hyq:RI wr b ys:=hy1.keep hfq (by omega)
     have hcy:=hyq.get j y hyj
     obtain⟨ij,hijq⟩:∃ij,ij=i+j:=⟨_,rfl⟩
     obtain⟨P,hP⟩:∃P,P=x*y:=⟨_,rfl⟩
     obtain⟨T,hTq⟩:∃T,T=o+P+cc:=⟨_,rfl⟩
     obtain⟨R,hRq⟩:∃R,R=T%65536:=⟨_,rfl⟩
     obtain⟨C,hCq⟩:∃C,C=T/65536:=⟨_,rfl⟩
     rw[←hijq]at ho hR2
     rw[←hP]at hxy hR2
     rw[←hTq]at hR2
     rw[←hRq,←hCq]at hR2
     have hco:=hIc.get ij o ho
     have hfz:=Bk.free hIc ij
     have hset:=hIc.set ij R
     have hfs:=hfq.setCell (p:=⟨g,ij,none⟩) (fun _=>rfl) (.int .i64 (R:Int))
     have hTl:T≤4295000000:=by omega
     have e1:(i:Int)+(j:Int)=(ij:Int):=by omega
     have e2:(x:Int)*(y:Int)=(P:Int):=by rw[hP];exact(Int.natCast_mul _ _).symm
     have e3:(o:Int)+(P:Int)+(cc:Int)=(T:Int):=by omega
     have e4:(T:Int)%65536=(R:Int):=by omega
     have e5:(T:Int)/65536=(C:Int):=by omega
     have hRl:R<65536:=by omega
     have hCl:C≤65536:=by omega
     have hijl:ij<s:=by have:=Hs.out;omega
     have Hset:=Lib.hid hset
     have HR2:=Lib.hid hR2
     have Hfs:=Lib.hid hfs
     clear hset hR2 hyj ho hijq hP hTq hRq hCq hfs
     go_wp2_with fail
     exact⟨⟨C,j+1,_,by omega,by rw[Int.natCast_add];rfl,rfl,HR2.out,Hset.out,Hfs.out⟩,by simp only[intOf];omega⟩
    ·obtain rfl:j=m:=by omega
     rw[←Hm.out]at hR
     obtain⟨hz0,hcc,hT2⟩:=hT.step Hxi.out hR
     rw[Hm.out]at hz0 hT2
     obtain⟨ij,hijq⟩:∃ij,ij=i+j:=⟨_,rfl⟩
     rw[←hijq,Nat.zero_add]at hT2
     rw[←hijq]at hz0
     have hco:=hIc.get ij 0 hz0
     have hfz:=Bk.free hIc ij
     have hset:=hIc.set ij cc
     have hfs:=hfq.setCell (p:=⟨g,ij,none⟩) (fun _=>rfl) (.int .i64 (cc:Int))
     have e1:(i:Int)+(j:Int)=(ij:Int):=by omega
     have hijl:ij<s:=by omega
     have Hset:=Lib.hid hset
     have HT2:=Lib.hid hT2
     have Hfs:=Lib.hid hfs
     clear hset hT2 hz0 hijq hfs hR
     go_wp2_with fail
     exact⟨⟨i+1,_,by omega,by rw[Int.natCast_add];rfl,HT2.out,Hset.out,Hfs.out⟩,by simp only[intOf];omega⟩
  ·obtain rfl:i=n:=by omega
   rw[←Hn.out]at hT
   have hv:=hT.all
   have hlen:=hT.len
   have hdg:=hT.dg
   have hfr2:Fr noB w wr:=hf1.trans' hfr fun q hq he=>absurd he (by have:=Hg.out;omega)
   rw[Hn.out,Hm.out,←Hs.out]at hlen
   clear hT
   go_wp2_with fail
   go_ret
   exact⟨g,out,rfl,hI,hlen,hdg,hv,hfr2,Nat.le_refl _⟩
theorem DO (xs ys:List Nat) (a b n m ca cb:Nat) (w:World) (hx:RI w a xs) (hy:RI w b ys) (hn:xs.length=n) (hm:ys.length=m) (hxl:n≤1000) (hmn:m≤n) (hn1:1≤n) (dx:dig xs) (dy:dig ys):
 Calls Tryz.prog 27 #[.slice (some ⟨a,0,none⟩) n ca,.slice (some ⟨b,0,none⟩) m cb] w (fun e w'=>e= .returned (.bool (decide (val ys<val xs)))∧Fr noB w w'):=by
 have hal:=hx.lt
 have hbl:=hy.lt
 have Hn:=Lib.hid hn
 have Hm:=Lib.hid hm
 have hmax:max (n:Int) (m:Int)=(n:Int):=by omega
 clear hn hm
 go_enter Tryz.func27,Tryz.ntmps27
 go_wp2_with fail
 go_loopw [5] (fun i wr=>∃(k:Nat),k≤n∧i= .int .i64 ((k:Int)-1)∧xs.drop k=(ext ys n).drop k∧Fr noB w wr) (fun i _=>(intOf i+1).toNat)
 case atStart=>exact⟨n,by omega,rfl,by rw[List.drop_eq_nil_of_le (by rw[Hn.out];omega),List.drop_eq_nil_of_le (by rw[qG (by rw[Hm.out];exact hmn)];omega)],Fr.refl _ _⟩
 case round=>
  obtain⟨k,hk,rfl,hd,hfr⟩:=hrel
  rcases Nat.eq_zero_or_pos k with rfl|hk0
  ·have hv:val xs=val ys:=by
    rw[List.drop_zero,List.drop_zero]at hd;rw[hd,wY]
   have hv2:decide (val ys<val xs)=false:=by rw[hv];simp
   clear hv hd
   go_wp2_with fail
   go_ret
   exact⟨congrArg (fun v=>Ending.returned (.bool v)) hv2.symm,hfr⟩
  ·obtain⟨i,rfl⟩:∃i,k=i+1:=⟨k-1,by omega⟩
   rw[show((i+1:Nat):Int)-1=(i:Int) by omega]
   have hxw:RI wr a xs:=hx.keep hfr id
   have hyw:RI wr b ys:=hy.keep hfr id
   obtain⟨x,hxi⟩:∃x,xs[i]? =some x:=⟨xs[i]'(by rw[Hn.out];exact hk),List.getElem?_eq_getElem _⟩
   have hxd:x<65536:=dx x (List.mem_of_getElem? hxi)
   have hcx:=hxw.get i x hxi
   have hlen2:(ext ys n).length=n:=qG (by rw[Hm.out];exact hmn)
   have hcmp:∀y,(ext ys n)[i]? =some y→(x<y→decide (val ys<val xs)=false)∧(y<x→decide (val ys<val xs)=true):=by
    intro y hy
    have hl:xs.length=(ext ys n).length:=by rw[Hn.out,hlen2]
    refine⟨fun h=> ?_,fun h=> ?_⟩
    ·have h1:=lR dx (BM dy n) hl i (by rw[Hn.out];exact hk) hd x y hxi hy h
     rw[wY]at h1;simp;omega
    ·have h1:=lR (BM dy n) dx hl.symm i (by rw[hlen2];exact hk) hd.symm y x hy hxi h
     rw[wY]at h1;simp;omega
   have hnext:∀y,(ext ys n)[i]? =some y→x=y→xs.drop i=(ext ys n).drop i:=by
    intro y hy h;subst h;exact AD hxi hy hd
   clear hlen2
   by_cases him:i<m
   ·obtain⟨y,hyi⟩:∃y,ys[i]? =some y:=⟨ys[i]'(by rw[Hm.out];exact him),List.getElem?_eq_getElem _⟩
    have hyd:y<65536:=dy y (List.mem_of_getElem? hyi)
    have hcy:=hyw.get i y hyi
    have hye:(ext ys n)[i]? =some y:=by rw[Gq (by rw[Hm.out];exact him)];exact hyi
    have Hcmp:=Lib.hid (hcmp y hye)
    have Hnext:=Lib.hid (hnext y hye)
    have Hxi:=Lib.hid hxi
    clear hxi hyi hye hcmp hnext
    rcases Nat.lt_trichotomy x y with h|h|h
    ·have h1:=Hcmp.out.1 h
     go_wp2_with fail
     go_ret
     exact⟨congrArg (fun v=>Ending.returned (.bool v)) (show decide (y<x)=decide (val ys<val xs) by rw[h1];simp;omega),hfr⟩
    ·have h1:=Hnext.out h
     have h2:=Lib.hid h1
     clear h1
     go_wp2_with fail
     exact⟨⟨i,by omega,rfl,h2.out,hfr⟩,by simp only[intOf];omega⟩
    ·have h1:=Hcmp.out.2 h
     go_wp2_with fail
     go_ret
     exact⟨congrArg (fun v=>Ending.returned (.bool v)) h1.symm,hfr⟩
   ·have hye:(ext ys n)[i]? =some 0:=Es (by rw[Hm.out];omega) (by omega)
    have Hcmp:=Lib.hid (hcmp 0 hye)
    have Hnext:=Lib.hid (hnext 0 hye)
    have Hxi:=Lib.hid hxi
    clear hxi hye hcmp hnext
    rcases Nat.eq_zero_or_pos x with h|h
    ·have h1:=Hnext.out h
     have h2:=Lib.hid h1
     clear h1
     subst h
     go_wp2_with fail
     exact⟨⟨i,by omega,rfl,h2.out,hfr⟩,by simp only[intOf];omega⟩
    ·have h1:=Hcmp.out.2 h
     go_wp2_with fail
     go_ret
     exact⟨congrArg (fun v=>Ending.returned (.bool v)) h1.symm,hfr⟩
end Go.Proofs.YtcllkmllflheiaaGreatDoor
