/- Parts of the walk; written by programs, merged. -/
import Derived.Test.YtcbkaiakdhiloacGreatDoorRan
set_option linter.unusedSimpArgs false
set_option linter.unusedVariables false
set_option maxRecDepth 20000
set_option maxHeartbeats 8000000
namespace Go.Proofs.YtcbkaiakdhiloacGreatDoor
open Go.RowKit Go.Proofs
theorem UB.free {w:World} {g:Nat} {t:TypeId} {l:List UInt32} (h:UB w g t l) (k:Nat):w.frozen? ⟨g,k,none⟩=false:=Bk.free h k
theorem Eo {w:World} {g:Nat} {t:TypeId} {cs cs':Array Value} (h:Bk w g t cs):Bk (w.setRow g cs') g t cs'∧Fr (aI g) w (w.setRow g cs'):=by
 unfold Bk at h⊢
 refine⟨by simp[World.setRow,Array.getElem?_modify,h],⟨rfl,rfl,rfl,by simp[World.setRow],fun k hk hn=> ?_⟩⟩
 have hne:g≠k:=fun e=>hn e.symm
 simp[World.setRow,Array.getElem?_modify,hne]
theorem GQ (l:List UInt32):∀u∈kD l,u.oneCell'=true:=by
 intro u hu;simp only[kD,List.mem_map]at hu;obtain⟨b,_,rfl⟩:=hu;rfl
theorem DL (w:World) (g:Nat) (a b c d e f x y:UInt32) (h:UB w g 201 [a,b,c,d,e,f,x,y]):
 ∃w',(Builtin.copy_ #[285,285] 3 #[.slice (some ⟨g,1,none⟩) 7 7,.slice (some ⟨g,0,none⟩) 7 8]).run Tryz.prog w= .ok (goInt 7) w'∧
  UB w' g 201 [a,a,b,c,d,e,f,x]∧Fr (aI g) w w':=by
 have hr:=run_copy_row (P:=Tryz.prog) w 285 285 3 37 g 1 7 7 ⟨g,0,none⟩ 7 8 (kD [a,b,c,d,e,f,x,y]).toArray 201 (kD [a,b,c,d,e,f,x]) Tryz.underlying285 (by kernel_rfl) h rfl
  (fun j v hj=>by
   rw[gA,Nat.zero_add]
   match j,hj with
   |0,hj=>injection hj with hj;subst hj;exact h.get 0 _ rfl
   |1,hj=>injection hj with hj;subst hj;exact h.get 1 _ rfl
   |2,hj=>injection hj with hj;subst hj;exact h.get 2 _ rfl
   |3,hj=>injection hj with hj;subst hj;exact h.get 3 _ rfl
   |4,hj=>injection hj with hj;subst hj;exact h.get 4 _ rfl
   |5,hj=>injection hj with hj;subst hj;exact h.get 5 _ rfl
   |6,hj=>injection hj with hj;subst hj;exact h.get 6 _ rfl
   |j+7,hj=>cases hj) (by simp[kD]) (GQ _)
 obtain⟨h1,h2⟩:=Eo (cs':=((kD [a,b,c,d,e,f,x,y]).toArray.toList.take 1++kD [a,b,c,d,e,f,x]++(kD [a,b,c,d,e,f,x,y]).toArray.toList.drop (1+(kD [a,b,c,d,e,f,x]).length)).toArray) h
 exact⟨_,hr,h1,h2⟩
theorem Mx (a:Act) (w:World) (K:KT) (hs:Sz 195 a)
 (hK:∀a' w',Sz 195 a'→Kp [0,1,5,6,7,8,9,10,11,12,13,14,15,16,17,18,104,178] a a'→sl a' 4= .pointer (some ⟨w.heap.size,0,none⟩)→w'=w.alloc (.cells (kD (List.replicate 64 0)).toArray 283)→K .normal a' w'):
 (aH Tryz.f187 0).wp Tryz.prog K a w:=by
 refine rgE hK (bF hs) fun HK=> ?_;clear hK hs
 simp only[fS]
 go_wp2_with fail
 exact HK.out _ _ ⟨rfl,rfl⟩ kZ (rfl) rfl
theorem KD (p:Nat) (v:S8) (a:Act) (w:World) (K:KT) (hs:Sz 195 a)
 (h0:sl a 0= .pointer (some ⟨p,0,none⟩)) (hR:RU w p v.list)
 (hK:∀a' w',Sz 195 a'→Kp [0,1,4,5,6,7,8,9,10,12,13,14,15,16,17,18,104,178] a a'→sl a' 11= .pointer (some ⟨w.heap.size,0,none⟩)→UB w' w.heap.size 201 v.list→Fr noB w w'→K .normal a' w'):
 (aH Tryz.f187 13).wp Tryz.prog K a w:=by
 refine rgE hK (bF hs) fun HK=> ?_;clear hK hs
 have c0:=hR.2 0 _ rfl
 have c1:=hR.2 1 _ rfl
 have c2:=hR.2 2 _ rfl
 have c3:=hR.2 3 _ rfl
 have c4:=hR.2 4 _ rfl
 have c5:=hR.2 5 _ rfl
 have c6:=hR.2 6 _ rfl
 have c7:=hR.2 7 _ rfl
 clear hR
 simp only[fS,h0]
 go_wp2_with fail
 exact HK.out _ _ ⟨rfl,rfl⟩ kZ (rfl) (Bk.new w _ (kD v.list).toArray) ((Fr.refl _ _).alloc _)
theorem JT (gh:Nat) (a0 b c d e f x y:UInt32) (a:Act) (w:World) (K:KT) (hs:Sz 195 a)
 (h11:sl a 11= .pointer (some ⟨gh,0,none⟩)) (hU:UB w gh 201 [a0,b,c,d,e,f,x,y])
 (hK:∀a' w',Sz 195 a'→Kp [0,1,4,5,6,7,8,9,10,11,12,13,14,15,16,17,18,104,178] a a'→UB w' gh 201 [a0,a0,b,c,d,e,f,x]→Fr (aI gh) w w'→K .normal a' w'):
 (aH Tryz.f187 20).wp Tryz.prog K a w:=by
 refine rgE hK (bF hs) fun HK=> ?_;clear hK hs
 obtain⟨w3,hrun,hU3,hf3⟩:=DL w.drew gh a0 b c d e f x y hU
 have hf4:Fr (aI gh) w w3:=((Fr.refl _ w).drew).trans hf3
 have hbk:Bk w gh 201 (kD [a0,b,c,d,e,f,x,y]).toArray:=hU
 clear hU hf3
 simp only[fS,h11]
 refine wp_region_still_tail 2 (by kernel_rfl) (by kernel_rfl) ?_
 simp only[List.take_succ_cons,List.take_zero,List.drop_succ_cons,List.drop_zero]
 repeat still_step
 refine wpStill_nil ?_
 refine qP rfl (.tmp 165) (.tmp 166) _ _ rfl hrun rfl rfl ?_
 refine wpList_nil ?_
 exact HK.out _ _ ⟨rfl,rfl⟩ kZ hU3 hf4
theorem KO (gh:Nat) (x t:UInt32) (a:Act) (w:World) (K:KT) (hs:Sz 195 a)
 (h11:sl a 11= .pointer (some ⟨gh,0,none⟩)) (h15:sl a 15= .int .u32 (t.toNat:Int)) (hx:w.cell? ⟨gh,4,none⟩=some (.int .u32 (x.toNat:Int))) (hfz:w.frozen? ⟨gh,4,none⟩=false)
 (hK:∀a' w',Sz 195 a'→Kp [0,1,4,5,6,7,8,9,10,11,12,13,14,15,16,17,18,104,178] a a'→w'=w.setCell ⟨gh,4,none⟩ (.int .u32 ((x+t).toNat:Int))→K .normal a' w'):
 (aH Tryz.f187 21).wp Tryz.prog K a w:=by
 refine rgE hK (bF hs) fun HK=> ?_;clear hK hs
 have xlx:(x.toNat:Int)≤4294967295:=by have:=x.toNat_lt;omega
 have xlt:(t.toNat:Int)≤4294967295:=by have:=t.toNat_lt;omega
 obtain⟨r1,hr1⟩:∃r,r=x+t:=⟨_,rfl⟩
 have s1:=Ln x t
 rw[←hr1]at s1 HK
 clear hr1
 simp only[fS,h11,h15]
 go_wp2_with fail
 exact HK.out _ _ ⟨rfl,rfl⟩ kZ rfl
theorem J2 (gh:Nat) (t q:UInt32) (z:Value) (a:Act) (w:World) (K:KT) (hs:Sz 195 a)
 (h11:sl a 11= .pointer (some ⟨gh,0,none⟩)) (h15:sl a 15= .int .u32 (t.toNat:Int)) (h16:sl a 16= .int .u32 (q.toNat:Int)) (hx:w.cell? ⟨gh,0,none⟩=some (z)) (hfz:w.frozen? ⟨gh,0,none⟩=false)
 (hK:∀a' w',Sz 195 a'→Kp [0,1,4,5,6,7,8,9,10,11,12,13,14,15,16,17,18,104,178] a a'→w'=w.setCell ⟨gh,0,none⟩ (.int .u32 ((t+q).toNat:Int))→K .normal a' w'):
 (aH Tryz.f187 22).wp Tryz.prog K a w:=by
 refine rgE hK (bF hs) fun HK=> ?_;clear hK hs
 have xlt:(t.toNat:Int)≤4294967295:=by have:=t.toNat_lt;omega
 have xlq:(q.toNat:Int)≤4294967295:=by have:=q.toNat_lt;omega
 obtain⟨r1,hr1⟩:∃r,r=t+q:=⟨_,rfl⟩
 have s1:=Ln t q
 rw[←hr1]at s1 HK
 clear hr1
 simp only[fS,h11,h15,h16]
 go_wp2_with fail
 exact HK.out _ _ ⟨rfl,rfl⟩ kZ rfl
end Go.Proofs.YtcbkaiakdhiloacGreatDoor
namespace Go.Proofs.YtcbkaiakdhiloacGreatDoor
open Go.RowKit Go.Proofs
noncomputable abbrev Lh:Func:=Tryz.f187
def iY (l:List UInt32):List UInt32:=l++List.replicate (64-l.length) 0
theorem yJ (l:List UInt32) (x:UInt32) (h:l.length<64):(iY l).set l.length x=iY (l++[x]):=by
 unfold iY
 rw[List.set_append_right _ _ (Nat.le_refl _),Nat.sub_self,show 64-l.length=(64-(l++[x]).length)+1 by simp;omega,List.replicate_succ,List.set_cons_zero,List.append_assoc];rfl
theorem DK (l:List UInt32) (k:Nat) (h:k<l.length):(iY l)[k]? =some (l.getD k 0):=by
 unfold iY
 rw[List.getElem?_append_left h,AM l k h]
theorem Ac (l:List UInt32) (h:l.length<64):∃z,(iY l)[l.length]? =some z:=⟨_,by unfold iY;rw[List.getElem?_append_right (Nat.le_refl _),Nat.sub_self,show 64-l.length=(63-l.length)+1 by omega,List.replicate_succ];rfl⟩
theorem FD (l:List UInt32) (h:l.length=64):iY l=l:=by unfold iY;rw[h];simp
def RB (w:World) (gb off:Nat) (B:List UInt8):Prop:=gb<w.heap.size∧∀(k:Nat) (x:UInt8),B[k]? =some x→w.cell? ⟨gb,off+k,none⟩=some (.int .u8 (x.toNat:Int))
theorem RB.keep {S:Nat→Prop} {w w':World} {g off:Nat} {l:List UInt8} (h:RB w g off l) (hf:Fr S w w') (hg:¬S g):RB w' g off l:=
 ⟨Nat.lt_of_lt_of_le h.1 hf.size,fun k x hx=>(hf.cell (a:=⟨g,off+k,none⟩) h.1 hg).trans (h.2 k x hx)⟩
theorem F6 (B:List UInt8) (hB:64≤B.length) (gw gb off cb:Nat) (hne:gb≠gw) (a:Act) (w:World) (K:KT) (hs:Sz 195 a)
 (h1:sl a 1= .slice (some ⟨gb,off,none⟩) 64 cb) (h4:sl a 4= .pointer (some ⟨gw,0,none⟩)) (h18:sl a 18= .int .i64 ((0:Nat):Int))
 (hb:RB w gb off B) (hU:UB w gw 283 (iY []))
 (hK:∀a' w',Sz 195 a'→Kp [0,1,4] a a'→UB w' gw 283 (iY (wsN B 16))→Fr (aI gw) w w'→K .normal a' w'):
 (fR Lh 0).wp Tryz.prog K a w:=by
 have HK:=Lib.hid hK
 clear hK
 conv=>arg 2;whnf
 refine wp_block ?_
 refine fO 195 (fun a' w'=>∃i:Nat,i≤16∧sl a' 18= .int .i64 (i:Int)∧Kp [0,1,4] a a'∧UB w' gw 283 (iY (wsN B i))∧Fr (aI gw) w w') (fun a' _=>16-(intOf (sl a' 18)).toNat)
  hs ⟨0,by omega,h18,Kp.refl _ _,hU,Fr.refl _ _⟩ ?_
 rintro a1 w1 hs1 ⟨i,hi,e18,k1,hU1,hf⟩
 refine wp_seq ?_
 refine LF i a1 w1 _ hs1 e18 hi ?_
 intro a2 w2 hs2 k2 o19 f2
 have k2a:Kp [0,1,4] a a2:=fun x hx=>(k2 x (by revert hx;revert x;decide)).trans (k1 x hx)
 have e18b:=k2.t e18
 have hU2:=Bk.keep hU1 f2 id
 have hf2:=hf.none f2
 refine wp_seq ?_
 refine yB o19 (fun hb2=> ?_) (fun hb2=> ?_)
 ·have hlt:i<16:=of_decide_eq_true hb2
  refine wp_skip ?_
  refine wp_seq (wp_block (wp_seq ?_))
  refine MH i a2 w2 _ hs2 e18b ?_
  intro a3 w3 hs3 k3 o5 f3
  have k3a:Kp [0,1,4] a a3:=fun x hx=>(k3 x (by revert hx;revert x;decide)).trans (k2a x hx)
  have hU3:UB w3 gw 283 (iY (wsN B i)):=Bk.keep hU2 f3 id
  have hf3:=hf2.none f3
  have hb3:RB w3 gb off B:=hb.keep hf3 hne
  have hat:∀j,j<B.length→B[j]? =some (B.getD j 0):=fun j hj=>by rw[List.getD_eq_getElem?_getD,List.getElem?_eq_getElem hj];rfl
  have hlen:(wsN B i).length=i:=oE B i
  obtain⟨z,hz⟩:=Ac (wsN B i) (by omega)
  rw[hlen]at hz
  refine L9 i gw gb off cb _ _ _ _ _ a3 w3 _ hs3 (k3a.t h1) (k3a.t h4) o5 hlt (hb3.2 _ _ (hat _ (by omega))) (hb3.2 _ _ (hat _ (by omega))) (hb3.2 _ _ (hat _ (by omega))) (hb3.2 _ _ (hat _ (by omega))) (hU3.get i z hz) (hU3.free i) ?_
  intro a4 w4 hs4 k4 hw4
  subst hw4
  have hU4:=UB.set (w:=w3.drew) hU3 i (wd (B.getD (4*i+0) 0) (B.getD (4*i+1) 0) (B.getD (4*i+2) 0) (B.getD (4*i+3) 0))
  have hset:=yJ (wsN B i) (wd (B.getD (4*i+0) 0) (B.getD (4*i+1) 0) (B.getD (4*i+2) 0) (B.getD (4*i+3) 0)) (by omega)
  rw[hlen]at hset
  rw[hset,show wsN B i++[wd (B.getD (4*i+0) 0) (B.getD (4*i+1) 0) (B.getD (4*i+2) 0) (B.getD (4*i+3) 0)]=wsN B (i+1)from(KE B i hlt).symm]at hU4
  have hf4:Fr (aI gw) w (w3.drew.setCell ⟨gw,i,none⟩ (.int .u32 ((wd (B.getD (4*i+0) 0) (B.getD (4*i+1) 0) (B.getD (4*i+2) 0) (B.getD (4*i+3) 0)).toNat:Int))):=hf3.drew.setCell (p:=⟨gw,i,none⟩) (fun _=>rfl) _
  refine LM i a4 _ _ hs4 (k4.t (k3.t e18b)) hi ?_
  intro a5 w5 hs5 k5 o18 f5
  refine⟨hs5,⟨i+1,by omega,o18,fun x hx=>(k5 x (by revert hx;revert x;decide)).trans ((k4 x (by revert hx;revert x;decide)).trans (k3a x hx)),Bk.keep hU4 f5 id,hf4.none f5⟩,?_⟩
  rw[o18,e18];simp only[intOf];omega
 ·have:i=16:=by have:=of_decide_eq_false hb2;omega
  subst this
  refine wp_exit (bZ (bZ (cQ ?_)))
  exact HK.out a2 w2 hs2 k2a hU2 hf2
theorem HM (B:List UInt8) (hB:64≤B.length) (gw:Nat) (a:Act) (w:World) (K:KT) (hs:Sz 195 a)
 (h4:sl a 4= .pointer (some ⟨gw,0,none⟩)) (h6:sl a 6= .int .i64 ((16:Nat):Int)) (hU:UB w gw 283 (iY (wsN B 16)))
 (hK:∀a' w',Sz 195 a'→Kp [0,1,4] a a'→UB w' gw 283 (wsN B 64)→Fr (aI gw) w w'→K .normal a' w'):
 (fR Lh 2).wp Tryz.prog K a w:=by
 have HK:=Lib.hid hK
 clear hK
 conv=>arg 2;whnf
 refine wp_block ?_
 refine fO 195 (fun a' w'=>∃i:Nat,16≤i∧i≤64∧sl a' 6= .int .i64 (i:Int)∧Kp [0,1,4] a a'∧UB w' gw 283 (iY (wsN B i))∧Fr (aI gw) w w') (fun a' _=>64-(intOf (sl a' 6)).toNat)
  hs ⟨16,by omega,by omega,h6,Kp.refl _ _,hU,Fr.refl _ _⟩ ?_
 rintro a1 w1 hs1 ⟨i,h16,hi,e6,k1,hU1,hf⟩
 refine wp_seq (wp_seq ?_)
 refine MM i a1 w1 _ hs1 e6 hi ?_
 intro a2 w2 hs2 k2 o58 f2
 have k2a:Kp [0,1,4] a a2:=fun x hx=>(k2 x (by revert hx;revert x;decide)).trans (k1 x hx)
 have e6b:=k2.t e6
 have hU2:=Bk.keep hU1 f2 id
 have hf2:=hf.none f2
 have hlen:(wsN B i).length=i:=oE B i
 refine yB o58 (fun hb2=> ?_) (fun hb2=> ?_)
 ·have hlt:i<64:=of_decide_eq_true hb2
  refine wp_skip ?_
  refine wp_seq (wp_block (wp_seq ?_))
  have G:∀{w':World},UB w' gw 283 (iY (wsN B i))→∀k,k<i→w'.cell? ⟨gw,k,none⟩=some (.int .u32 (((wsN B i).getD k 0).toNat:Int)):=fun h k hk=>h.get k _ (DK _ _ (by omega))
  refine Mw i gw _ _ a2 w2 _ hs2 (k2a.t h4) e6b h16 hlt (G hU2 _ (by omega)) (G hU2 _ (by omega)) ?_
  intro a3 w3 hs3 k3 o7 o8 f3
  have hU3:UB w3 gw 283 (iY (wsN B i)):=Bk.keep hU2 f3 id
  refine wp_seq ?_
  refine Ld _ a3 w3 _ hs3 o7 ?_
  intro a4 w4 hs4 k4 o9 f4
  have hU4:UB w4 gw 283 (iY (wsN B i)):=Bk.keep hU3 f4 id
  refine wp_seq ?_
  refine KG _ a4 w4 _ hs4 (k4.t o8) ?_
  intro a5 w5 hs5 k5 o10 f5
  have hU5:UB w5 gw 283 (iY (wsN B i)):=Bk.keep hU4 f5 id
  have hf5:=((hf2.none f3).none f4).none f5
  have k5a:Kp [0,1,4] a a5:=fun x hx=>(k5 x (by revert hx;revert x;decide)).trans ((k4 x (by revert hx;revert x;decide)).trans ((k3 x (by revert hx;revert x;decide)).trans (k2a x hx)))
  have e6e:=k5.t (k4.t (k3.t e6b))
  obtain⟨z,hz⟩:=Ac (wsN B i) (by omega)
  rw[hlen]at hz
  refine KK i gw _ _ _ _ _ a5 w5 _ hs5 (k5a.t h4) e6e (k5.t o9) o10 h16 hlt (G hU5 _ (by omega)) (G hU5 _ (by omega)) (hU5.get i z hz) (hU5.free i) ?_
  intro a6 w6 hs6 k6 hw6
  subst hw6
  have hU6:=UB.set (w:=w5.drew) hU5 i (CR (wsN B i))
  have hset:=yJ (wsN B i) (CR (wsN B i)) (by omega)
  rw[hlen]at hset
  rw[hset,←JQ B i h16]at hU6
  have hnx:CR (wsN B i)=(wsN B i).getD (i-16) 0+sg0 ((wsN B i).getD (i-15) 0)+(wsN B i).getD (i-7) 0+sg1 ((wsN B i).getD (i-2) 0):=by rw[CR,hlen]
  rw[hnx]at hU6
  have hf6:=hf5.drew.setCell (p:=⟨gw,i,none⟩) (fun _=>rfl) (.int .u32 (((wsN B i).getD (i-16) 0+sg0 ((wsN B i).getD (i-15) 0)+(wsN B i).getD (i-7) 0+sg1 ((wsN B i).getD (i-2) 0)).toNat:Int))
  refine Mt i a6 _ _ hs6 (k6.t e6e) hi ?_
  intro a7 w7 hs7 k7 o6 f7
  refine⟨hs7,⟨i+1,by omega,by omega,o6,fun x hx=>(k7 x (by revert hx;revert x;decide)).trans ((k6 x (by revert hx;revert x;decide)).trans (k5a x hx)),Bk.keep hU6 f7 id,hf6.none f7⟩,?_⟩
  rw[o6,e6];simp only[intOf];omega
 ·have:i=64:=by have:=of_decide_eq_false hb2;omega
  subst this
  refine wp_exit (bZ (bZ (cQ ?_)))
  rw[FD _ hlen]at hU2
  exact HK.out a2 w2 hs2 k2a hU2 hf2
theorem EI (H:S8) (ws:List UInt32) (hws:ws.length=64) (gw gh:Nat) (hne:gw≠gh) (hnr:5≠gh) (a:Act) (w:World) (K:KT) (hs:Sz 195 a)
 (h4:sl a 4= .pointer (some ⟨gw,0,none⟩)) (h11:sl a 11= .pointer (some ⟨gh,0,none⟩)) (h104:sl a 104= .int .i64 ((0:Nat):Int))
 (hRw:RU w gw ws) (hRk:RU w 5 rD) (hU:UB w gh 201 H.list)
 (hK:∀a' w',Sz 195 a'→Kp [0,1,4,11] a a'→UB w' gh 201 (GC H ws 64).list→Fr (aI gh) w w'→K .normal a' w'):
 (fR Lh 4).wp Tryz.prog K a w:=by
 have HK:=Lib.hid hK
 clear hK
 conv=>arg 2;whnf
 refine wp_block ?_
 refine fO 195 (fun a' w'=>∃i:Nat,i≤64∧sl a' 104= .int .i64 (i:Int)∧Kp [0,1,4,11] a a'∧UB w' gh 201 (GC H ws i).list∧Fr (aI gh) w w') (fun a' _=>64-(intOf (sl a' 104)).toNat)
  hs ⟨0,by omega,h104,Kp.refl _ _,hU,Fr.refl _ _⟩ ?_
 rintro a1 w1 hs1 ⟨i,hi,e104,k1,hU1,hf⟩
 refine wp_seq ?_
 refine KU i a1 w1 _ hs1 e104 hi ?_
 intro a2 w2 hs2 k2 o105 f2
 have k2a:Kp [0,1,4,11] a a2:=fun x hx=>(k2 x (by revert hx;revert x;decide)).trans (k1 x hx)
 have e104b:=k2.t e104
 have hU2:=Bk.keep hU1 f2 id
 have hf2:=hf.none f2
 refine wp_seq ?_
 refine yB o105 (fun hb2=> ?_) (fun hb2=> ?_)
 ·have hlt:i<64:=of_decide_eq_true hb2
  have hk:rD[i]? =some (rD.getD i 0):=AM rD i hlt
  have hx:ws[i]? =some (ws.getD i 0):=AM ws i (by omega)
  have hnx:GC H ws (i+1)=rnd (GC H ws i) (rD.getD i 0) (ws.getD i 0):=rfl
  generalize GC H ws i=v at*
  generalize rD.getD i 0=kk at*
  generalize ws.getD i 0=xx at*
  refine wp_skip ?_
  refine wp_seq (wp_block (wp_seq ?_))
  refine J3 i a2 w2 _ hs2 e104b ?_
  intro a3 w3 hs3 k3 o12 f3
  have hU3:UB w3 gh 201 v.list:=Bk.keep hU2 f3 id
  have e11c:=k3.t (k2a.t h11)
  refine wp_seq ?_
  refine J1 gh v.e v.a a3 w3 _ hs3 e11c (hU3.get 4 _ rfl) (hU3.get 0 _ rfl) ?_
  intro a4 w4 hs4 k4 o13 o14 f4
  have hU4:UB w4 gh 201 v.list:=Bk.keep hU3 f4 id
  have hf4:=(hf2.none f3).none f4
  have e11d:=k4.t e11c
  have e4d:=k4.t (k3.t (k2a.t h4))
  refine wp_seq ?_
  refine KV i gh gw v.e v.f v.g v.h kk xx a4 w4 _ hs4 e4d e11d (k4.t o12) o13 hlt (hU4.get 7 _ rfl) (hU4.get 5 _ rfl) (hU4.get 6 _ rfl) ((hRk.keep hf4 hnr).2 _ _ hk) ((hRw.keep hf4 hne).2 _ _ hx) ?_
  intro a5 w5 hs5 k5 o15 f5
  have hU5:UB w5 gh 201 v.list:=Bk.keep hU4 f5 id
  have e11e:=k5.t e11d
  refine wp_seq ?_
  refine K0 gh v.a v.b v.c a5 w5 _ hs5 e11e (k5.t o14) (hU5.get 1 _ rfl) (hU5.get 2 _ rfl) ?_
  intro a6 w6 hs6 k6 o16 f6
  have hU6:UB w6 gh 201 v.list:=Bk.keep hU5 f6 id
  have hf6:=(hf4.none f5).none f6
  have e11f:=k6.t e11e
  refine wp_seq ?_
  refine JT gh v.a v.b v.c v.d v.e v.f v.g v.h a6 w6 _ hs6 e11f hU6 ?_
  intro a7 w7 hs7 k7 hU7 f7
  have hf7:=hf6.trans f7
  have e11g:=k7.t e11f
  have e15g:=k7.t (k6.t o15)
  have e16g:=k7.t o16
  refine wp_seq ?_
  refine KO gh v.d _ a7 w7 _ hs7 e11g e15g (hU7.get 4 _ rfl) (hU7.free 4) ?_
  intro a8 w8 hs8 k8 hw8
  subst hw8
  have hU8:=UB.set hU7 4 (v.d+(v.h+bg1 v.e+chs v.e v.f v.g+kk+xx))
  have hf8:=hf7.setCell (p:=⟨gh,4,none⟩) (fun _=>rfl) (.int .u32 ((v.d+(v.h+bg1 v.e+chs v.e v.f v.g+kk+xx)).toNat:Int))
  refine J2 gh _ _ _ a8 _ _ hs8 (k8.t e11g) (k8.t e15g) (k8.t e16g) (hU8.get 0 _ rfl) (hU8.free 0) ?_
  intro a9 w9 hs9 k9 hw9
  subst hw9
  have hU9:=UB.set hU8 0 ((v.h+bg1 v.e+chs v.e v.f v.g+kk+xx)+(bg0 v.a+maj v.a v.b v.c))
  have hf9:=hf8.setCell (p:=⟨gh,0,none⟩) (fun _=>rfl) (.int .u32 (((v.h+bg1 v.e+chs v.e v.f v.g+kk+xx)+(bg0 v.a+maj v.a v.b v.c)).toNat:Int))
  have k9a:Kp [0,1,4,11,104] a2 a9:=fun x hx=>(k9 x (by revert hx;revert x;decide)).trans ((k8 x (by revert hx;revert x;decide)).trans ((k7 x (by revert hx;revert x;decide)).trans ((k6 x (by revert hx;revert x;decide)).trans ((k5 x (by revert hx;revert x;decide)).trans ((k4 x (by revert hx;revert x;decide)).trans (k3 x (by revert hx;revert x;decide)))))))
  refine JW i a9 _ _ hs9 (k9a.t e104b) hi ?_
  intro a10 w10 hs10 k10 o104 f10
  refine⟨hs10,⟨i+1,by omega,o104,fun x hx=>(k10 x (by revert hx;revert x;decide)).trans ((k9a x (by revert hx;revert x;decide)).trans (k2a x hx)),?_,hf9.none f10⟩,?_⟩
  ·rw[hnx];exact Bk.keep hU9 f10 id
  ·rw[o104,e104];simp only[intOf];omega
 ·have:i=64:=by have:=of_decide_eq_false hb2;omega
  subst this
  refine wp_exit (bZ (bZ (cQ ?_)))
  exact HK.out a2 w2 hs2 k2a hU2 hf2
end Go.Proofs.YtcbkaiakdhiloacGreatDoor
namespace Go.Proofs.YtcbkaiakdhiloacGreatDoor
open Go.RowKit Go.Proofs
def StB (w:World) (p:Nat) (l:List UInt32) (r n:Value):Prop:=Bk w p 204 (kD l++[r,n]).toArray
theorem StB.ru {w:World} {p:Nat} {l:List UInt32} {r n:Value} (h:StB w p l r n):RU w p l:=⟨Bk.lt h,fun k x hx=>by
 have hk:k<l.length:=by
  rcases Nat.lt_or_ge k l.length with h|h
  ·exact h
  ·rw[List.getElem?_eq_none h]at hx;cases hx
 rw[Bk.cell h k]
 simp only[List.getElem?_toArray]
 rw[List.getElem?_append_left (by rw[sF];exact hk)]
 exact vK l k x hx⟩
theorem StB.free {w:World} {p:Nat} {l:List UInt32} {r n:Value} (h:StB w p l r n) (k:Nat):w.frozen? ⟨p,k,none⟩=false:=Bk.free h k
theorem StB.set {w:World} {p:Nat} {l:List UInt32} {r n:Value} (h:StB w p l r n) (k:Nat) (x:UInt32) (hk:k<l.length):StB (w.setCell ⟨p,k,none⟩ (.int .u32 (x.toNat:Int))) p (l.set k x) r n:=by
 have h1:=Bk.set h k (.int .u32 (x.toNat:Int))
 have e:(kD l++[r,n]).toArray.setIfInBounds k (.int .u32 (x.toNat:Int))=(kD (l.set k x)++[r,n]).toArray:=by
  rw[List.setIfInBounds_toArray,List.set_append_left _ _ (by rw[sF];exact hk)]
  simp[kD,List.map_set]
 rw[e]at h1;exact h1
theorem StB.keep {S:Nat→Prop} {w w':World} {p:Nat} {l:List UInt32} {r n:Value} (h:StB w p l r n) (hf:Fr S w w') (hp:¬S p):StB w' p l r n:=Bk.keep h hf hp
theorem AB (x y:S8) (i:Nat) (h:i≤8):(Ge x y i).length=8:=by
 unfold Ge;rw[List.length_append,List.length_take,List.length_drop,S8.list_length,S8.list_length];omega
theorem J8 (H V:S8) (r n:Value) (p gh:Nat) (hne:gh≠p) (a:Act) (w:World) (K:KT) (hs:Sz 195 a)
 (h0:sl a 0= .pointer (some ⟨p,0,none⟩)) (h11:sl a 11= .pointer (some ⟨gh,0,none⟩)) (h178:sl a 178= .int .i64 ((0:Nat):Int))
 (hS:StB w p H.list r n) (hR:RU w gh V.list)
 (hK:∀a' w',Sz 195 a'→StB w' p (H.add V).list r n→Fr (aI p) w w'→K .normal a' w'):
 (fR Lh 6).wp Tryz.prog K a w:=by
 have HK:=Lib.hid hK
 clear hK
 conv=>arg 2;whnf
 refine wp_block ?_
 refine fO 195 (fun a' w'=>∃i:Nat,i≤8∧sl a' 178= .int .i64 (i:Int)∧Kp [0,11] a a'∧StB w' p (Ge H V i) r n∧Fr (aI p) w w') (fun a' _=>8-(intOf (sl a' 178)).toNat)
  hs ⟨0,by omega,h178,Kp.refl _ _,by rw[Fd];exact hS,Fr.refl _ _⟩ ?_
 rintro a1 w1 hs1 ⟨i,hi,e178,k1,hS1,hf⟩
 refine wp_seq ?_
 refine Kf i a1 w1 _ hs1 e178 hi ?_
 intro a2 w2 hs2 k2 o179 f2
 have k2a:Kp [0,11] a a2:=fun x hx=>(k2 x (by revert hx;revert x;decide)).trans (k1 x hx)
 have e178b:=k2.t e178
 have hS2:=hS1.keep f2 id
 have hf2:=hf.none f2
 refine wp_seq ?_
 refine yB o179 (fun hb2=> ?_) (fun hb2=> ?_)
 ·have hlt:i<8:=of_decide_eq_true hb2
  obtain⟨x,y,hx,hy,hnx⟩:=DG H V i hlt
  refine wp_skip ?_
  refine wp_seq (wp_block (wp_seq ?_))
  refine JY i a2 w2 _ hs2 e178b ?_
  intro a3 w3 hs3 k3 o17 f3
  have hS3:=hS2.keep f3 id
  have hf3:=hf2.none f3
  have k3a:Kp [0,11] a a3:=fun x hx=>(k3 x (by revert hx;revert x;decide)).trans (k2a x hx)
  refine Kh i p gh x y a3 w3 _ hs3 (k3a.t h0) (k3a.t h11) o17 hlt (hS3.ru.2 _ _ hx) ((hR.keep hf3 hne).2 _ _ hy) (hS3.free i) ?_
  intro a4 w4 hs4 k4 hw4
  subst hw4
  have hS4:=StB.set (w:=w3.drew) hS3 i (x+y) (by rw[AB _ _ _ hi];exact hlt)
  rw[←hnx]at hS4
  have hf4:=hf3.drew.setCell (p:=⟨p,i,none⟩) (fun _=>rfl) (.int .u32 ((x+y).toNat:Int))
  refine KY i a4 _ _ hs4 (k4.t (k3.t e178b)) hi ?_
  intro a5 w5 hs5 k5 o178 f5
  refine⟨hs5,⟨i+1,by omega,o178,fun x hx=>(k5 x (by revert hx;revert x;decide)).trans ((k4 x (by revert hx;revert x;decide)).trans (k3a x hx)),hS4.keep f5 id,hf4.none f5⟩,?_⟩
  rw[o178,e178];simp only[intOf];omega
 ·have:i=8:=by have:=of_decide_eq_false hb2;omega
  subst this
  refine wp_exit (bZ (bZ (cQ ?_)))
  rw[FU]at hS2
  exact HK.out a2 w2 hs2 hS2 hf2
theorem Fi (H:S8) (B:List UInt8) (hB:64≤B.length) (p gb off cb:Nat) (r n:Value) (w:World)
 (hS:StB w p H.list r n) (hb:RB w gb off B) (hgp:gb≠p) (hRk:RU w 5 rD) (hkp:5≠p):
 Calls Tryz.prog 187 #[.pointer (some ⟨p,0,none⟩),.slice (some ⟨gb,off,none⟩) 64 cb] w
  (fun e w'=>e= .returned (.tuple #[])∧StB w' p (blk H (B.take 64)).list r n∧Fr (aI p) w w'):=by
 have hpl:p<w.heap.size:=Bk.lt hS
 go_enter Tryz.func187,Tryz.ntmps187
 refine wp_seq ?_
 refine Mx _ w _ ⟨rfl,rfl⟩ ?_
 intro a1 w1 hs1 k1 o4 hw1
 subst hw1
 have hf1:Fr noB w (w.alloc (.cells (kD (List.replicate 64 0)).toArray 283)):=(Fr.refl _ _).alloc _
 have hU1:UB (w.alloc (.cells (kD (List.replicate 64 0)).toArray 283)) w.heap.size 283 (iY []):=Bk.new w _ _
 generalize w.alloc (.cells (kD (List.replicate 64 0)).toArray 283)=w1 at*
 have e0:sl a1 0= .pointer (some ⟨p,0,none⟩):=(k1 0 (by decide)).trans rfl
 have e1:sl a1 1= .slice (some ⟨gb,off,none⟩) 64 cb:=(k1 1 (by decide)).trans rfl
 have hgw:w.heap.size<w1.heap.size:=Bk.lt hU1
 generalize hgwe:w.heap.size=gw at*
 have hgbl:=hb.1
 refine wp_seq (wp_seq ?_)
 refine MN a1 w1 _ hs1 ?_
 intro a2 w2 hs2 k2 o18 f2
 refine F6 B hB gw gb off cb (by omega) a2 w2 _ hs2 (k2.t e1) (k2.t o4) o18 ((hb.keep hf1 id).keep f2 id) (Bk.keep hU1 f2 id) ?_
 intro a3 w3 hs3 k3 hU3 f3
 have hf3:Fr noB w w3:=(hf1.trans f2).trans' f3 fun b hb he=>by unfold aI at he;omega
 have k3a:Kp [0,1,4] a1 a3:=fun x hx=>(k3 x hx).trans (k2 x (by revert hx;revert x;decide))
 refine wp_seq (wp_seq ?_)
 refine My a3 w3 _ hs3 ?_
 intro a4 w4 hs4 k4 o6 f4
 refine HM B hB gw a4 w4 _ hs4 (k4.t (k3a.t o4)) o6 (Bk.keep hU3 f4 id) ?_
 intro a5 w5 hs5 k5 hU5 f5
 have hf5:Fr noB w w5:=(hf3.trans f4).trans' f5 fun b hb he=>by unfold aI at he;omega
 have k5a:Kp [0,1,4] a1 a5:=fun x hx=>(k5 x hx).trans ((k4 x (by revert hx;revert x;decide)).trans (k3a x hx))
 have hS5:StB w5 p H.list r n:=hS.keep hf5 id
 refine wp_seq ?_
 refine KD p H a5 w5 _ hs5 (k5a.t e0) hS5.ru ?_
 intro a6 w6 hs6 k6 o11 hU6 f6
 have hgw5:gw<w5.heap.size:=Bk.lt hU5
 have hp5:p<w5.heap.size:=Bk.lt hS5
 have hk5:5<w5.heap.size:=(hRk.keep hf5 id).1
 generalize hghe:w5.heap.size=gh at*
 have hU6w:UB w6 gw 283 (wsN B 64):=Bk.keep hU5 f6 id
 have hf6:=hf5.trans f6
 have k6a:Kp [0,1,4] a1 a6:=fun x hx=>(k6 x (by revert hx;revert x;decide)).trans (k5a x hx)
 refine wp_seq (wp_seq ?_)
 refine JP a6 w6 _ hs6 ?_
 intro a7 w7 hs7 k7 o104 f7
 have hU7w:UB w7 gw 283 (wsN B 64):=Bk.keep hU6w f7 id
 have hf7:=hf6.trans f7
 refine EI H (wsN B 64) (oE B 64) gw gh (by omega) (by omega) a7 w7 _ hs7 (k7.t (k6a.t o4)) (k7.t o11) o104 hU7w.ru (hRk.keep hf7 id) (Bk.keep hU6 f7 id) ?_
 intro a8 w8 hs8 k8 hU8 f8
 have hf8:Fr noB w w8:=hf7.trans' f8 fun b hb he=>by unfold aI at he;have:=hf5.size;omega
 have hS8:StB w8 p H.list r n:=hS.keep hf8 id
 refine wp_seq ?_
 refine JL a8 w8 _ hs8 ?_
 intro a9 w9 hs9 k9 o178 f9
 have k9a:Kp [0] a1 a9:=fun x hx=>(k9 x (by revert hx;revert x;decide)).trans ((k8 x (by revert hx;revert x;decide)).trans ((k7 x (by revert hx;revert x;decide)).trans (k6a x (by revert hx;revert x;decide))))
 have e11:sl a9 11= .pointer (some ⟨gh,0,none⟩):=k9.t (k8.t (k7.t o11))
 refine J8 H (GC H (wsN B 64) 64) r n p gh (by omega) a9 w9 _ hs9 (k9a.t e0) e11 o178 (hS8.keep f9 id) ((UB.ru hU8).keep f9 id) ?_
 intro a10 w10 hs10 hS10 f10
 refine bodyPost_end (results_none rfl _ _ _) hs10.defers ?_
 rw[←Jx]at hS10
 exact⟨rfl,hS10,((hf8.trans f9).of_no (aI p)).trans f10⟩
end Go.Proofs.YtcbkaiakdhiloacGreatDoor
namespace Go.Proofs.YtcbkaiakdhiloacGreatDoor
open Go.RowKit Go.Proofs
theorem Dk:(Tryz.prog.info? 5).map (fun i=>(i.zero,i.size,i.bytes))=some (some (.int .u8 0),1,1):=by kernel_rfl
def RO (w:World) (X:Nat→Prop) (v:Value) (l:List UInt8):Prop:=
 (v= .slice none 0 0∧l=[])∨∃g off cap cur,v= .slice (some ⟨g,off,none⟩) l.length cap∧X g∧w.heap[g]? =some (.cells cur 5 (0,0))∧l.length≤cap∧off+cap≤cur.size∧
  ∀(k:Nat) (x:UInt8),l[k]? =some x→cur[off+k]? =some (u8v x)
theorem RO.nil (w:World) (X:Nat→Prop):RO w X (.slice none 0 0) []:= .inl ⟨rfl,rfl⟩
theorem RO.keep {S:Nat→Prop} {w w':World} {X:Nat→Prop} {v:Value} {l:List UInt8} (h:RO w X v l) (hf:Fr S w w') (hS:∀q,X q→¬S q):RO w' X v l:=by
 rcases h with h|⟨g,off,cap,cur,h1,h2,h3,h4⟩
 ·exact .inl h
 ·exact .inr ⟨g,off,cap,cur,h1,h2,(hf.block g (Bk.lt h3) (hS g h2)).trans h3,h4⟩
theorem RO.lower {w:World} {X X':Nat→Prop} {v:Value} {l:List UInt8} (h:RO w X v l) (hb:∀q,q<w.heap.size→X q→X' q):RO w X' v l:=by
 rcases h with h|⟨g,off,cap,cur,h1,h2,h3⟩
 ·exact .inl h
 ·exact .inr ⟨g,off,cap,cur,h1,hb g (Bk.lt h3.1) h2,h3⟩
theorem RO.of_own {w:World} {base:Nat} {X:Nat→Prop} {v:Value} {n:Nat} {l:List UInt8} (h:w.ownsRow base 5 1 v n (u8s l)) (hX:∀q,base≤q→X q):RO w X v l:=by
 have hl:l.length=n:=by have:=h.1;rw[bJ]at this;omega
 rcases h.2 with⟨rfl,h0⟩|⟨g,cap,cur,rfl,hb,hg,hnc,hcm,hcs,htk⟩
 ·exact .inl ⟨rfl,List.eq_nil_of_length_eq_zero (by omega)⟩
 ·refine .inr ⟨g,0,cap,cur,by rw[hl],hX g hb,hg,by omega,by omega,fun k x hx=> ?_⟩
  have h1:(cur.toList.take (n*1))[k]? =some (u8v x):=by rw[htk];simp[u8s,hx]
  have hk:k<l.length:=by
   rcases Nat.lt_or_ge k l.length with h|h
   ·exact h
   ·rw[List.getElem?_eq_none h]at hx;cases hx
  rw[List.getElem?_take,if_pos (by omega)]at h1
  rw[Nat.zero_add];simpa using h1
theorem RO.cells {w:World} {X:Nat→Prop} {g off n c:Nat} {l:List UInt8} (h:RO w X (.slice (some ⟨g,off,none⟩) n c) l):n=l.length∧l.length≤c∧X g∧g<w.heap.size∧∀(k:Nat) (x:UInt8),l[k]? =some x→w.cell? ⟨g,off+k,none⟩=some (.int .u8 (x.toNat:Int)):=by
 rcases h with⟨h,_⟩|⟨g',off',cap,cur,h1,h2,h3,h4,h5,h6⟩
 ·cases h
 ·injection h1 with e1 e2 e3
  injection e1 with e1
  injection e1 with e1 e4
  subst e1;subst e2;subst e3;subst e4
  exact⟨rfl,h4,h2,Bk.lt h3,fun k x hx=>by rw[Bk.cell (t:=5) (cs:=cur) h3 (off+k)];exact h6 k x hx⟩
theorem RO.shape {w:World} {X:Nat→Prop} {v:Value} {l:List UInt8} (h:RO w X v l):(v= .slice none 0 0∧l=[])∨∃g off c,v= .slice (some ⟨g,off,none⟩) l.length c:=by
 rcases h with h|⟨g,off,cap,cur,h1,_⟩
 ·exact .inl h
 ·exact .inr ⟨g,off,cap,h1⟩
theorem RO.drop {w:World} {X:Nat→Prop} {g off c:Nat} {l:List UInt8} (h:RO w X (.slice (some ⟨g,off,none⟩) l.length c) l) (k:Nat) (hk:k≤l.length):
 RO w X (.slice (some (if c=k then⟨g,off,none⟩else⟨g,off+k,none⟩)) (l.length-k) (c-k)) (l.drop k):=by
 rcases h with⟨h,_⟩|⟨g',off',cap,cur,h1,h2,h3,h4,h5,h6⟩
 ·cases h
 ·injection h1 with e1 e2 e3
  injection e1 with e1
  injection e1 with e1 e4
  subst e1;subst e3;subst e4
  by_cases hc:c=k
  ·rw[if_pos hc]
   have:l.drop k=[]:=List.drop_eq_nil_of_le (by omega)
   refine .inr ⟨g,off,c-k,cur,by rw[List.length_drop],h2,h3,by rw[this];simp,by omega,fun j x hx=>by rw[this]at hx;simp at hx⟩
  ·rw[if_neg hc]
   refine .inr ⟨g,off+k,c-k,cur,by rw[List.length_drop],h2,h3,by rw[List.length_drop];omega,by omega,fun j x hx=> ?_⟩
   rw[List.getElem?_drop]at hx
   rw[Nat.add_assoc];exact h6 _ x hx
theorem CE (w:World) (X:Nat→Prop) (v:Value) (l:List UInt8) (h:RO w X v l) (A:Option Addr) (m c:Nat) (news:List UInt8) (hr:SlR w noB 1 A m (u8s news)) (hA:A=none∨∃ad,A=some ad)
 (hlen:l.length+news.length≤1000000000000) (hb:∀q,w.heap.size≤q→X q):
 ∃v' w',(Builtin.append_ #[102,102] 102 #[v,.slice A m c]).run Tryz.prog w= .ok v' w'∧RO w' X v' (l++news)∧Fr X w w':=by
 obtain⟨i,hi,hz,hs,hbb⟩:=info_parts Dk
 have hm:news.length=m:=by have:=hr.1;rw[bJ]at this;omega
 have h1c:∀u∈u8s news,u.oneCell'=true:=jE news
 have hnew:∀ad,A=some ad→∀j u,(u8s news)[j]? =some u→w.cell? (ad.add j)=some u:=by
  intro ad hAd j u hu
  rcases Nat.eq_zero_or_pos m with h0|h0
  ·have hn:news=[]:=List.eq_nil_of_length_eq_zero (by omega)
   subst hn;simp[u8s]at hu
  ·obtain⟨ad',h2,_,_,hc⟩:=hr.2 h0
   rw[hAd]at h2;injection h2 with h2;subst h2
   exact hc j u hu
 rcases h with⟨rfl,rfl⟩|⟨g,off,cap,cur,rfl,hbg,hg,hlc,hcs,hcell⟩
 ·obtain⟨v',w',hrun,h2,h3,h4⟩:=Ei (P:=Tryz.prog) w w.heap.size 102 102 5 i _ 1 1 Tryz.underlying102 hi hz hs hbb rfl (by omega) (.slice none 0 0) 0 [] (World.ownsRow_nil w w.heap.size _ _) noB A m c (u8s news) hr h1c
   (by simp only[maxLen];omega) (by omega) (Nat.le_refl _)
  refine⟨v',w',hrun,?_,⟨h3.os,h3.tape,h3.output,h3.size,fun k hk _=>h3.block k hk (by simp[Value.ownBlock])⟩⟩
  rw[Nat.zero_add,List.nil_append]at h2
  exact RO.of_own h2 hb
 ·have hold:∀j u,(u8s l)[j]? =some u→w.cell? ((⟨g,off,none⟩:Addr).add j)=some u:=by
   intro j u hu
   rw[gA,Bk.cell (t:=5) (cs:=cur) hg (off+j)]
   simp only[u8s,List.getElem?_map,Option.map_eq_some_iff]at hu
   obtain⟨x,hx,rfl⟩:=hu
   exact hcell j x hx
  rcases A with _|ad
  ·have h0:m=0:=by
    rcases Nat.eq_zero_or_pos m with h0|h0
    ·exact h0
    ·obtain⟨_,h2,_⟩:=hr.2 h0;cases h2
   subst h0
   have hn:news=[]:=List.eq_nil_of_length_eq_zero hm
   subst hn
   refine⟨.slice (some ⟨g,off,none⟩) l.length cap,w,?_,by rw[List.append_nil];exact .inr ⟨g,off,cap,cur,rfl,hbg,hg,hlc,hcs,hcell⟩,Fr.refl _ _⟩
   simp[Builtin.append_,run_underlying Tryz.underlying102,sizeOf,typeInfo,hi,Builtin.lenOf,Builtin.firstCells,hlc,storeCells]
  ·by_cases hroom:l.length+m≤cap
   ·have hrun:=run_append_room_cells (P:=Tryz.prog) (w:=w) 102 102 5 i Tryz.underlying102 hi g off l.length cap ad m c (u8s news) (by rw[bJ,hs];omega) (hnew ad rfl) h1c hroom
     (fun j hj=>by rw[hs,Bk.cell (t:=5) (cs:=cur) hg _,Array.getElem?_eq_getElem (by rw[bJ]at hj;omega)];rfl)
     (fun j hj=>Bk.free (t:=5) (cs:=cur) hg _)
    rw[hs,Nat.mul_one]at hrun
    obtain⟨cs',hb1,hb2,hb3⟩:=Bk.setMany (t:=5) (u8s news) (off+l.length) w cur hg (by rw[bJ];omega)
    refine⟨_,_,hrun,.inr ⟨g,off,cap,cs',by rw[List.length_append,hm],hbg,hb1,by rw[List.length_append];omega,by omega,fun k x hx=> ?_⟩,jR (fun _=>hbg) _ _ _ (Fr.refl _ _)⟩
    rw[hb3]
    by_cases hk:k<l.length
    ·rw[if_neg (by omega)]
     rw[List.getElem?_append_left hk]at hx
     exact hcell k x hx
    ·rw[List.getElem?_append_right (by omega)]at hx
     have hkn:k-l.length<news.length:=by
      rcases Nat.lt_or_ge (k-l.length) news.length with h|h
      ·exact h
      ·rw[List.getElem?_eq_none h]at hx;cases hx
     rw[if_pos (by rw[bJ];omega),show off+k-(off+l.length)=k-l.length by omega]
     simp[u8s,hx]
   ·obtain⟨v',w',hrun,h2,h3⟩:=run_append_arg_grows (P:=Tryz.prog) (w:=w) 102 102 5 i _ 1 1 Tryz.underlying102 hi hz hs hbb rfl (by omega) ⟨g,off,none⟩ l.length cap (u8s l) (by rw[bJ];omega) hold ad m c (u8s news) (by rw[bJ];omega) (hnew ad rfl)
     (by omega) (by simp only[maxLen];omega) (by omega)
    refine⟨v',w',hrun,?_,⟨h3.os,h3.tape,h3.output,h3.size,fun k hk _=>h3.block k hk (by simp)⟩⟩
    rw[←oG]at h2
    exact RO.of_own h2 hb
end Go.Proofs.YtcbkaiakdhiloacGreatDoor
namespace Go.Proofs.YtcbkaiakdhiloacGreatDoor
open Go.RowKit Go.Proofs
def Ih (u:Nat→Value):Act:=⟨#[u 0,u 1,u 2,u 3,u 4,u 5,u 6,u 7,u 8,u 9,u 10,u 11,u 12,u 13,u 14,u 15,u 16,u 17,u 18,u 19,u 20,u 21,u 22,u 23,u 24,u 25,u 26,u 27,u 28,u 29,u 30,u 31,u 32,u 33,u 34,u 35,u 36,u 37,u 38,u 39,u 40,u 41,u 42,u 43],[]⟩
set_option maxRecDepth 100000 in
theorem IL (u:Nat→Value):Ih u=frN 44 u:=rfl
theorem oI {a:Act} (h:Sz 44 a):a=Ih (sl a):=h.eq.trans (IL _).symm
theorem NL (p m c:Nat) (A:Option Addr) (n:Nat) (a:Act) (w:World) (K:KT) (hs:Sz 44 a)
 (h0:sl a 0= .pointer (some ⟨p,0,none⟩)) (h1:sl a 1= .slice A m c) (hn:n+m<18446744073709551616) (hc:w.cell? ⟨p,9,none⟩=some (.int .u64 (n:Int))) (hf:w.frozen? ⟨p,9,none⟩=false)
 (hK:∀a' w',Sz 44 a'→Kp [0,1] a a'→w'=w.setCell ⟨p,9,none⟩ (.int .u64 ((n+m:Nat):Int))→K .normal a' w'):
 (aH Tryz.f126 0).wp Tryz.prog K a w:=by
 refine rgE hK (oI hs) fun HK=> ?_;clear hK hs
 have hm1:((n:Int)+(m:Int))<18446744073709551616:=by omega
 simp only[Ih,h0,h1]
 go_wp2_with fail
 exact HK.out _ _ ⟨rfl,rfl⟩ kZ (by rw[Int.natCast_add])
theorem NM (p m c:Nat) (A A1 A2:Option Addr) (n1 c1 n2 c2:Nat) (w2:World) (a:Act) (w:World) (K:KT) (hs:Sz 44 a)
 (h0:sl a 0= .pointer (some ⟨p,0,none⟩)) (h1:sl a 1= .slice A m c) (hc:w.cell? ⟨p,8,none⟩=some (.slice A1 n1 c1)) (hrun:(Builtin.append_ #[102,102] 102 #[.slice A1 n1 c1,.slice A m c]).run Tryz.prog w= .ok (.slice A2 n2 c2) w2) (hc2:w2.cell? ⟨p,8,none⟩=some (.slice A1 n1 c1)) (hf2:w2.frozen? ⟨p,8,none⟩=false)
 (hK:∀a' w',Sz 44 a'→Kp [0,1] a a'→w'=w2.setCell ⟨p,8,none⟩ (.slice A2 n2 c2)→K .normal a' w'):
 (aH Tryz.f126 1).wp Tryz.prog K a w:=by
 refine rgE hK (oI hs) fun HK=> ?_;clear hK hs
 simp only[Ih,h0,h1]
 go_wp2_with (at_builtin
              go_must (refine jB rfl (.tmp 18) (.tmp 19) _ _ rfl hrun rfl rfl ?_))
 exact HK.out _ _ ⟨rfl,rfl⟩ kZ rfl
theorem Ns (p n c:Nat) (A:Option Addr) (a:Act) (w:World) (K:KT) (hs:Sz 44 a)
 (h0:sl a 0= .pointer (some ⟨p,0,none⟩)) (hc:w.cell? ⟨p,8,none⟩=some (.slice A n c))
 (hK:∀a' w',Sz 44 a'→Kp [0,1] a a'→sl a' 28= .bool (decide (64≤n))→Fr noB w w'→K .normal a' w'):
 (aH Tryz.f126 2).wp Tryz.prog K a w:=by
 refine rgE hK (oI hs) fun HK=> ?_;clear hK hs
 simp only[Ih,h0]
 go_wp2_with fail
 exact HK.out _ _ ⟨rfl,rfl⟩ kZ (congrArg Value.bool (decide_eq_decide.2 (by omega))) (Fr.refl _ _)
theorem StB.rest {w:World} {p:Nat} {H:S8} {r n:Value} (h:StB w p H.list r n):w.cell? ⟨p,8,none⟩=some r:=by rw[Bk.cell h 8];rfl
theorem StB.num {w:World} {p:Nat} {H:S8} {r n:Value} (h:StB w p H.list r n):w.cell? ⟨p,9,none⟩=some n:=by rw[Bk.cell h 9];rfl
theorem StB.setRest {w:World} {p:Nat} {H:S8} {r n:Value} (h:StB w p H.list r n) (r2:Value):StB (w.setCell ⟨p,8,none⟩ r2) p H.list r2 n:=Bk.set h 8 r2
theorem StB.setNum {w:World} {p:Nat} {H:S8} {r n:Value} (h:StB w p H.list r n) (n2:Value):StB (w.setCell ⟨p,9,none⟩ n2) p H.list r n2:=Bk.set h 9 n2
theorem Ny (p g off c:Nat) (X:Nat→Prop) (H:S8) (l:List UInt8) (n:Value) (a:Act) (w:World) (K:KT) (hs:Sz 44 a)
 (h0:sl a 0= .pointer (some ⟨p,0,none⟩)) (hS:StB w p H.list (.slice (some ⟨g,off,none⟩) l.length c) n) (hO:RO w X (.slice (some ⟨g,off,none⟩) l.length c) l) (hl:64≤l.length) (hpb:¬X p) (hRk:RU w 5 rD) (hkp:5≠p)
 (hK:∀a' w',Sz 44 a'→Kp [0,1] a a'→StB w' p (blk H (l.take 64)).list (.slice (some ⟨g,off,none⟩) l.length c) n→Fr (aI p) w w'→K .normal a' w'):
 (aH Tryz.f126 3).wp Tryz.prog K a w:=by
 refine rgE hK (oI hs) fun HK=> ?_;clear hK hs
 have hc:=hS.rest
 obtain⟨-,hlc,hbg,hgl,hcells⟩:=hO.cells
 have hB:RB w g off l:=⟨hgl,hcells⟩
 have hcall:=Fi H l hl p g off c (.slice (some ⟨g,off,none⟩) l.length c) n w hS hB (fun e=>hpb (e▸hbg)) hRk hkp
 have hl1:(64:Int)≤(l.length:Int):=by omega
 have hl2:(64:Int)≤(c:Int):=by omega
 have hl3:64≤c:=by omega
 clear hS hO hB hcells hRk
 simp only[Ih,h0]
 go_wp2_with (go_at_call 187;refine hcall.mono ?_;rintro e w9 ⟨rfl,hS9,hf9⟩)
 exact HK.out _ _ ⟨rfl,rfl⟩ kZ hS9 hf9
theorem Lu (p g off n:Nat) (a:Act) (w:World) (K:KT) (hs:Sz 44 a)
 (h0:sl a 0= .pointer (some ⟨p,0,none⟩)) (hc:w.cell? ⟨p,8,none⟩=some (.slice (some ⟨g,off,none⟩) n 64)) (hf:w.frozen? ⟨p,8,none⟩=false) (hl:64≤n) (hlc:n≤64)
 (hK:∀a' w',Sz 44 a'→Kp [0,1] a a'→w'=w.setCell ⟨p,8,none⟩ (.slice (some ⟨g,off,none⟩) 0 0)→K .normal a' w'):
 (aH Tryz.f126 4).wp Tryz.prog K a w:=by
 refine rgE hK (oI hs) fun HK=> ?_;clear hK hs
 have hl1:(64:Int)≤(n:Int):=by omega
 simp only[Ih,h0]
 go_wp2_with fail
 exact HK.out _ _ ⟨rfl,rfl⟩ kZ rfl
theorem Ly (p g off n c:Nat) (a:Act) (w:World) (K:KT) (hs:Sz 44 a)
 (h0:sl a 0= .pointer (some ⟨p,0,none⟩)) (hc:w.cell? ⟨p,8,none⟩=some (.slice (some ⟨g,off,none⟩) n c)) (hf:w.frozen? ⟨p,8,none⟩=false) (hl:64≤n) (hlc:n≤c) (hne:¬c=64)
 (hK:∀a' w',Sz 44 a'→Kp [0,1] a a'→w'=w.setCell ⟨p,8,none⟩ (.slice (some ⟨g,off+64,none⟩) (n-64) (c-64))→K .normal a' w'):
 (aH Tryz.f126 4).wp Tryz.prog K a w:=by
 refine rgE hK (oI hs) fun HK=> ?_;clear hK hs
 have hl1:(64:Int)≤(n:Int):=by omega
 have hl2:(64:Int)≤(c:Int):=by omega
 simp only[Ih,h0]
 go_wp2_with fail
 exact HK.out _ _ ⟨rfl,rfl⟩ kZ rfl
end Go.Proofs.YtcbkaiakdhiloacGreatDoor
namespace Go.Proofs.YtcbkaiakdhiloacGreatDoor
open Go.RowKit Go.Proofs
noncomputable abbrev fWr:Func:=Tryz.f126
def HSt (w:World) (p:Nat) (X:Nat→Prop) (pre:List UInt8):Prop:=
 ¬X p∧∃r,StB w p (kC h0 pre).1.list r (.int .u64 (pre.length:Int))∧RO w X r (kC h0 pre).2
def oS (p:Nat) (X:Nat→Prop):Nat→Prop:=fun q=>q=p∨X q
theorem RO.slice {w:World} {X:Nat→Prop} {v:Value} {l:List UInt8} (h:RO w X v l):∃A c,v= .slice A l.length c:=by
 rcases h.shape with⟨rfl,rfl⟩|⟨g,off,c,rfl⟩
 ·exact⟨none,0,rfl⟩
 ·exact⟨_,c,rfl⟩
theorem KN (t:List UInt8) (n:Value) (p:Nat) (X:Nat→Prop) (hpb:¬X p) (hgb:¬X 5) (hkp:5≠p) (a:Act) (w:World) (K:KT) (hs:Sz 44 a)
 (e0:sl a 0= .pointer (some ⟨p,0,none⟩)) (hRk:RU w 5 rD)
 (hI:∃(H:S8) (l:List UInt8) (r:Value),kC H l=kC h0 t∧StB w p H.list r n∧RO w X r l)
 (hK:∀a' w',Sz 44 a'→(∃r,StB w' p (kC h0 t).1.list r n∧RO w' X r (kC h0 t).2)→Fr (oS p X) w w'→K .normal a' w'):
 (fR fWr 0).wp Tryz.prog K a w:=by
 have HK:=Lib.hid hK
 clear hK
 conv=>arg 2;whnf
 refine wp_block ?_
 refine fO 44 (fun a' w'=>sl a' 0= .pointer (some ⟨p,0,none⟩)∧(∃(H:S8) (l:List UInt8) (r:Value),kC H l=kC h0 t∧StB w' p H.list r n∧RO w' X r l)∧Fr (oS p X) w w')
  (fun _ w'=>match w'.cell? ⟨p,8,none⟩with
   |some (.slice _ k _)=>k
   |_=>0) hs ⟨e0,hI,Fr.refl _ _⟩ ?_
 rintro a1 w1 hs1 ⟨e1,⟨H,l,r,hfe,hS,hO⟩,hf⟩
 obtain⟨A,c,rfl⟩:=hO.slice
 refine wp_seq (wp_seq ?_)
 refine Ns p l.length c A a1 w1 _ hs1 e1 hS.rest ?_
 intro a2 w2 hs2 k2 o28 f2
 have hS2:=hS.keep f2 id
 have hO2:=hO.keep f2 fun q hq h=>h
 have hf2:=hf.none f2
 have e2:=k2.t e1
 refine yB o28 (fun hb=> ?_) (fun hb=> ?_)
 ·have h64:64≤l.length:=of_decide_eq_true hb
  rcases hO2.shape with⟨_,rfl⟩|⟨g,off,c',he⟩
  ·simp at h64
  injection he with he1 _ he3
  subst he1;subst he3
  refine wp_skip ?_
  refine wp_block (wp_seq ?_)
  refine Ny p g off c X H l n a2 w2 _ hs2 e2 hS2 hO2 h64 hpb (hRk.keep hf2 (fun h=>h.elim hkp hgb)) hkp ?_
  intro a3 w3 hs3 k3 hS3 f3
  have hO3:=hO2.keep f3 fun q hq h=>by unfold aI at h;subst h;exact hpb hq
  have hf3:Fr (oS p X) w w3:=hf2.trans' f3 fun b _ h=> .inl h
  have e3:=k3.t e2
  have hfe3:kC (blk H (l.take 64)) (l.drop 64)=kC h0 t:=by rw[←Gl H l h64];exact hfe
  have hmu:(match w1.cell? ⟨p,8,none⟩with
   |some (.slice _ k _)=>k
   |_=>0)=l.length:=by rw[hS.rest]
  have hlc:=hO3.cells.2.1
  by_cases hc64:c=64
  ·subst hc64
   refine Lu p g off l.length a3 w3 _ hs3 e3 hS3.rest (hS3.free 8) h64 hlc ?_
   intro a4 w4 hs4 k4 hw4
   subst hw4
   have hl64:l.length=64:=by omega
   have hdr:l.drop 64=[]:=List.drop_eq_nil_of_le (by omega)
   have hO4:=hO3.drop 64 h64
   rw[if_pos rfl,hl64,hdr]at hO4
   have hO5:=hO4.keep (w':=w3.setCell ⟨p,8,none⟩ (.slice (some ⟨g,off,none⟩) 0 0)) ((Fr.refl (aI p) w3).setCell (p:=⟨p,8,none⟩) (fun _=>rfl) _) fun q hq h=>by unfold aI at h;subst h;exact hpb hq
   have hS5:=hS3.setRest (.slice (some ⟨g,off,none⟩) 0 0)
   rw[hdr]at hfe3
   refine⟨hs4,⟨k4.t e3,⟨_,_,_,hfe3,hS5,hO5⟩,hf3.setCell (p:=⟨p,8,none⟩) (fun _=> .inl rfl) _⟩,?_⟩
   rw[hmu,hS5.rest];exact(by omega:0<l.length)
  ·refine Ly p g off l.length c a3 w3 _ hs3 e3 hS3.rest (hS3.free 8) h64 hlc hc64 ?_
   intro a4 w4 hs4 k4 hw4
   subst hw4
   have hO4:=hO3.drop 64 h64
   rw[if_neg hc64]at hO4
   have hO5:=hO4.keep (w':=w3.setCell ⟨p,8,none⟩ (.slice (some ⟨g,off+64,none⟩) (l.length-64) (c-64))) ((Fr.refl (aI p) w3).setCell (p:=⟨p,8,none⟩) (fun _=>rfl) _) fun q hq h=>by unfold aI at h;subst h;exact hpb hq
   have hS5:=hS3.setRest (.slice (some ⟨g,off+64,none⟩) (l.length-64) (c-64))
   refine⟨hs4,⟨k4.t e3,⟨_,_,_,hfe3,hS5,hO5⟩,hf3.setCell (p:=⟨p,8,none⟩) (fun _=> .inl rfl) _⟩,?_⟩
   rw[hmu,hS5.rest];exact(by omega:l.length-64<l.length)
 ·have h64:l.length<64:=by have:=of_decide_eq_false hb;omega
  refine wp_exit (bZ (bZ (cQ ?_)))
  rw[C8 H l h64]at hfe
  exact HK.out a2 w2 hs2 ⟨_,by rw[←hfe];exact hS2,by rw[←hfe];exact hO2⟩ hf2
theorem mP (pre b:List UInt8) (p m c:Nat) (X:Nat→Prop) (A:Option Addr) (w:World) (hS:HSt w p X pre) (hr:SlR w (aI p) 1 A m (u8s b)) (hb:∀q,w.heap.size≤q→X q) (hlen:pre.length+b.length≤1000000000000)
 (hRk:RU w 5 rD) (hgb:¬X 5) (hkp:5≠p):
 Calls Tryz.prog 126 #[.pointer (some ⟨p,0,none⟩),.slice A m c] w
  (fun e w'=>e= .returned (.tuple #[])∧HSt w' p X (pre++b)∧Fr (oS p X) w w'):=by
 obtain⟨hpb,r,hSt,hO⟩:=hS
 have hm:b.length=m:=by have:=hr.1;rw[bJ]at this;omega
 subst hm
 obtain⟨A1,c1,rfl⟩:=hO.slice
 have hfl:(kC h0 pre).2.length≤pre.length:=by rw[rJ,List.length_drop];omega
 go_enter Tryz.func126,Tryz.ntmps126
 refine wp_seq ?_
 refine NL p b.length c A pre.length _ w _ ⟨rfl,rfl⟩ rfl rfl (by omega) hSt.num (hSt.free 9) ?_
 intro a1 w1 hs1 k1 hw1
 subst hw1
 have hS1:=hSt.setNum (.int .u64 ((pre.length+b.length:Nat):Int))
 have hF1:Fr (aI p) w (w.setCell ⟨p,9,none⟩ (.int .u64 ((pre.length+b.length:Nat):Int))):=(Fr.refl (aI p) w).setCell (p:=⟨p,9,none⟩) (fun _=>rfl) _
 have hO1:=hO.keep hF1 fun q hq h=>by unfold aI at h;subst h;exact hpb hq
 have hr1:=hr.keep hF1
 generalize w.setCell ⟨p,9,none⟩ (.int .u64 ((pre.length+b.length:Nat):Int))=w1 at*
 obtain⟨v2,w2,hrun,hO2,hF2⟩:=CE w1 X _ _ hO1 A b.length c b (hr1.sub fun _ _ h=>h.elim) (by cases A with|none=>exact .inl rfl|some ad=>exact .inr ⟨ad,rfl⟩) (by omega) (fun q hq=>hb q (Nat.le_trans hF1.size hq))
 obtain⟨A2,c2,rfl⟩:=hO2.slice
 have hS2:=hS1.keep hF2 hpb
 refine wp_seq ?_
 refine NM p b.length c A A1 A2 _ c1 _ c2 w2 a1 w1 _ hs1 ((k1 0 (by decide)).trans rfl) ((k1 1 (by decide)).trans rfl) hS1.rest hrun hS2.rest (hS2.free 8) ?_
 intro a3 w3 hs3 k3 hw3
 subst hw3
 have hS3:=hS2.setRest (.slice A2 ((kC h0 pre).2++b).length c2)
 have hF3:Fr (aI p) w2 (w2.setCell ⟨p,8,none⟩ (.slice A2 ((kC h0 pre).2++b).length c2)):=(Fr.refl (aI p) w2).setCell (p:=⟨p,8,none⟩) (fun _=>rfl) _
 have hO3:=hO2.keep hF3 fun q hq h=>by unfold aI at h;subst h;exact hpb hq
 have hF:Fr (oS p X) w (w2.setCell ⟨p,8,none⟩ (.slice A2 ((kC h0 pre).2++b).length c2)):=
  ((hF1.mono fun b _ h=>(.inl h:oS p X b)).trans' hF2 fun b _ h=> .inr h).trans' hF3 fun b _ h=> .inl h
 generalize w2.setCell ⟨p,8,none⟩ (.slice A2 ((kC h0 pre).2++b).length c2)=w3 at*
 refine KN (pre++b) _ p X hpb hgb hkp a3 w3 _ hs3 (k3.t ((k1 0 (by decide)).trans rfl)) (hRk.keep hF (fun h=>h.elim hkp hgb)) ⟨_,_,_,(Bp h0 pre b).symm,hS3,hO3⟩ ?_
 rintro a4 w4 hs4 ⟨r4,hS4,hO4⟩ hf4
 refine bodyPost_end (results_none rfl _ _ _) hs4.defers ?_
 refine⟨rfl,⟨hpb,r4,?_,hO4⟩,hF.trans hf4⟩
 rw[List.length_append];exact hS4
end Go.Proofs.YtcbkaiakdhiloacGreatDoor
