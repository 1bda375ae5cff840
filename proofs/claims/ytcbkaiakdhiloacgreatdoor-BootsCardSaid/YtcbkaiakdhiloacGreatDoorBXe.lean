/- Parts of the walk; written by programs, merged. -/
import Derived.Test.YtcbkaiakdhiloacGreatDoorBXd
set_option linter.unusedSimpArgs false
set_option linter.unusedVariables false
set_option maxRecDepth 20000
set_option maxHeartbeats 8000000
namespace Go.Proofs.YtcbkaiakdhiloacGreatDoor
open Go.RowKit Go.Proofs
attribute [local go_sem] aG aD gK aE
def pG (c:Int) (n:Nat):Nat:=((if c<0 then-(c+1)else c)%(n:Int)).toNat
theorem BE (c:Int) (n:Nat) (h:0<n):pG c n<n:=by
 unfold pG
 have h1:=Int.emod_lt_of_pos (if c<0 then-(c+1)else c) (by omega:(0:Int)<(n:Int))
 have h2:=Int.emod_nonneg (if c<0 then-(c+1)else c) (by omega:(n:Int)≠0)
 omega
theorem Es (c:Int) (n:Nat) (h:0<n):((pG c n:Nat):Int)=(if c<0 then-(c+1)else c)%(n:Int):=by
 unfold pG
 exact Int.toNat_of_nonneg (Int.emod_nonneg _ (by omega))
theorem KR (c:Int) (n:Nat) (w:World) (h:0<n) (hn:n≤4611686018427387904) (h0: -9223372036854775808≤c) (h1:c≤9223372036854775807):
 Calls Tryz.prog 23 #[.int .i64 c,.int .i64 n] w fun e w'=>e= .returned (.int .i64 (pG c n:Nat))∧w=w':=by
 have hp:=Lib.hid (Es c n h)
 have hz:((n:Int)==0)=false:=by simp;omega
 by_cases hc:c<0
 ·have e1:IntKind.i64.wrap (c+1)=c+1:=IntWalk.i64_in _ (by omega)
  have e2:IntKind.i64.wrap (-(c+1))= -(c+1):=IntWalk.i64_in _ (by omega)
  have hp2:Hid (((pG c n:Nat):Int)=(-(c+1))%(n:Int)):=by unfold Hid;rw[hp.out,if_pos hc]
  obtain⟨d,hd⟩:∃d:Int,d= -(c+1):=⟨_,rfl⟩
  have d0:0≤d:=by omega
  have d1:d≤9223372036854775807:=by omega
  have Hd:=Lib.hid hd
  go_enter Tryz.func23,Tryz.ntmps23
  have hd':=hd.symm
  clear hd
  go_wp2_with fail
  go_ret
  refine⟨?_,rfl⟩
  rw[hp2.out,←Hd.out]
  try rfl
 ·have hp2:Hid (((pG c n:Nat):Int)=c%(n:Int)):=by unfold Hid;rw[hp.out,if_neg hc]
  have c0:0≤c:=by omega
  clear hc
  go_enter Tryz.func23,Tryz.ntmps23
  go_wp2_with fail
  go_ret
  refine⟨?_,rfl⟩
  rw[hp2.out]
  try rfl
theorem Kz (c:Int) (n k:Nat) (w:World) (hk:k=pG c n) (h:0<n) (hn:n≤4611686018427387904) (h0: -9223372036854775808≤c) (h1:c≤9223372036854775807):
 Calls Tryz.prog 23 #[.int .i64 c,.int .i64 n] w fun e w'=>e= .returned (.int .i64 (k:Int))∧w'=w:=by
 subst hk;exact(KR c n w h hn h0 h1).mono fun e w' h=>⟨h.1,h.2.symm⟩
end Go.Proofs.YtcbkaiakdhiloacGreatDoor
namespace Go.Proofs.YtcbkaiakdhiloacGreatDoor
open Go.RowKit Go.Proofs
attribute [local go_sem] aG aD aC aE
attribute [local simp] gW ibq ibn eqN ltN leN eqL ltL gtL leL geL
theorem keepBootsF (vn vs vb vw vh:Int) (A:Option Addr) (cap:Nat) (loss:List Int) (w:World) (hG:Glb w) (hK:Ir w) (hA:SlR w noB 1 A loss.length (Nz loss)) (hAl:∀a,A=some a→a.block<w.heap.size)
 (n0: -9223372036854775808≤vn) (n1:vn≤9223372036854775807) (b0: -9223372036854775808≤vb) (b1:vb≤9223372036854775807) (w0: -9223372036854775808≤vw) (w1:vw≤9223372036854775807) (h0: -9223372036854775808≤vh) (h1:vh≤9223372036854775807):
 Calls Tryz.prog 8 #[.int .i64 vn,.int .i64 vs,.int .i64 vb,.int .i64 vw,.slice A loss.length cap,.int .i64 vh] w fun e w'=>e= .returned (.bool true)∧Fr noB w w':=by
 refine en Tryz.func8 Tryz.ntmps8 ?_
 obtain⟨ln,hln⟩:∃ln,loss.length=ln:=⟨_,rfl⟩
 have HLN:=Lib.hid hln
 rw[hln]at hA⊢
 by_cases h16:16384<ln
 ·refine W ?_
  exact⟨rfl,Fr.refl _ _⟩
 obtain⟨k1,hk1⟩:∃k,k=pG vn 4000:=⟨_,rfl⟩
 have l1:k1<4000:=by rw[hk1];exact BE _ _ (by decide)
 have p1:=Kz vn 4000 k1 w hk1 (by decide) (by decide) n0 n1
 obtain⟨k2,hk2⟩:∃k,k=pG vb 1000:=⟨_,rfl⟩
 have l2:k2<1000:=by rw[hk2];exact BE _ _ (by decide)
 have p2:=fun w=>Kz vb 1000 k2 w hk2 (by decide) (by decide) b0 b1
 obtain⟨k3,hk3⟩:∃k,k=pG vw 8:=⟨_,rfl⟩
 have l3:k3<8:=by rw[hk3];exact BE _ _ (by decide)
 have p3:=fun w=>Kz vw 8 k3 w hk3 (by decide) (by decide) w0 w1
 obtain⟨k4,hk4⟩:∃k,k=pG vh 4:=⟨_,rfl⟩
 have p4:=fun w=>Kz vh 4 k4 w hk4 (by decide) (by decide) h0 h1
 obtain⟨k5,hk5⟩:∃k,k=pG vh 3:=⟨_,rfl⟩
 have p5:=fun w=>Kz vh 3 k5 w hk5 (by decide) (by decide) h0 h1
 obtain⟨k6,hk6⟩:∃k,k=pG vh 7:=⟨_,rfl⟩
 have l6:k6<7:=by rw[hk6];exact BE _ _ (by decide)
 have p6:=fun w=>Kz vh 7 k6 w hk6 (by decide) (by decide) h0 h1
 clear hk1 hk2 hk3 hk4 hk5 hk6 n0 n1 b0 b1 w0 w1 h0 h1
 obtain⟨bk,hbk⟩:∃bk,8+k2=bk:=⟨_,rfl⟩
 obtain⟨wd,hwd⟩:∃wd,1+k3=wd:=⟨_,rfl⟩
 have eb:IntKind.i64.wrap (8+(k2:Int))=(bk:Int):=(IntWalk.i64_in _ ⟨by omega,by omega⟩).trans (by omega)
 have ew:IntKind.i64.wrap (1+(k3:Int))=(wd:Int):=(IntWalk.i64_in _ ⟨by omega,by omega⟩).trans (by omega)
 have hb1:8≤bk:=by omega
 have hb2:bk≤1008:=by omega
 have hw1:1≤wd:=by omega
 have hw2:wd≤8:=by omega
 clear hbk hwd l2 l3
 refine W ?_
 refine sC p1 ?_
 intro w9 e9;obtain rfl:=e9.symm
 clear p1
 refine W ?_
 have hb:=keepBytesX k1 vs w (by omega)
 refine sX hb ?_
 rintro e wb ⟨im,rfl,hl,fb⟩
 refine⟨_,rfl,?_⟩
 clear hb
 replace hG:=hG.keep fb fun _ _=>id
 replace hK:=hK.keep fb fun _ _=>id
 replace hA:=hA.keep fb
 have hAl1:∀a,A=some a→a.block<wb.heap.size:=fun a ha=>Nat.lt_of_lt_of_le (hAl a ha) fb.size
 have hcok:=DA im bk wd (by omega) (by omega) (by omega) (by omega)
 have hlt:=hK.lt
 have hgl:=zG hG
 refine W ?_
 refine sC (p2 _) ?_
 intro w9 e9;obtain rfl:=e9.symm
 clear p2
 refine W ?_
 refine sC (p3 _) ?_
 intro w9 e9;obtain rfl:=e9.symm
 clear p3
 refine W ?_
 have hc:=CG im bk wd wb (by omega) hG hK.card
 refine sC hc ?_
 intro w1 f1
 clear hc
 refine W ?_
 have hc2:=GO (oK im bk wd) w1 (hG.keep f1 fun _ _=>id) hcok
 obtain⟨s0,hs0⟩:∃x,Ew im 600000 bk wd=x:=⟨_,rfl⟩
 have hnew:AG (oK im bk wd)=s0:=by rw[←hs0];rfl
 rw[hnew]at hc2
 refine sX hc2 ?_
 rintro e w2 ⟨p,rfl,hM,f2⟩
 refine⟨_,rfl,?_⟩
 clear hc2 hnew hcok eb ew
 refine W ?_
 refine sC (p4 _) ?_
 intro w9 e9;obtain rfl:=e9.symm
 clear p4
 obtain⟨o,ho⟩:∃o:Bool,decide (0<k4)=o:=⟨_,rfl⟩
 refine W ?_
 refine sA ?_
 intro w3 hq f3
 obtain⟨q,hqq⟩:∃q,w2.heap.size=q:=⟨_,rfl⟩
 have h12:w1.heap.size≤q:=hqq▸f2.size
 have h01:wb.heap.size≤w1.heap.size:=f1.size
 have h0b:w.heap.size≤wb.heap.size:=fb.size
 rw[hqq]at hq⊢
 have hql:=hq.lt
 obtain⟨Y,hY⟩:∃Y:Nat→Prop,Y=fun b=>b<w1.heap.size∨b=q:=⟨_,rfl⟩
 have hM3:MX Y p s0 w3:=by
  subst hY
  exact hM.add f3 (fun _ x=>x.elim) (fun _ _ x=>x) fun b hb=>hb.imp id fun e=>by subst e;exact⟨by omega,hql⟩
 have hgq:¬glB q:=fun h=>by have:=hgl _ h;omega
 have hkq:¬glK q:=fun h=>by rcases h with h|h|h|h<;>omega
 have hH:HAt w3 q (wV im 4294967295 aF o):=by
  refine⟨?_,(((hK.keep f1 fun _ _=>id).keep f2 fun _ _=>id).keep f3 fun _ _=>id),hkq,⟨by show im.length≤_;omega,by show 4294967295<_;decide,by show aF<_;decide,by show 0<_;decide,by show 0<_;decide,by show 0≤_;decide,by show 0≤_;decide,by show 0≤_;decide⟩⟩
  subst ho
  exact hq
 obtain⟨nx,hnx⟩:∃nx,nx=if k5=0 then hFar else aF:=⟨_,rfl⟩
 have hnx2:nx=aF∨nx=hFar:=by rw[hnx];split;exact .inr rfl;exact .inl rfl
 have ff:Fr noB w w3:=((fb.none f1).none f2).none f3
 replace hA:=((hA.keep f1).keep f2).keep f3
 have hAq:∀a,A=some a→Y a.block∧a.block≠q:=fun a ha=>by
  have:=hAl1 a ha
  exact⟨by rw[hY];left;omega,by omega⟩
 have hA':SlR w3 (aI q) 1 A ln (Nz loss):=⟨hA.1,fun hn=>by
  obtain⟨a,e1,e2,_,e4⟩:=hA.2 hn
  exact⟨a,e1,e2,fun x=>(hAq a e1).2 x,e4⟩⟩
 have hYq:Y q:=hY▸ .inr rfl
 have hYk:∀b,glK b→Y b:=fun b hb=>by subst hY;left;rcases hb with rfl|rfl|rfl|rfl<;>omega
 have hYg:∀b,glB b→Y b:=fun b hb=>by subst hY;left;have:=hgl b hb;omega
 have hend:∀w',Fr (fun b=>¬Y b∨b=q) w3 w'→Fr noB _ w':=fun w' f=>ff.trans' f fun b hb ho=>by
  rcases ho with ho|ho
  ·exact ho (by rw[hY];left;omega)
  ·omega
 have hend2:∀w',Fr (DI Y) w3 w'→Fr (fun b=>¬Y b∨b=q) w3 w':=fun w' f=>f.mono fun b _ h=> .inl h
 clear hM hq hK hG fb f1 f2 f3 hlt hgl hqq h12 h01 h0b hql ff hA hAl hAl1 ho
 refine V ?_
 refine cS ?_
 refine cM [4,5,13,14,16] [] (fun w'=>(MX Y p s0 w'∧HAt w' q (wV im 4294967295 nx o))∧SlR w' (aI q) 1 A ln (Nz loss)∧Fr (fun b=>¬Y b∨b=q) w3 w') ?_ ?_
 ·refine cZ ?_
  refine W ?_
  refine sC (p5 _) ?_
  intro w9 e9;obtain rfl:=e9.symm
  by_cases hz:k5=0
  ·subst hz
   rw[if_pos rfl]at hnx
   subst hnx
   have hB:=hH.bk
   refine W ?_
   refine uZ ?_
   refine W ?_
   refine sK (gW (wV im 4294967295 hFar o)) hB ?_
   intro w4 hB f4
   refine W ?_
   exact mt ⟨⟨hM3.keep f4 (fun b e=>by obtain rfl:b=q:=e;exact hYq) (fun b hb e=>by obtain rfl:b=q:=e;exact hgq hb),hH.put hB f4 {hH.ok with next:=by show hFar<_;decide}⟩,hA'.keep f4,f4.mono fun b _ e=> .inr e⟩
  ·rw[if_neg hz]at hnx
   subst hnx
   refine W ?_
   refine uZ ?_
   refine W ?_
   exact mt ⟨⟨hM3,hH⟩,hA',Fr.refl _ _⟩
 rintro u w4 ⟨⟨hM,hH⟩,hA,f4⟩
 clear hM3 hA' p5 hnx
 obtain⟨rs,rh,hr,hr3,hri⟩:=bootsP im bk wd nx k6 o loss (by omega) hb1 hb2 hw1 hw2 hnx2
 rw[hs0]at hr
 have hcb:=keepBoots (Y0:=Y) p q A cap loss k6 20000 1000 s0 _ w4 (rs,rh,true) hM hH (by rw[HLN.out];exact hA) hAq (by rw[HLN.out];omega) hYq hgq hYk (by omega) (by decide) hr
 rw[HLN.out]at hcb
 clear hr hM hH hA hs0
 refine W ?_
 refine sC (p6 _) ?_
 intro w9 e9;obtain rfl:=e9.symm
 refine W ?_
 refine sC hcb ?_
 rintro w5 ⟨hM,_,f5⟩
 have hg:=keepGot p im rs w5 hM
 rw[decide_eq_true (show rs.phase=3∧rs.image=im from⟨hr3,hri⟩)]at hg
 refine W ?_
 refine sX hg ?_
 rintro e w6 ⟨rfl,_,f6⟩
 refine⟨_,rfl,?_⟩
 refine W ?_
 exact⟨rfl,hend _ ((f4.trans f5).trans (f6.mono fun b _ h=> .inl h))⟩
end Go.Proofs.YtcbkaiakdhiloacGreatDoor
set_option maxRecDepth 20000
namespace Go.Proofs.YtcbkaiakdhiloacGreatDoor
open Go.RowKit Go.Proofs Go.ChangeShapes Go.WideShapes
section
variable {H:Type} {enc:TypeId×Value→H} {W:World}
theorem int_of {n:Nat} {t:TypeId} {c:Value} {y:DataW H×List MemPlace} (ht:Tryz.prog.underlying t=some (.int .i64)) (h:DataW.trod enc Tryz.prog W 0 (fun _=>true) true n t [c]=some y):∃z:Int,c= .int .i64 z∧-9223372036854775808≤z∧z≤9223372036854775807:=by
 obtain⟨q,hq,_,hwf⟩:=DataW.trod_int ht h
 injection hq with hq _
 have hq2: -9223372036854775808≤q∧q≤9223372036854775807:=by simpa[Lit.wf,IntKind.min,IntKind.max,IntKind.signed,IntKind.bits]using hwf
 exact⟨q,hq,hq2⟩
theorem lt_of_cell {w:World} {a:Addr} {v:Value} (h:w.cell? a=some v):a.block<w.heap.size:=by
 rcases Nat.lt_or_ge a.block w.heap.size with h1|h1
 ·exact h1
 ·unfold World.cell? at h;rw[Array.getElem?_eq_none h1]at h;cases h
end
end Go.Proofs.YtcbkaiakdhiloacGreatDoor
set_option maxRecDepth 20000
namespace Go.Proofs.YtcbkaiakdhiloacGreatDoor
open Go.RowKit Go.Proofs Go.ChangeShapes Go.WideShapes
section
variable {H:Type} {enc:TypeId×Value→H} {W:World}
theorem slr_ints {a:Addr} {l:List Int} (h:∀(i:Nat) (s:Int),l[i]? =some s→W.cell? (a.add i)=some (.int .i64 s)):SlR W noB 1 (some a) l.length (Nz l):=by
 refine⟨by simp[Nz],fun hn=>⟨a,rfl,?_,fun x=>x,fun j u hu=> ?_⟩⟩
 ·have h1:=lt_of_cell (h 0 _ (List.getElem?_eq_getElem hn))
  rwa [Aj]at h1
 ·unfold Nz at hu
  rw[List.getElem?_map,Option.map_eq_some_iff]at hu
  obtain⟨s,hs,rfl⟩:=hu
  exact h j s hs
theorem openInts {n:Nat} {c:Value} {y:DataW H×List MemPlace} (h:DataW.trod enc Tryz.prog W 0 (fun _=>true) true n 78 [c]=some y):
 ∃(l:List Int) (A:Option Addr) (cap:Nat),c= .slice A l.length cap∧SlR W noB 1 A l.length (Nz l):=by
 have hco:Tryz.prog.cellsOf 3=1:=by kernel_rfl
 rcases Go.Deep.open_slice Tryz.underlying78 h with⟨hc,rfl⟩|⟨a,len,cap,m,n',D,Pl,hc,_,hlc,_,hm,rfl,hel⟩
 ·injection hc with hc _
  subst hc
  exact⟨[],none,0,rfl,SlR.nil⟩
 ·injection hc with hc _
  subst hc
  have hlm:len≤m:=by simp at hm;omega
  have each:∀i,i<len→∃s:Int,W.cell? (a.add i)=some (.int .i64 s):=by
   intro i hi
   obtain⟨cs,h1,h2⟩:=hel i (by omega)
   rw[hco]at h1
   obtain⟨_,hlen,hcell⟩:=World.cells?_some h1
   match cs,hlen with
   |[c0],_=>
    obtain⟨s,rfl,_⟩:=int_of Tryz.underlying3 h2
    have h3:=hcell 0 (by decide)
    rw[Go.Deep.add_add,Nat.mul_one,Nat.add_zero]at h3
    exact⟨s,h3⟩
  obtain⟨f,hf⟩:=Go.Deep.choose_lt (α:=Int) each
  have hlen:((List.range len).map f).length=len:=by simp
  refine⟨(List.range len).map f,some a,cap,by rw[hlen],slr_ints fun i o ho=> ?_⟩
  rw[List.getElem?_map]at ho
  rcases Nat.lt_or_ge i len with hi|hi
  ·rw[List.getElem?_range hi]at ho;simp at ho;subst ho;exact hf i hi
  ·rw[List.getElem?_eq_none (by simpa using hi)]at ho;simp at ho
theorem slice_blk {P:Program} {w:World} {r:Reach} {base:Nat} {t e:TypeId} {A:Option Addr} {len cap:Nat} (ht:P.underlying t=some (.slice e)) (h:Value.okWide P w r base t (.slice A len cap)):∀a,A=some a→a.block<w.heap.size:=by
 rintro a rfl
 unfold Value.okWide at h
 rw[ht]at h
 dsimp only at h
 unfold Cell.okWide at h
 rw[ht]at h
 dsimp only at h
 unfold Cell.ok at h
 rw[ht]at h
 dsimp only at h
 obtain⟨_,_,_,_,row,cells,hs,_⟩:=h
 rcases Nat.lt_or_ge a.block w.heap.size with h1|h1
 ·exact h1
 ·unfold World.shape? at hs;rw[Array.getElem?_eq_none h1]at hs;cases hs
theorem slice_cells1 {P:Program} {w:World} {r:Reach} {base:Nat} {t e:TypeId} {v:Value} (ht:P.underlying t=some (.slice e)) (h:Value.okWide P w r base t v):v.cells.toList=[v]:=by
 unfold Value.okWide at h
 rw[ht]at h
 cases v with
 |agg xs=>exfalso;unfold Cell.okWide at h;rw[ht]at h;first|exact h|(simp[Cell.ok,ht]at h)
 |_=>rfl
end
end Go.Proofs.YtcbkaiakdhiloacGreatDoor
