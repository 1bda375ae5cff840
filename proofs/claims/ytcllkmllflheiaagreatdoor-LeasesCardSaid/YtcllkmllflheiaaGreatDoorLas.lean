/- Parts of the walk; written by programs, merged. -/
import Derived.Test.YtcllkmllflheiaaGreatDoorLaj
import Derived.RangeFuncGives
import Derived.Sort.MapsRangeIn
import Derived.OwnWalkIn
import Derived.TacticsInMore
import Derived.RegionIn
import Derived.LoopNIn
import Derived.LoopIn
import Derived.Shelf.Abstract
set_option linter.unusedSimpArgs false
set_option linter.unusedVariables false
set_option maxRecDepth 20000
set_option maxHeartbeats 8000000
namespace Go.Proofs.YtcllkmllflheiaaGreatDoor
open Go.RowKit Go.Proofs Go.Maps Go.Sort Go.Shelf
abbrev kV (x:Nat):Value:= .int .u32 (x:Int)
theorem Ev {x y:Nat} (h:kV x=kV y):x=y:=by injection h with _ h;omega
theorem zR {v:Value} {kl:Lit} (h:keyOf Tryz.prog 53 v=some kl):∃x:Nat,v=kV x∧kl=ipL x∧True:=by
 obtain⟨x,e1,e2,hw⟩:=Maps.keyOf_int_inv Tryz.underlying53 h
 have h0:0≤x:=by simp[Lit.wf,IntKind.min,IntKind.max,IntKind.signed,IntKind.bits]at hw;omega
 refine⟨x.toNat,?_,?_,trivial⟩
 ·exact e1.trans (congrArg (Value.int .u32) (Int.toNat_of_nonneg h0).symm)
 ·exact e2.trans (congrArg (Lit.int .u32) (Int.toNat_of_nonneg h0).symm)
def cW (D0:DataW Unit) (left:Lit→Bool) (ss:List Nat):Prop:=ss.Nodup∧∀x:Nat,x∈ss↔(has D0 (ipL x)=true∧left (ipL x)=false)
theorem cW.start (D0:DataW Unit):cW D0 (has D0) []:=⟨List.nodup_nil,fun x=>by cases has D0 (ipL x)<;>simp⟩
theorem cW.step {D0:DataW Unit} {left:Lit→Bool} {ss:List Nat} (h:cW D0 left ss) {x:Nat} {y:DataW Unit} (hlk:left (ipL x)=true) (hat:∀zd,D0.atKey (ipL x) zd=y):cW D0 (fun z=>left z&& !z.sameKey (ipL x)) (ss++[x]):=by
 have hhas:has D0 (ipL x)=true:=has_true_of_atKey hat
 have hnew:x∉ss:=fun hx=>by have:=((h.2 x).1 hx).2;rw[hlk]at this;cases this
 refine⟨List.nodup_append.2 ⟨h.1,by simp,fun a ha b hb=>by simp at hb;subst hb;exact fun e=>hnew (e▸ha)⟩,fun y=> ?_⟩
 by_cases hy:y=x
 ·subst hy;simp[Lit.sameKey,ipL];exact hhas
 ·have:((ipL y).sameKey (ipL x))=false:=by simp[Lit.sameKey,ipL];omega
  simp[h.2 y,hy,this]
theorem cW.perm {D0:DataW Unit} {left:Lit→Bool} {ss:List Nat} {l0:List aS} (h:cW D0 left ss) (hr:Rep D0 l0) (hl:∀kl,left kl=false):ss.Perm (l0.map (·.ip)):=by
 refine(List.perm_ext_iff_of_nodup h.1 hr.nd).2 fun x=> ?_
 rw[h.2 x,hl,hr.has,qE]
 simp
set_option maxRecDepth 100000 in
theorem xO (F:Fence) (n:Nat) (h10:F.fn 82) (hro:F.round=none) (hn:1≤n) (l Bm b nn:Nat) (D0:DataW Unit) (l0:List aS) (hR0:Rep D0 l0) {R:Value→Option (DataW Unit×List MemPlace)} (J:List Nat→World→Prop)
 (hY:∀pre x W,J pre W→pre.length<Maps.size D0→YieldAt F (n-1) Tryz.prog l #[kV x] W fun e W'=>e= .returned (.bool true)∧J (pre++[x]) W'∧KeepsWalks W W')
 (W:World) (hJ:AbidesFrom W.heap.size J) (hm:W.cell? ⟨Bm,0,none⟩=some (.map (some b))) (hown:W.ownsMap Tryz.prog 53 R b nn D0) (h0:J [] W):
 CallsIn F n Tryz.prog 82 #[.func (.yield l) #[] #[],.pointer (some ⟨Bm,0,none⟩)] W fun e W'=>(∃v,e= .returned v)∧∃ss:List Nat,ss.Perm (l0.map (·.ip))∧J ss W':=by
 refine callsIn_of_wp Tryz.func82 rfl h10 ?_ hro
 simp only[Tryz.ntmps82,List.size_toArray,List.length_cons,List.length_nil,Nat.reduceAdd,Nat.reduceSub,Array.replicate_succ,Array.replicate_zero,List.push_toArray,List.append_toArray,List.nil_append,List.cons_append]
 gi_wp2_with (first
  |(gi_at_range;refine wpListIn_range_own _ rfl _ 77 rfl 53 107 fF Tryz.underlying77 _ b nn _ rfl hown ?_;intro w0 hrg0 hg0 hs0)
  |gi_in)
 go_frame
 gi_loopw [3] (fun _ wr=>∃(left:Lit→Bool) (cnt:Nat) (ss:List Nat),wr.ranges Tryz.prog 53 R b W.heap.size nn D0 left cnt∧ss.length+cnt≤Maps.size D0∧cW D0 left ss∧J ss wr)
  (fun _ wr=>wr.rangeLeft b W.heap.size)
 case atStart=>
  exact⟨_,_,[],hrg0,by simp,cW.start D0,hJ [] W w0 none h0 hg0 (fun r e=>by cases e)⟩
 case round=>
  obtain⟨left,cnt,ss,hrg,hcs,hC,hJs⟩:=hrel
  gi_wp2_with (first
   |(gi_at_next;refine wpListIn_next_ranges (α:=Nat) (β:=Value) _ rfl _ rfl 53 fF R kV id (fun key kl hk=>by obtain⟨x,hx,_⟩:=zR hk;exact⟨x,hx⟩) (fun v _ _=>⟨v,rfl⟩) b W.heap.size nn _ _ _ rfl hrg ?_ ?_)
   |gi_in)
  ·
   intro hc0 hl0
   gi_wp2
   go_end0
   exact⟨⟨_,rfl⟩,ss,hC.perm hR0 hl0,hJs⟩
  ·
   intro x c kl yd yp w2 cnt2 hkey hlk hv hat hrg2 hlt hg2 hs2 hen
   obtain⟨x',ex,rfl,_⟩:=zR hkey
   obtain rfl:x=x':=Ev ex
   have hJ2:J ss w2:=hJ ss wr w2 (some W.heap.size) hJs hg2 (fun r e=>by cases e;exact⟨Nat.le_refl _,hrg.iter_walk⟩)
   obtain⟨fn,tmps,assign,body,hy,hR⟩:=hY ss x w2 hJ2 (by omega)
   clear hs2
   gi_wp2
   refine hR.mono ?_
   rintro e W3 ⟨rfl,hJ3,hk3⟩
   gi_wp2
   have hrg3:=hrg2.of_walks hk3
   go_roundw
   case rel=>exact⟨_,cnt2,ss++[x],hrg3,by simp;omega,hC.step hlk hat,hJ3⟩
   case measure=>rw[hrg3.left_eq,hrg.left_eq];exact hlt
theorem wB (F:Fence) (n:Nat) (h10:F.fn 82) (hro:F.round=none) (hn:1≤n) (Bm b nn:Nat) (D0:DataW Unit) (l0:List aS) (hR0:Rep D0 l0) {R:Value→Option (DataW Unit×List MemPlace)} (w:World) (hBm:Bm<w.heap.size)
 (hm:w.cell? ⟨Bm,0,none⟩=some (.map (some b))) (hown:w.ownsMap Tryz.prog 53 R b nn D0):
 SeqGives F n Tryz.prog 82 #[.pointer (some ⟨Bm,0,none⟩)] kV (fun ss=>ss.Perm (l0.map (·.ip))) (Maps.size D0) w:=fun l J W hW hJ hY h0=>by
 have hown':W.ownsMap Tryz.prog 53 R b nn D0:=by
  have hbl:=hown.lt
  obtain⟨es,clock,hb,Ft,hs,hD⟩:=hown
  exact⟨es,clock,(hW.block b hbl).trans hb,Ft,hs,hD⟩
 exact xO F n h10 hro hn l Bm b nn D0 l0 hR0 J hY W hJ ((hW.cell (p:=⟨Bm,0,none⟩) hBm).trans hm) hown' h0
def lV:Code:=(Code.region 2 #[{dst:=some 5,op:=Op.assign (Operand.tmp 7),type:=53,pos:= "iter.go:51",after:= #[],guard:=none}] false)
def rC:Code:=(Code.block 1 (Code.region 3 #[{dst:=some 8,op:=Op.load 89 (Operand.tmp 2),type:=89,pos:= "iter.go:52",after:= #[],guard:=none},{dst:=some 9,op:=Op.move (Operand.tmp 5),type:=53,pos:= "iter.go:52",after:= #[],guard:=none},{dst:=some 10,op:=Op.buildSlice 89 1 #[(0,Operand.tmp 9)],type:=89,pos:= "iter.go:52",after:= #[{on:=1,ground:=Ground.data}],guard:=none},{dst:=some 11,op:=Op.call {callee:=Callee.builtin Builtin.append,args:= #[Operand.tmp 8,Operand.tmp 10],argTypes:= #[89,89]},type:=89,pos:= "iter.go:52",after:= #[{on:=0,ground:=Ground.data},{on:=2,ground:=Ground.data}],guard:=none},{dst:=none,op:=Op.store 89 (Operand.tmp 2) (Operand.tmp 11),type:=0,pos:= "iter.go:52",after:= #[{on:=3,ground:=Ground.data},{on:=3,ground:=Ground.chain},{on:=0,ground:=Ground.phase},{on:=1,ground:=Ground.phase},{on:=2,ground:=Ground.phase},{on:=3,ground:=Ground.phase}],guard:=none}] false))
def fT (fn:FuncId) (sv:Value) (Bs D:Nat) (st:LoopState) (pend:Option Code):Loop:=
 {state:=st,pending:=pend,fn,tmps:= #[.slice none 0 0,sv,.pointer (some ⟨Bs,0,none⟩),undef,.slice none 0 0,undef,sv,undef,undef,undef,undef,undef,undef],params:= #[7],assign:=lV,body:=rC,defers:=D}
structure uA (w0:World) (fn:FuncId) (sv:Value) (Bs l D:Nat) (ss:List Nat) (W:World):Prop where
 box:∃v,W.heap[Bs]? =some (.cells #[v] 89 (0,0))∧W.ownsRow w0.heap.size 53 1 v ss.length (ss.map kV)∧(v= .slice none 0 0↔ss=[])
 L:W.heap[l]? =some (.loop (fT fn sv Bs D .ready none))
 K:W.heap[D]? =some (.deferred (some []))
 below:Below w0.heap.size w0 W
theorem lY {W W':World} {row:Option Nat} {base:Nat} {e:TypeId} {size:Nat} {v:Value} {k:Nat} {xs:List Value} (h:W.ownsRow base e size v k xs) (hg:W.grownBy W' row)
 (hrow:∀r,row=some r→∃o:Obj,W.heap[r]? =some o∧o.isWalk=true):W'.ownsRow base e size v k xs:=by
 refine h.kept hg ?_
 rcases h.2 with⟨rfl,_⟩|⟨g,cap,cur,rfl,_,hgb,_⟩
 ·exact .inl rfl
 ·refine .inr fun e'=> ?_
  obtain⟨o,ho,hw⟩:=hrow g (by simpa[Value.ownBlock]using e'.symm)
  rw[hgb]at ho;cases ho;cases hw
theorem xZ (w0:World) (fn:FuncId) (sv:Value) (Bs l D B:Nat) (hB:w0.heap.size≤B):AbidesFrom B (uA w0 fn sv Bs l D):=fun s W W' row h hg hrow=>by
 have hrow':∀r,row=some r→∃o:Obj,W.heap[r]? =some o∧o.isWalk=true:=fun r e=>(hrow r e).2
 obtain⟨v,hv,hr,hn⟩:=h.box
 exact⟨⟨v,(grownBy_keeps hg hrow' hv rfl).trans hv,lY hr hg hrow',hn⟩,(grownBy_keeps hg hrow' h.L rfl).trans h.L,(grownBy_keeps hg hrow' h.K rfl).trans h.K,
  h.below.grown hg h.below.size (fun k e=>Nat.le_trans hB (hrow k e).1)⟩
theorem bI (W:World) (l:Nat) (o:Obj):W.grownBy (W.putObj l o) (some l):=
 ⟨rfl,rfl,rfl,by simp,fun k _ hk=>World.putObj_heap_other (fun e=>hk (by rw[e]))⟩
theorem kM (W:World) (b:Nat) (v:Value):W.grownBy (W.setCell ⟨b,0,none⟩ v) (some b):=
 ⟨rfl,rfl,rfl,(KeepsWalks.setCell W _ v).size,fun k _ hk=>Below.heap_setCell _ _ _ k (fun e=>hk (by rw[e]))⟩
theorem dH {W:World} {base:Nat} {e:TypeId} {size:Nat} {v:Value} {k:Nat} {xs:List Value} (h:W.ownsRow base e size v k xs) {j:Nat} {o:Obj} (hj:W.heap[j]? =some o) (hno:∀cur,o≠ .cells cur e (0,0)):
 v.ownBlock=none∨v.ownBlock≠some j:=by
 rcases h.2 with⟨rfl,_⟩|⟨g,cap,cur,rfl,_,hgb,_⟩
 ·exact .inl rfl
 ·refine .inr fun e'=> ?_
  have:g=j:=by simpa[Value.ownBlock]using e'
  subst this;rw[hgb]at hj;cases hj;exact hno cur rfl
theorem gL {W:World} {B:Nat} {v:Value} {t:TypeId} (h:W.heap[B]? =some (.cells #[v] t (0,0))):W.cell? ⟨B,0,none⟩=some v∧W.frozen? ⟨B,0,none⟩=false:=by
 constructor<;>simp[World.cell?,World.frozen?,h]
theorem kJ {W:World} {B:Nat} {v:Value} {t:TypeId} (v':Value) (h:W.heap[B]? =some (.cells #[v] t (0,0))):(W.setCell ⟨B,0,none⟩ v').heap[B]? =some (.cells #[v'] t (0,0)):=by
 obtain⟨hlt,hk⟩:=Array.getElem?_eq_some_iff.1 h
 show(W.heap.modify B _)[B]? =_
 rw[Array.getElem?_eq_getElem (by rw[Array.size_modify];exact hlt),Array.getElem_modify_self,hk]
 rfl
theorem kG {W:World} {base:Nat} {e:TypeId} {size:Nat} {v:Value} {k:Nat} {xs:List Value} (h:W.ownsRow base e size v k xs):∀(j:Nat) (o:Obj),v.ownBlock=some j→W.heap[j]? =some o→o.isWalk=false:=by
 intro j o hj ho
 rcases h.2 with⟨rfl,_⟩|⟨g,cap,cur,rfl,_,hgb,_⟩
 ·simp[Value.ownBlock]at hj
 ·have:g=j:=by simpa[Value.ownBlock]using hj
  subst this;rw[hgb]at ho;cases ho;rfl
theorem zK:(Tryz.prog.info? 53).map (fun i=>(i.zero,i.size,i.bytes))=some (some (.int .u32 0),1,4):=by kernel_rfl
set_option maxRecDepth 100000 in
theorem CX (F:Fence) (m:Nat) (w0:World) (fn:FuncId) (hfn:F.fn fn) (sv:Value) (Bs l D:Nat) (hBl:Bs≠l) (hDl:D≠l) (hDB:D≠Bs) (h0B:w0.heap.size≤Bs) (h0l:w0.heap.size≤l)
 (N:Nat) (hN:N≤maxLen) (hNb:N*4≤140737488355328) (ss:List Nat) (x:Nat) (W:World) (h:uA w0 fn sv Bs l D ss W) (hlen:ss.length<N):
 YieldAt F m Tryz.prog l #[kV x] W fun e W'=>e= .returned (.bool true)∧uA w0 fn sv Bs l D (ss++[x]) W'∧KeepsWalks W W':=by
 obtain⟨i0,hi,hz0,hz1,hz2⟩:=info_parts zK
 obtain⟨v,hv,hrow,_⟩:=h.box
 refine⟨fn,#[.slice none 0 0,sv,.pointer (some ⟨Bs,0,none⟩),undef,.slice none 0 0,undef,sv,kV x,undef,undef,undef,undef,undef],lV,rC,by simpa[fT]using run_yield (P:=Tryz.prog) (args:= #[kV x]) h.L rfl,roundIn_of_wpIn hfn ?_⟩
 have hl:l<W.heap.size:=(Array.getElem?_eq_some_iff.1 h.L).1
 have hbr:=run_beginRound (P:=Tryz.prog) h.L rfl
 obtain⟨W2,hW2⟩:∃W2,W.putObj l (.loop {fT fn sv Bs D .ready none with state:= .busy})=W2:=⟨_,rfl⟩
 rw[hW2]at hbr
 have hg2:W.grownBy W2 (some l):=by rw[←hW2];exact bI _ _ _
 have hk2:KeepsWalks W W2:=by rw[←hW2];exact KeepsWalks.putObj _ h.L rfl
 have hv2:W2.heap[Bs]? =some (.cells #[v] 89 (0,0)):=by rw[←hW2];exact(World.putObj_heap_other hBl).trans hv
 have hK2:W2.heap[D]? =some (.deferred (some [])):=by rw[←hW2];exact(World.putObj_heap_other hDl).trans h.K
 have hL2:W2.heap[l]? =some (.loop {fT fn sv Bs D .ready none with state:= .busy}):=by rw[←hW2];exact World.putObj_heap_same hl
 have hrow2:W2.ownsRow w0.heap.size 53 1 v ss.length (ss.map kV):=hrow.kept hg2 (dH hrow h.L (fun cur e=>by cases e))
 have hb2:Below w0.heap.size w0 W2:=h.below.grown hg2 h.below.size (fun k e=>by cases e;exact h0l)
 obtain⟨hc2,hf2⟩:=gL hv2
 have hBlt:Bs<W2.heap.size:=(Array.getElem?_eq_some_iff.1 hv2).1
 have hl2:l<W2.heap.size:=(Array.getElem?_eq_some_iff.1 hL2).1
 have hDlt:D<W2.heap.size:=(Array.getElem?_eq_some_iff.1 hK2).1
 have ne_of:∀{j:Nat} {o:Obj},W2.heap[j]? =some o→(∀cur,o≠ .cells cur 53 (0,0))→some j≠v.ownBlock:=fun hj hno=>by
  rcases dH hrow2 hj hno with e|e
  ·rw[e];simp
  ·exact fun e'=>e e'.symm
 clear hW2
 unfold lV
 gi_wp2_with (rw[Oper.semAt_eq _ _ _ (fun c h=>by cases h)];go_simp;try go_bits)
 unfold rC
 gi_wp2_with (first|(gi_at_builtin;refine wpListIn_append_own _ rfl _ _ 89 rfl w0.heap.size 53 i0 (.int .u32 0) 1 4 Tryz.underlying89 hi hz0 hz1 hz2 rfl (by decide) _ _ _ rfl (hrow2.alloc _) ⟨W2.heap.size,0,none⟩ 1 1 [kV x] rfl rfl (cell_one_new _ _ _) (by simp[Value.oneCell',kV]) (by omega) (by omega) (by have:=hb2.size;simp;omega) ?_;intro v' w3 hown' hg3 hnil3;have hv3:w3.heap[Bs]? =some (.cells #[v] 89 (0,0)):=(hg3.block Bs (by simp;omega) (ne_of hv2 (fun cur e=>by cases e))).trans ((Below.heap_alloc _ _ Bs hBlt).trans hv2);obtain⟨hc3,hf3⟩:=gL hv3;obtain⟨g',cap',cur',rfl,hbase',hgb',hr1,hr2,hr3,hr4⟩:∃g' cap' cur',v'= .slice (some ⟨g',0,none⟩) (ss.length+1) cap'∧w0.heap.size≤g'∧w3.heap[g']? =some (.cells cur' 53 (0,0))∧ss.length+1≤cap'∧cap'≤maxLen∧cur'.size=cap'*1∧cur'.toList.take ((ss.length+1)*1)=ss.map kV++[kV x]:=hown'.2.elim (fun h0=>absurd h0.2 (by omega)) id;go_frame)|(rw[Oper.semAt_eq _ _ _ (fun c h=>by cases h)];go_simp;try go_bits))
 have hg3':(W2.alloc (.cells #[kV x] 53)).grownBy w3 v.ownBlock:=hg3
 have hL3:w3.heap[l]? =some (.loop {fT fn sv Bs D .ready none with state:= .busy}):=(hg3'.block l (by simp;omega) (ne_of hL2 (fun cur e=>by cases e))).trans ((Below.heap_alloc _ _ l hl2).trans hL2)
 have hK3:w3.heap[D]? =some (.deferred (some [])):=(hg3'.block D (by simp;omega) (ne_of hK2 (fun cur e=>by cases e))).trans ((Below.heap_alloc _ _ D hDlt).trans hK2)
 obtain⟨w4,hw4⟩:∃w4,w3.setCell ⟨Bs,0,none⟩ (.slice (some ⟨g',0,none⟩) (ss.length+1) cap')=w4:=⟨_,rfl⟩
 rw[hw4]
 have hg4:w3.grownBy w4 (some Bs):=by rw[←hw4];exact kM _ _ _
 have hv4:w4.heap[Bs]? =some (.cells #[.slice (some ⟨g',0,none⟩) (ss.length+1) cap'] 89 (0,0)):=by rw[←hw4];exact kJ _ hv3
 have hL4:w4.heap[l]? =some (.loop {fT fn sv Bs D .ready none with state:= .busy}):=(hg4.block l (Array.getElem?_eq_some_iff.1 hL3).1 (fun e=>hBl (by cases e;rfl))).trans hL3
 have hK4:w4.heap[D]? =some (.deferred (some [])):=(hg4.block D (Array.getElem?_eq_some_iff.1 hK3).1 (fun e=>hDB (by cases e;rfl))).trans hK3
 have hrow4:=hown'.kept hg4 (dH hown' hv3 (fun cur e=>by cases e))
 have hl4:l<w4.heap.size:=(Array.getElem?_eq_some_iff.1 hL4).1
 have hb3:Below w0.heap.size w0 w3:=(hb2.alloc hb2.size _).grown hg3' (by have:=hb2.size;simp;omega) (fun k e=>(hrow2.lt k e).1)
 have hb4:Below w0.heap.size w0 w4:=hb3.grown hg4 hb3.size (fun k e=>by cases e;exact h0B)
 have hk4:KeepsWalks W w4:=((hk2.trans (KeepsWalks.alloc _ _)).trans (KeepsWalks.of_grownBy hg3' (kG (hrow2.alloc _)))).trans (by rw[←hw4];exact KeepsWalks.setCell _ _ _)
 clear hw4
 refine⟨_,_,run_endRound none hL4,rfl,⟨⟨_,(World.putObj_heap_other hBl).trans hv4,?_,by simp⟩,World.putObj_heap_same hl4,(World.putObj_heap_other hDl).trans hK4,hb4.grown (bI _ _ _) hb4.size (fun k e=>by cases e;exact h0l)⟩,hk4.trans (KeepsWalks.putObj _ hL4 rfl)⟩
 have:=hrow4.kept (bI w4 l (.loop {{fT fn sv Bs D .ready none with state:= .busy}with state:=if(none:Option Code).isNone then .ready else .done,pending:=none})) (dH hrow4 hL4 (fun cur e=>by cases e))
 simpa using this
set_option maxRecDepth 100000 in
theorem pL (F:Fence) (n:Nat) (h11:F.fn 130) (hro:F.round=none) (hn:2≤n) (g:Nat) (lb:Array Value) (hFg:F.fn g) (eg:∀args w,(callFunc g args).run Tryz.prog w= .ok (.enter g args) w)
 (S:List Nat→Prop) (N:Nat) (hN:N≤maxLen) (hNb:N*4≤140737488355328) (w:World) (hseq:SeqGives F (n-1) Tryz.prog g lb kV S N w):
 CallsIn F n Tryz.prog 130 #[.slice none 0 0,.func (.func g) #[] lb] w fun e w'=>∃(v:Value) (ss:List Nat),e= .returned v∧S ss∧w'.ownsRow w.heap.size 53 1 v ss.length (ss.map kV)∧(v= .slice none 0 0↔ss=[])∧Below w.heap.size w w':=by
 have h1:1≤n:=by omega
 refine callsIn_of_wp_marks Tryz.func130 rfl h11 ?_ hro
 simp only[Tryz.ntmps130,List.size_toArray,List.length_cons,List.length_nil,Nat.reduceAdd,Nat.reduceSub,Array.replicate_succ,Array.replicate_zero,List.push_toArray,List.append_toArray,List.nil_append,List.cons_append]
 gi_wp2
 refine wpIn_rangeFunc ?_
 intro fn hfn
 rw[hro]
 obtain⟨W0,hW0⟩:∃W0,w.alloc (.cells #[.slice none 0 0] 89)=W0:=⟨_,rfl⟩
 have hs0:W0.heap.size=w.heap.size+1:=by rw[←hW0];simp
 have hv0:W0.heap[w.heap.size]? =some (.cells #[.slice none 0 0] 89 (0,0)):=by rw[←hW0];exact World.alloc_heap_new w _
 have hb0:Below w.heap.size w W0:=by rw[←hW0];exact(Below.refl _ w).alloc (Nat.le_refl _) _
 rw[hW0]
 obtain⟨W1,hW1⟩:∃W1,(W0.alloc (.deferred (some []))).alloc (.loop (fT fn (.func (.func g) #[] lb) w.heap.size W0.heap.size .ready none))=W1:=⟨_,rfl⟩
 have hold:∀k,k<W0.heap.size→W1.heap[k]? =W0.heap[k]? :=fun k hk=>by
  rw[←hW1];exact(Below.heap_alloc _ _ k (by simp;omega)).trans (Below.heap_alloc _ _ k hk)
 have hb1:Below w.heap.size w W1:=by rw[←hW1];exact(hb0.alloc hb0.size _).alloc (by have:=hb0.size;simp;omega) _
 have hs1:W1.heap.size=W0.heap.size+2:=by rw[←hW1];simp
 have hM:uA w fn (.func (.func g) #[] lb) w.heap.size (W0.heap.size+1) W0.heap.size [] W1:=
  ⟨⟨_,(hold w.heap.size (by omega)).trans hv0,⟨rfl,.inl ⟨rfl,rfl⟩⟩,by simp⟩,
   by rw[←hW1];have:=World.alloc_heap_new (W0.alloc (.deferred (some []))) (.loop (fT fn (.func (.func g) #[] lb) w.heap.size W0.heap.size .ready none));rwa [World.size_alloc]at this,
   by rw[←hW1];exact(Below.heap_alloc _ _ _ (by simp)).trans (World.alloc_heap_new W0 _),hb1⟩
 refine⟨W0.heap.size+1,[{target:= .collected W0.heap.size,args:= #[]}],W1,{target:= .fn (.func g) lb,args:= #[.func (.yield (W0.heap.size+1)) #[] #[]]},W1,g,
  #[.func (.yield (W0.heap.size+1)) #[] #[]]++lb,W1,?_,?_,?_,?_,fun _=>h1,?_⟩
 ·rw[←hW1];exact run_enterLoop_outer _ _ _ _ _
 ·simp[resolve,go_sem]
 ·intro f' hf';simp[Target.leads]at hf';subst hf';exact hFg
 ·simp[invoke,go_sem,eg]
 ·refine(hseq (W0.heap.size+1) (uA w fn (.func (.func g) #[] lb) w.heap.size (W0.heap.size+1) W0.heap.size) W1 hb1 (xZ _ _ _ _ _ _ _ hb1.size)
   (fun pre x W hJ hl=>CX F (n-1-1) w fn hfn _ w.heap.size (W0.heap.size+1) W0.heap.size (by omega) (by omega) (by omega) (Nat.le_refl _) (by omega) N hN hNb pre x W hJ hl) hM).mono ?_
  rintro e W2 ⟨⟨v0,rfl⟩,ss,hS,h2⟩
  obtain⟨v,hv,hrow,hnil⟩:=h2.box
  have hend:=run_endLoop (P:=Tryz.prog) h2.L (by simp[fT])
  obtain⟨W3,hW3⟩:∃W3,W2.putObj (W0.heap.size+1) (.loop {fT fn (.func (.func g) #[] lb) w.heap.size W0.heap.size .ready none with state:= .exhausted})=W3:=⟨_,rfl⟩
  rw[hW3]at hend
  have hg3:W2.grownBy W3 (some (W0.heap.size+1)):=by rw[←hW3];exact bI _ _ _
  have hv3:W3.heap[w.heap.size]? =some (.cells #[v] 89 (0,0)):=by rw[←hW3];exact(World.putObj_heap_other (by omega)).trans hv
  have hK3:W3.heap[W0.heap.size]? =some (.deferred (some [])):=by rw[←hW3];exact(World.putObj_heap_other (by omega)).trans h2.K
  have hrow3:=hrow.kept hg3 (dH hrow h2.L (fun cur e=>by cases e))
  have hb3:Below w.heap.size w W3:=h2.below.grown hg3 h2.below.size (fun k e=>by cases e;omega)
  obtain⟨hc3,hf3⟩:=gL hv3
  clear hW3
  refine⟨none,W3,hend,?_⟩
  gi_wp2
  rw[←hs0]
  refine⟨by simp,.inl ⟨_,_,rfl,run_takeDeferred hK3,?_⟩⟩
  exact⟨_,results_tmp rfl _ _ _,v,ss,rfl,hS,hrow3.kept (bI _ _ _) (dH hrow3 hK3 (fun cur e=>by cases e)),hnil,hb3.grown (bI _ _ _) hb3.size (fun k e=>by cases e;omega)⟩
theorem vY (F:Fence) (n:Nat) (h8:F.fn 80) (h11:F.fn 130) (hro:F.round=none) (hn:3≤n) (g:Nat) (lb:Array Value) (hFg:F.fn g) (eg:∀args w,(callFunc g args).run Tryz.prog w= .ok (.enter g args) w)
 (S:List Nat→Prop) (N:Nat) (hN:N≤maxLen) (hNb:N*4≤140737488355328) (w:World) (hseq:SeqGives F (n-1-1) Tryz.prog g lb kV S N w):
 CallsIn F n Tryz.prog 80 #[.func (.func g) #[] lb] w fun e w'=>∃(v:Value) (ss:List Nat),e= .returned v∧S ss∧w'.ownsRow w.heap.size 53 1 v ss.length (ss.map kV)∧(v= .slice none 0 0↔ss=[])∧Below w.heap.size w w':=by
 have h1:1≤n:=by omega
 refine callsIn_of_wp Tryz.func80 rfl h8 ?_ hro
 simp only[Tryz.ntmps80,List.size_toArray,List.length_cons,List.length_nil,Nat.reduceAdd,Nat.reduceSub,Array.replicate_succ,Array.replicate_zero,List.push_toArray,List.append_toArray,List.nil_append,List.cons_append]
 gi_wp2_with (gi_at_call 130;refine(pL F (n-1) h11 hro (by omega) g lb hFg eg S N hN hNb _ hseq).mono ?_;rintro e w' ⟨v,ss,rfl,hS,hrow,hnil,hb⟩)
 go_ret
 exact⟨v,ss,rfl,hS,hrow,hnil,hb⟩
theorem CI (F:Fence) (n:Nat) (h7:F.fn 53) (hro:F.round=none) (mb:Option Nat) (w:World):
 CallsIn F n Tryz.prog 53 #[.map mb] w fun e w'=>e= .returned (.func (.func 82) #[] #[.pointer (some ⟨w.heap.size,0,none⟩)])∧w'=w.alloc (.cells #[.map mb] 77):=by
 refine callsIn_of_wp Tryz.func53 rfl h7 ?_ hro
 simp only[Tryz.ntmps53,List.size_toArray,List.length_cons,List.length_nil,Nat.reduceAdd,Nat.reduceSub,Array.replicate_succ,Array.replicate_zero,List.push_toArray,List.append_toArray,List.nil_append,List.cons_append]
 gi_wp2
 go_ret
 exact⟨rfl,rfl⟩
end Go.Proofs.YtcllkmllflheiaaGreatDoor
namespace Go.Proofs.YtcllkmllflheiaaGreatDoor
open Go.RowKit Go.Proofs Go.Maps
attribute [local simp] ibq ibn eqN ltN leN eqL ltL gtL leL geL
def at0 (c:List Nat) (p:Nat):Nat:=c.getD p 0
theorem B5 (c:List Nat) (a v p:Nat) (h:a<c.length):at0 (c.set a v) p=if p=a then v else at0 c p:=by
 unfold at0
 rw[List.getD_eq_getElem?_getD,List.getD_eq_getElem?_getD,List.getElem?_set]
 by_cases hp:a=p
 ·subst hp;simp[h]
 ·rw[if_neg hp,if_neg (fun e=>hp e.symm)]
def Srt (c:List Nat) (m:Nat):Prop:=∀p q,p<q→q<m→at0 c p≤at0 c q
def Ed (c:List Nat) (i j:Nat):Prop:=(∀p q,p<q→q≤i→p≠j→q≠j→at0 c p≤at0 c q)∧(∀q,j<q→q≤i→at0 c j≤at0 c q)
theorem Ed.start {c:List Nat} {i:Nat} (h:Srt c i):Ed c i i:=⟨fun p q h1 h2 h3 h4=>h p q h1 (by omega),fun q h1 h2=>by omega⟩
theorem Ed.done {c:List Nat} {i j:Nat} (h:Ed c i j) (hj:j≤i) (he:j=0∨at0 c (j-1)≤at0 c j):Srt c (i+1):=by
 intro p q h1 h2
 by_cases hp:p=j
 ·subst hp;exact h.2 q h1 (by omega)
 ·by_cases hq:q=j
  ·subst hq
   rcases he with he|he
   ·omega
   ·by_cases hp':p=q-1
    ·subst hp';exact he
    ·exact Nat.le_trans (h.1 p (q-1) (by omega) (by omega) hp (by omega)) he
  ·exact h.1 p q h1 (by omega) hp hq
theorem Ed.swap {c:List Nat} {i k:Nat} (h:Ed c i (k+1)) (hk:k+1≤i) (hi:i<c.length) (hlt:at0 c (k+1)<at0 c k):Ed ((c.set (k+1) (at0 c k)).set k (at0 c (k+1))) i k:=by
 have e:∀p,at0 ((c.set (k+1) (at0 c k)).set k (at0 c (k+1))) p=if p=k then at0 c (k+1)else if p=k+1 then at0 c k else at0 c p:=fun p=>by
  rw[B5 _ _ _ _ (by rw[List.length_set];omega),B5 _ _ _ _ (by omega)]
 constructor
 ·intro p q h1 h2 h3 h4
  rw[e,e,if_neg h3,if_neg h4]
  by_cases hp:p=k+1
  ·rw[if_pos hp]
   by_cases hq:q=k+1
   ·omega
   ·rw[if_neg hq];exact h.1 k q (by omega) h2 (by omega) hq
  ·rw[if_neg hp]
   by_cases hq:q=k+1
   ·rw[if_pos hq];exact h.1 p k (by omega) (by omega) hp (by omega)
   ·rw[if_neg hq];exact h.1 p q h1 h2 hp hq
 ·intro q h1 h2
  rw[e,e,if_pos rfl,if_neg (by omega)]
  by_cases hq:q=k+1
  ·rw[if_pos hq];omega
  ·rw[if_neg hq];exact h.2 q (by omega) h2
theorem BT (c:List Nat) (a b:Nat) (ha:a<c.length) (hb:b<c.length):((c.set a (at0 c b)).set b (at0 c a)).Perm c:=by
 have h1:at0 c b=c[b]:=by unfold at0;rw[List.getD_eq_getElem?_getD,List.getElem?_eq_getElem hb];rfl
 have h2:at0 c a=c[a]:=by unfold at0;rw[List.getD_eq_getElem?_getD,List.getElem?_eq_getElem ha];rfl
 rw[h1,h2]
 exact List.set_set_perm ha hb
theorem Hy {c:List Nat} (h:Srt c c.length):c.Pairwise (· ≤·):=by
 rw[List.pairwise_iff_getElem]
 intro i j hi hj hij
 have:=h i j hij hj
 unfold at0 at this
 rw[List.getD_eq_getElem?_getD,List.getD_eq_getElem?_getD,List.getElem?_eq_getElem hi,List.getElem?_eq_getElem hj]at this
 exact this
theorem kY:∀(a b:List Nat),a.Pairwise (· ≤·)→b.Pairwise (· ≤·)→a.Perm b→a=b
 |[],b,_,_,h=>(List.nil_perm.1 h).symm▸rfl
 |x::a,[],_,_,h=>by have:=h.length_eq;cases this
 |x::a,y::b,ha,hb,h=>by
  rw[List.pairwise_cons]at ha hb
  have hx:x∈y::b:=h.mem_iff.1 (by simp)
  have hy:y∈x::a:=h.mem_iff.2 (by simp)
  have:x=y:=by
   simp only[List.mem_cons]at hx hy
   rcases hx with rfl|hx
   ·rfl
   ·rcases hy with rfl|hy
    ·rfl
    ·have:=ha.1 y hy;have:=hb.1 x hx;omega
  subst this
  rw[kY a b ha.2 hb.2 h.cons_inv]
theorem oQ (x:Nat):∀l:List Nat,(FR x l).Perm (x::l)
 |[]=>List.Perm.refl _
 |y::r=>by
  unfold FR
  split
  ·exact List.Perm.refl _
  ·exact((oQ x r).cons y).trans (List.Perm.swap x y r)
theorem Cm (x:Nat):∀l:List Nat,l.Pairwise (· ≤·)→(FR x l).Pairwise (· ≤·)
 |[],_=>by simp[FR]
 |y::r,h=>by
  unfold FR
  rw[List.pairwise_cons]at h
  split
  ·next hxy=>exact List.pairwise_cons.2 ⟨fun z hz=>by rcases List.mem_cons.1 hz with rfl|hz;exact hxy;exact Nat.le_trans hxy (h.1 z hz),List.pairwise_cons.2 h⟩
  ·next hxy=>
   refine List.pairwise_cons.2 ⟨fun z hz=> ?_,Cm x r h.2⟩
   rcases List.mem_cons.1 ((oQ x r).mem_iff.1 hz)with rfl|hz
   ·omega
   ·exact h.1 z hz
theorem cQ:∀l:List Nat,(jV l).Perm l
 |[]=>List.Perm.refl _
 |x::r=>(oQ x _).trans ((cQ r).cons x)
theorem jP:∀l:List Nat,(jV l).Pairwise (· ≤·)
 |[]=>List.Pairwise.nil
 |x::r=>Cm x _ (jP r)
def UA (w:World) (g:Nat) (c:List Nat):Prop:=∃cur,Bk w g 53 cur∧c.length≤cur.size∧∀(j x:Nat),c[j]? =some x→cur[j]? =some (kV x)
theorem UA.get {w:World} {g:Nat} {c:List Nat} (h:UA w g c) {j:Nat} (hj:j<c.length):w.cell? ⟨g,j,none⟩=some (.int .u32 (at0 c j:Int)):=by
 obtain⟨cur,h1,h2,h3⟩:=h
 have:=h3 j (at0 c j) (by unfold at0;rw[List.getD_eq_getElem?_getD,List.getElem?_eq_getElem hj];rfl)
 exact(h1.cell j).trans this
theorem UA.fr {w:World} {g:Nat} {c:List Nat} (h:UA w g c) (j:Nat):w.frozen? ⟨g,j,none⟩=false:=by obtain⟨cur,h1,_⟩:=h;exact h1.free j
theorem UA.lt {w:World} {g:Nat} {c:List Nat} (h:UA w g c):g<w.heap.size:=by obtain⟨cur,h1,_⟩:=h;exact h1.lt
theorem UA.set {w:World} {g:Nat} {c:List Nat} (h:UA w g c) {j:Nat} (y:Nat) (hj:j<c.length):UA (w.setCell ⟨g,j,none⟩ (.int .u32 (y:Int))) g (c.set j y):=by
 obtain⟨cur,h1,h2,h3⟩:=h
 refine⟨_,h1.set j _,by simp;omega,fun i x hx=> ?_⟩
 rw[List.getElem?_set]at hx
 by_cases hi:j=i
 ·subst hi
  rw[if_pos rfl,if_pos hj]at hx
  cases hx
  rw[Array.getElem?_setIfInBounds_self_of_lt (by omega)]
 ·rw[if_neg hi]at hx
  rw[Array.getElem?_setIfInBounds_ne hi]
  exact h3 i x hx
theorem UA.keep {w w':World} {S:Nat→Prop} {g:Nat} {c:List Nat} (h:UA w g c) (hf:Fr S w w') (hg:¬S g):UA w' g c:=by
 obtain⟨cur,h1,h2⟩:=h;exact⟨cur,h1.keep hf hg,h2⟩
def SA (w:World) (A:Option Addr) (c:List Nat):Prop:=c=[]∨∃g,A=some ⟨g,0,none⟩∧UA w g c
def oA (A:Option Addr) (b:Nat):Prop:=A=some ⟨b,0,none⟩
instance (g:Nat) (c:List Nat):Kp0 fun w=>UA w g c:=⟨fun _ _ h f=>h.keep f id⟩
theorem SA.keep {w w':World} {A:Option Addr} {c:List Nat} (h:SA w A c) (f:Fr noB w w'):SA w' A c:=h.imp id fun⟨g,e,h⟩=>⟨g,e,h.keep f id⟩
instance (A:Option Addr) (c:List Nat):Kp0 fun w=>SA w A c:=⟨fun _ _ h f=>h.keep f⟩
theorem HA (w:World) (g j:Nat) (v:Value):Fr (oA (some ⟨g,0,none⟩)) w (w.setCell ⟨g,j,none⟩ v):=(Fr.refl (oA (some ⟨g,0,none⟩)) w).setCell (p:=⟨g,j,none⟩) (fun _=>rfl) v
theorem Ia (a b:Nat) (w:World):Calls Tryz.prog 183 #[.int .u32 (a:Int),.int .u32 (b:Int)] w fun e w'=>e= .returned (.bool (decide (a<b)))∧w=w':=by
 have hn:∀a:Nat,Calls Tryz.prog 221 #[.int .u32 (a:Int)] w fun e w'=>e= .returned (.bool false)∧w=w':=fun a=>by
  refine en Tryz.func221 Tryz.ntmps221 ?_
  refine W ?_
  exact⟨rfl,rfl⟩
 refine en Tryz.func183 Tryz.ntmps183 ?_
 refine W ?_
 refine sC (hn a) ?_
 rintro w2 rfl
 refine W ?_
 exact⟨rfl,rfl⟩
theorem Fo (A:Option Addr) (n cap:Nat) (c0:List Nat) (w:World) (hn:c0.length=n) (hcap:n≤cap) (hnb:n≤1000) (hU:SA w A c0):
 Calls Tryz.prog 177 #[.slice A n cap,.int .i64 0,.int .i64 (n:Int)] w fun e w'=>e= .returned (.tuple #[])∧SA w' A (jV c0)∧Fr (oA A) w w':=by
 refine en Tryz.func177 Tryz.ntmps177 ?_
 refine W ?_
 refine cL (fun i=>n+1-i.1) (fun(i:Nat×List Nat)=>[(0,.slice A n cap),(1,.int .i64 0),(2,.int .i64 (n:Int)),(6,.int .i64 (i.1:Int))]) (fun i w'=>1≤i.1∧(i.1≤n∨i.1=1)∧SA w' A i.2∧i.2.Perm c0∧Srt i.2 i.1∧Fr (oA A) w w') (1,c0) (mt (p:=True) trivial).1 ⟨Nat.le_refl _,.inr rfl,hU,List.Perm.refl _,fun p q h1 h2=>by dsimp only at h2;omega,Fr.refl _ _⟩ ?_
 rintro⟨i,c⟩ u w1 ⟨hi1,hi2,hU1,hp,hsr,hf1⟩
 dsimp only at hi1 hi2 hU1 hp hsr⊢
 refine W ?_
 by_cases hlt:i<n
 rotate_left
 ·refine W ?_
  have he:jV c0=c:=(kY c (jV c0) (Hy fun p q h1 h2=>hsr p q h1 (by have:=hp.length_eq;omega)) (jP c0) (hp.trans (cQ c0).symm)).symm
  exact⟨rfl,he▸hU1,hf1⟩
 refine W ?_
 refine cL (fun i=>i.1) (fun(x:Nat×List Nat)=>[(0,.slice A n cap),(1,.int .i64 0),(2,.int .i64 (n:Int)),(6,.int .i64 (i:Int)),(7,.int .i64 (x.1:Int))]) (fun x w'=>x.1≤i∧SA w' A x.2∧x.2.Perm c0∧Ed x.2 i x.1∧Fr (oA A) w w') (i,c) (mt (p:=True) trivial).1 ⟨Nat.le_refl _,hU1,hp,Ed.start hsr,hf1⟩ ?_
 rintro⟨j,d⟩ u2 w2 ⟨hj,hU2,hp2,hg,hf2⟩
 dsimp only at hj hU2 hp2 hg⊢
 clear hU1 hp hsr hf1
 have hl2:d.length=n:=hp2.length_eq.trans hn
 obtain⟨b,hb⟩:∃b,b=decide (0<j∧at0 d j<at0 d (j-1)):=⟨_,rfl⟩
 refine cS (cS ?_)
 refine cM [0,1,2,6,7] [(30,.bool b)] (fun w'=>SA w' A d∧Fr noB w2 w') ?_ ?_
 ·rcases Nat.eq_zero_or_pos j with h0|h0
  ·subst h0
   subst hb
   refine dI hU2 [] (up 15 0) (h:= ?_)
   intro w3 hU3 f3
   refine D ?_
   refine tN ?_
   exact mt ⟨hU3,f3⟩
  ·rcases hU2 with rfl|⟨g,rfl,hU2⟩
   ·simp at hl2;omega
   obtain⟨k,hk⟩:∃k,j-1=k:=⟨_,rfl⟩
   have q:IntKind.i64.wrap ((j:Int)-1)=(k:Int):=(IntWalk.i64_in _ (by omega)).trans (by omega)
   have hkn:k<n:=by omega
   have hkd:k<d.length:=by omega
   have hjd:j<d.length:=by omega
   have hjn:j<n:=by omega
   refine dI hU2 [] (up 15 0) (h:= ?_)
   intro w3 hU3 f3
   refine D ?_
   refine dQ (v:= .int .u32 (at0 d j:Int)) ?_ ?_
   ·intro w' hS;have g1:=hS.get hjd;go_simp
   refine D ?_
   refine dQ (v:= .int .u32 (at0 d k:Int)) ?_ ?_
   ·intro w' hS;have g1:=hS.get hkd;go_simp
   refine D ?_
   refine dC (Ia _ _ _) ?_ ?_
   ·rintro _ rfl;exact hU3
   rintro _ rfl _
   refine D ?_
   refine tN ?_
   have hb:b=decide (at0 d j<at0 d k):=by rw[hb,hk];simp[h0]
   subst hb
   exact mt ⟨.inr ⟨g,rfl,hU3⟩,f3⟩
 rintro u3 w3 ⟨hU3,f3⟩
 refine cC (fun e=> ?_) fun e=> ?_
 ·obtain⟨h0,hlt⟩:=of_decide_eq_true (hb.symm.trans e)
  rcases hU3 with rfl|⟨g,rfl,hU3⟩
  ·simp at hl2;omega
  obtain⟨k,hk⟩:∃k,j-1=k:=⟨_,rfl⟩
  have q:IntKind.i64.wrap ((j:Int)-1)=(k:Int):=(IntWalk.i64_in _ (by omega)).trans (by omega)
  have hkn:k<n:=by omega
  have hkd:k<d.length:=by omega
  have hjd:j<d.length:=by omega
  have hjn:j<n:=by omega
  clear hb e hU2
  refine W ?_
  refine dI hU3 [15,17] [0,1,2,3,4,5,6,7,8,10,11,12,9,13,14,15,16,17] (h:= ?_)
  intro w4 hU4 f4
  refine D ?_
  refine dQ (v:= .int .u32 (at0 d k:Int)) ?_ ?_
  ·intro w' hS;have g1:=hS.get hkd;go_simp
  refine dQ (v:= .int .u32 (at0 d j:Int)) ?_ ?_
  ·intro w' hS;have g1:=hS.get hjd;go_simp
  refine D ?_
  have z4:=hU4.fr
  have g4:=hU4.get hjd
  refine dS ?_
  have hU5:=hU4.set (at0 d k) hjd
  have f5:=HA w4 g j (.int .u32 (at0 d k:Int))
  generalize w4.setCell ⟨g,j,none⟩ (.int .u32 (at0 d k:Int))=w5 at*
  refine D ?_
  have z5:=hU5.fr
  have g5:=hU5.get (j:=k) (by rw[List.length_set];exact hkd)
  refine dS ?_
  have hU6:=hU5.set (j:=k) (at0 d j) (by rw[List.length_set];exact hkd)
  have f6:=HA w5 g k (.int .u32 (at0 d j:Int))
  refine D ?_
  refine W ?_
  refine⟨(k,_),(mt (p:=True) trivial).1,⟨by show k≤i;omega,.inr ⟨g,rfl,hU6⟩,?_,?_,hf2.trans (((f3.trans f4).of_no _).trans (f5.trans f6))⟩,by show k<j;omega⟩
  ·exact(BT d j k hjd hkd).trans hp2
  ·have hjk:j=k+1:=by omega
   subst hjk
   exact hg.swap hj (by omega) hlt
 ·refine W ?_
  rw[show IntKind.i64.wrap ((i:Int)+1)=((i+1:Nat):Int)from(IntWalk.i64_in _ (by omega)).trans (by omega)]
  refine⟨(i+1,d),(mt (p:=True) trivial).1,⟨by show 1≤i+1;omega,.inl (by show i+1≤n;omega),hU3,hp2,hg.done hj ?_,hf2.trans (f3.of_no _)⟩,by show n+1-(i+1)<n+1-i;omega⟩
  have:=of_decide_eq_false (hb.symm.trans e)
  omega
theorem AT (A:Option Addr) (n cap:Nat) (c0:List Nat) (w:World) (hn:c0.length=n) (hcap:n≤cap) (hnb:n≤12) (hU:SA w A c0):
 Calls Tryz.prog 81 #[.slice A n cap] w fun e w'=>e= .returned (.tuple #[])∧SA w' A (jV c0)∧Fr (oA A) w w':=by
 have hpd:∀lim:Int,Calls Tryz.prog 131 #[.slice A n cap,.int .i64 0,.int .i64 (n:Int),.int .i64 lim] w fun e w'=>e= .returned (.tuple #[])∧SA w' A (jV c0)∧Fr (oA A) w w':=fun lim=>by
  refine en Tryz.func131 Tryz.ntmps131 ?_
  refine W ?_
  refine cL (fun _=>0) (fun(_:Unit)=>[(0,.slice A n cap),(1,.int .i64 0),(2,.int .i64 (n:Int))]) (fun _ w'=>w'=w) () (mt (p:=True) trivial).1 rfl ?_
  rintro _ u _ rfl
  refine W ?_
  rw[show IntKind.i64.wrap (n:Int)=(n:Int)from IntWalk.i64_in _ (by omega)]
  refine W ?_
  refine sC (Fo A n cap c0 _ hn hcap (by omega) hU) ?_
  intro w' h
  refine W ?_
  exact⟨rfl,h⟩
 refine en Tryz.func81 Tryz.ntmps81 ?_
 refine W ?_
 rw[show IntKind.u64.wrap (n:Int)=(n:Int)from IntWalk.u64_in _ (by omega)]
 refine sX (Tryz.bits_Len (n:Int) w (by omega) (by omega)) ?_
 rintro e w ⟨rfl,rfl⟩
 refine⟨_,rfl,?_⟩
 refine W ?_
 refine sC (hpd _) ?_
 intro w' h
 refine W ?_
 exact⟨rfl,h⟩
theorem AV (Bm b:Nat) (l:List aS) (w:World) (hBm:w.cell? ⟨Bm,0,none⟩=some (.map (some b))) (hBl:Bm<w.heap.size) (hm:dR w b l) (hl:l.length≤4):
 Calls Tryz.prog 52 #[.func (.func 82) #[] #[.pointer (some ⟨Bm,0,none⟩)]] w fun e w'=>
  ∃A cap,e= .returned (.slice A l.length cap)∧SlR w' (fun k=>k<w.heap.size) 1 A l.length ((jV (l.map (·.ip))).map kV)∧Fr noB w w':=by
 obtain⟨D,hown,hrep⟩:=hm
 have hsz:Maps.size D≤4:=by rw[hrep.size];exact hl
 have hseq:SeqGives Fence.wide 1 Tryz.prog 82 #[.pointer (some ⟨Bm,0,none⟩)] kV (fun ss=>ss.Perm (l.map (·.ip))) (Maps.size D) w:=
  wB Fence.wide 1 trivial rfl (by omega) Bm b _ D l hrep w hBl hBm hown
 have hcol:=callsIn_wide.1 (vY Fence.wide 3 trivial trivial rfl (by omega) 82 #[.pointer (some ⟨Bm,0,none⟩)] trivial (enters_of Tryz.func82 (by kernel_rfl) rfl) _ (Maps.size D) (by unfold maxLen;omega) (by omega) w hseq)
 have Hcol:=Lib.hid hcol
 clear hcol hseq
 refine en Tryz.func52 Tryz.ntmps52 ?_
 refine W ?_
 refine sX Hcol.out ?_
 rintro e w2 ⟨v,ss,rfl,hp,hrow,hnil,hbel⟩
 refine⟨_,rfl,?_⟩
 have hlen:ss.length=l.length:=hp.length_eq.trans (List.length_map ..)
 have hF2:Fr noB w w2:=⟨hbel.os,hbel.tape,hbel.output,hbel.size,fun k hk _=>hbel.block k hk⟩
 have hso:jV ss=jV (l.map (·.ip)):=kY _ _ (jP _) (jP _) ((cQ _).trans (hp.trans (cQ _).symm))
 have hn:ss.length=l.length:=hlen
 obtain⟨A,cap,hv,hcap,hSA,hA⟩:∃A cap,v= .slice A l.length cap∧l.length≤cap∧SA w2 A ss∧∀b,oA A b→w.heap.size≤b:=by
  rcases hrow.2 with⟨hv,h0⟩|⟨g,cap,cur,hv,hbg,hgb,hr1,hr2,hr3,hr4⟩
  ·have hl0:l.length=0:=by omega
   have hs0:ss=[]:=List.eq_nil_of_length_eq_zero (by omega)
   exact⟨none,0,by rw[hl0];exact hv,by omega,.inl hs0,fun b hb=>by cases hb⟩
  ·rw[hn]at hv hr1
   refine⟨_,cap,hv,hr1,.inr ⟨g,rfl,cur,hgb,by omega,fun j x hx=> ?_⟩,fun b hb=>by cases hb;exact hbg⟩
   have hj:j<ss.length:=by rcases Nat.lt_or_ge j ss.length with h|h;exact h;rw[List.getElem?_eq_none h]at hx;cases hx
   have h1:=congrArg (fun z=>z[j]?) hr4
   simp only[Nat.mul_one,List.getElem?_take,List.getElem?_map,hx,Option.map_some]at h1
   rw[if_pos hj]at h1
   rw[←h1,Array.getElem?_toList]
 subst hv
 clear hrow hnil hbel
 refine W ?_
 refine sC (AT A l.length cap ss w2 hn hcap (by omega) hSA) ?_
 rintro w3 ⟨hU3,hf3⟩
 refine W ?_
 have hsl:(jV ss).length=ss.length:=(cQ ss).length_eq
 refine⟨A,cap,rfl,?_,hF2.trans' hf3 (fun b hb e=>absurd (hA b e) (by omega))⟩
 refine⟨by rw[List.length_map,←hso,hsl,hn,Nat.mul_one],fun h0=> ?_⟩
 rcases hU3 with h|⟨g,rfl,hU3⟩
 ·rw[h]at hsl;simp at hsl;omega
 refine⟨_,rfl,hU3.lt,fun hx=>absurd (hA g rfl) (Nat.not_le.2 hx),fun j u hu=> ?_⟩
 rw[List.getElem?_map,←hso]at hu
 rw[jR,Nat.zero_add]
 obtain⟨z,hz,rfl⟩:=Option.map_eq_some_iff.1 hu
 obtain⟨c3,q1,q2,q3⟩:=hU3
 exact(q1.cell j).trans (q3 j z hz)
end Go.Proofs.YtcllkmllflheiaaGreatDoor
namespace Go.Proofs.YtcllkmllflheiaaGreatDoor
open Go.RowKit Go.Proofs Go.Maps
attribute [local simp] ibq ibn eqN ltN leN eqL ltL gtL leL geL
attribute [local go_sem] aG aD aE aF
def Jx (e:aS):Array Value:= #[.int .u8 (e.card.1.toNat:Int),.int .u8 (e.card.2.1.toNat:Int),.int .u8 (e.card.2.2.1.toNat:Int),.int .u8 (e.card.2.2.2.1.toNat:Int),.int .u8 (e.card.2.2.2.2.1.toNat:Int),.int .u8 (e.card.2.2.2.2.2.toNat:Int),.bool e.known,.int .i64 e.due,.int .i64 e.asked,.string (bs e.waits)]
theorem lH {f g:aS→Option aS}:∀{l:List aS},(∀x∈l,f x=g x)→l.filterMap f=l.filterMap g
 |[],_=>rfl
 |a::r,h=>by rw[List.filterMap_cons,List.filterMap_cons,h a (by simp),lH fun x hx=>h x (by simp[hx])]
theorem eW:∀{l:List aS} {e:aS},(l.map (·.ip)).Nodup→e∈l→lB l e.ip=some e
 |a::r,e,hn,h=>by
  rw[List.map_cons,List.nodup_cons]at hn
  unfold lB
  rw[List.find?_cons]
  rcases List.mem_cons.1 h with rfl|h
  ·simp
  ·have:¬a.ip=e.ip:=fun hx=>hn.1 (hx▸List.mem_map_of_mem h)
   rw[show(a.ip==e.ip)=false by simpa using this]
   exact eW hn.2 h
theorem lX {l:List aS} {x e:aS} (hn:(l.map (·.ip)).Nodup) (hx:x∈l) (he:e∈l) (h:x.ip=e.ip):x=e:=by
 have h1:=eW hn hx
 have h2:=eW hn he
 rw[h,h2]at h1
 exact(Option.some.inj h1).symm
theorem Ah {now:Int} {x y:aS} (h:St.keepE now x=some y):y.ip=x.ip:=by
 unfold St.keepE at h
 split at h
 ·cases h;rfl
 ·split at h
  ·cases h
  ·cases h;rfl
def mSt (l:List aS) (now:Int) (S:List Nat):List aS:=l.filterMap fun e=>if e.ip∈S then St.keepE now e else some e
theorem FA (l:List aS) (now:Int):mSt l now []=l:=by
 unfold mSt
 simp
theorem Fp {l:List aS} {now:Int} {S:List Nat} (h:∀e∈l,e.ip∈S):mSt l now S=l.filterMap (St.keepE now):=by
 unfold mSt
 apply lH
 intro e he
 rw[if_pos (h e he)]
theorem F8 {l:List aS} {now:Int} {S:List Nat} {e:aS} (he:e∈l) (h:e.ip∉S):e∈mSt l now S:=by
 unfold mSt
 rw[List.mem_filterMap]
 exact⟨e,he,by rw[if_neg h]⟩
theorem Dg {l:List aS} {now:Int} {S:List Nat} {e:aS} (hn:(l.map (·.ip)).Nodup) (he:e∈l) (hk:St.keepE now e=some e):mSt l now (S++[e.ip])=mSt l now S:=by
 unfold mSt
 apply lH
 intro x hx
 by_cases hi:x.ip=e.ip
 ·obtain rfl:=lX hn hx he hi
  rw[if_pos (by simp),hk]
  split<;>rfl
 ·by_cases hs:x.ip∈S
  ·rw[if_pos (by simp[hs]),if_pos hs]
  ·rw[if_neg (by simp[hs,hi]),if_neg hs]
theorem Fi {l:List aS} {now:Int} {S:List Nat} {e:aS} (hn:(l.map (·.ip)).Nodup) (he:e∈l) (hS:e.ip∉S) (hk:St.keepE now e=none):mSt l now (S++[e.ip])=(mSt l now S).filter fun x=>x.ip !=e.ip:=by
 unfold mSt
 rw[List.filter_filterMap]
 apply lH
 intro x hx
 by_cases hi:x.ip=e.ip
 ·obtain rfl:=lX hn hx he hi
  rw[if_pos (by simp),hk,if_neg hS,Option.filter_some,if_neg (by simp)]
 ·by_cases hs:x.ip∈S
  ·rw[if_pos (by simp[hs]),if_pos hs]
   cases hq:St.keepE now x with
   |none=>rfl
   |some y=>rw[Option.filter_some,if_pos];rw[Ah hq];simpa using hi
  ·rw[if_neg (by simp[hs,hi]),if_neg hs,Option.filter_some,if_pos]
   simpa using hi
theorem Gi {l:List aS} {now:Int} {S:List Nat} {e e':aS} (hn:(l.map (·.ip)).Nodup) (he:e∈l) (hS:e.ip∉S) (hk:St.keepE now e=some e'):mSt l now (S++[e.ip])=bM (mSt l now S) e.ip fun _=>e':=by
 unfold mSt bM
 rw[List.map_filterMap]
 apply lH
 intro x hx
 by_cases hi:x.ip=e.ip
 ·obtain rfl:=lX hn hx he hi
  rw[if_pos (by simp),hk,if_neg hS]
  simp
 ·by_cases hs:x.ip∈S
  ·rw[if_pos (by simp[hs]),if_pos hs]
   cases hq:St.keepE now x with
   |none=>rfl
   |some y=>rw[Option.map_some,if_neg];rw[Ah hq];exact hi
  ·rw[if_neg (by simp[hs,hi]),if_neg hs,Option.map_some,if_neg hi]
def jA (l:List aS) (now:Int) (ip:Nat):Bool:=match lB l ip with
 |some e=>St.asksE now e
 |none=>false
def gY (l:List aS) (now:Int):List Nat:=jV ((l.filter (St.asksE now)).map (·.ip))
theorem Fk {l:List aS} {now:Int} (hn:(l.map (·.ip)).Nodup):(jV (l.map (·.ip))).filter (jA l now)=gY l now:=by
 refine kY _ _ ((jP _).filter _) (jP _) (((cQ _).filter _).trans (List.Perm.trans ?_ (cQ _).symm))
 rw[List.filter_map]
 have:l.filter (jA l now∘fun e=>e.ip)=l.filter (St.asksE now):=by
  apply List.filter_congr
  intro x hx
  show jA l now x.ip=_
  unfold jA
  rw[eW hn hx]
 rw[this]
theorem nY (ks:List Nat) (i:Nat) (ip:Nat) (h:ks[i]? =some ip):ks.take (i+1)=ks.take i++[ip]:=by
 rw[List.take_add_one,h];rfl
def Ea (b:Nat) (l:List aS) (now:Int) (w:World) (e:Ending) (w':World):Prop:=
 ∃A cap,e= .returned (.slice A (gY l now).length cap)∧SlR w' (fun k=>k<w.heap.size) 1 A (gY l now).length ((gY l now).map kV)∧dR w' b (l.filterMap (St.keepE now))∧Fr (aJ b) w w'
theorem yF (l:List aS) (now:Int) (ks:List Nat) (i ip:Nat) (h:ks[i]? =some ip):(ks.take (i+1)).filter (jA l now)=(ks.take i).filter (jA l now)++(if jA l now ip=true then [ip]else []):=by
 rw[nY ks i ip h,List.filter_append,List.filter_cons]
 split<;>rfl
instance (a:Addr) (v:Value):Kp0 fun w=>w.cell? a=some v:=⟨fun _ _ h f=>(f.cell (bK h) id).trans h⟩
attribute [local simp] Jx
theorem Bt (cb co b:Nat) (l:List aS) (now:Int) (w:World) (hc:w.cell? ⟨cb,co,none⟩=some (.map (some b))) (hcb:cb≠b) (hm:dR w b l) (hl4:l.length≤4):
 Calls Tryz.prog 35 #[.pointer (some ⟨cb,co,none⟩),.int .i64 now] w (Ea b l now w):=by
 have hnd:(l.map (·.ip)).Nodup:=by obtain⟨D,_,hr⟩:=hm;exact hr.nd
 have hlt:∀e∈l,e.ip<4294967296:=by obtain⟨D,_,hr⟩:=hm;exact hr.lt
 have hbl:=hm.lt
 have hcl:cb<w.heap.size:=bK hc
 obtain⟨ks,hks⟩:∃ks,jV (l.map (·.ip))=ks:=⟨_,rfl⟩
 have hperm:ks.Perm (l.map (·.ip)):=by rw[←hks];exact cQ _
 have hknd:ks.Nodup:=hperm.nodup_iff.2 hnd
 have hklen:ks.length=l.length:=hperm.length_eq.trans (List.length_map ..)
 refine en Tryz.func35 Tryz.ntmps35 ?_
 refine W ?_
 refine sX (callsIn_wide.1 (CI Fence.wide 5 trivial rfl (some b) _)) ?_
 rintro e w1 ⟨rfl,rfl⟩
 refine⟨_,rfl,?_⟩
 refine W ?_
 refine sX (AV w.heap.size b l (w.alloc (.cells #[.map (some b)] 77)) (by simp) (by simp) (hm.keep ((Fr.refl noB w).alloc _) (fun x=>x)) hl4) ?_
 rintro e w2 ⟨A,cap,rfl,hA2,hf2⟩
 refine⟨_,rfl,?_⟩
 rw[hks]at hA2
 have hA2:=hA2.sub (T:=aJ b) (fun k _ e=>by obtain rfl:k=b:=e;simp;omega)
 have hf2:=((Fr.refl noB w).alloc (.cells #[.map (some b)] 77)).none hf2
 have hc2:=(hf2.cell (a:=⟨cb,co,none⟩) hcl (fun x=>x)).trans hc
 have hm2:=hm.keep hf2 (fun x=>x)
 have hs12:=hf2.size
 refine W ?_
 refine cL (fun i=>l.length-i.1) (fun(i:Nat×Value)=>[(0,.pointer (some ⟨cb,co,none⟩)),(1,.int .i64 now),(14,.slice A l.length cap),(15,.int .i64 (l.length:Int)),(16,.int .i64 (i.1:Int)),(5,i.2)])
  (fun i w'=>i.1≤l.length∧w'.cell? ⟨cb,co,none⟩=some (.map (some b))∧dR w' b (mSt l now (ks.take i.1))∧w'.ownsRow w2.heap.size 53 1 i.2 ((ks.take i.1).filter (jA l now)).length (((ks.take i.1).filter (jA l now)).map kV)∧Fr (aJ b) w2 w')
  (0,.slice none 0 0) (mt (p:=True) trivial).1 ⟨Nat.zero_le _,hc2,by dsimp only;rw[List.take_zero,FA];exact hm2,⟨rfl,.inl ⟨rfl,rfl⟩⟩,Fr.refl _ _⟩ ?_
 rintro⟨i,v⟩ u w3 ⟨hi,hc3,hm3,hov,hf3⟩
 dsimp only at hi hm3 hov⊢
 refine W ?_
 by_cases hlti:i<l.length
 rotate_left
 ·refine W ?_
  have hall:ks.take i=ks:=List.take_of_length_le (by omega)
  rw[hall]at hm3 hov
  rw[show ks.filter (jA l now)=gY l now by rw[←hks];exact Fk hnd]at hov
  rw[Fp (fun e he=>hperm.mem_iff.2 (List.mem_map_of_mem he))]at hm3
  have hF2:Fr (aJ b) w w3:=(hf2.of_no (aJ b)).trans hf3
  rcases hov.2 with⟨hv,h0⟩|⟨g,cp,cur,hv,hbg,hgb,hr1,hr2,hr3,hr4⟩
  ·subst hv
   have hz:gY l now=[]:=List.eq_nil_of_length_eq_zero h0
   exact⟨none,0,by rw[hz];rfl,by rw[hz];exact SlR.nil,hm3,hF2⟩
  ·subst hv
   refine⟨_,cp,rfl,⟨by rw[List.length_map,Nat.mul_one],fun _=>⟨_,rfl,(Array.getElem?_eq_some_iff.1 hgb).1,fun hx=>by have:g<w.heap.size:=hx;omega,fun j u hu=> ?_⟩⟩,hm3,hF2⟩
   rw[jR,Nat.zero_add]
   have hj:j<(gY l now).length:=by
    rcases Nat.lt_or_ge j (gY l now).length with h|h
    ·exact h
    ·rw[List.getElem?_eq_none (by rw[List.length_map];exact h)]at hu;cases hu
   have h1:=congrArg (fun z=>z[j]?) hr4
   simp only[Nat.mul_one,List.getElem?_take,if_pos hj,hu,Array.getElem?_toList]at h1
   exact(Bk.cell (show Bk w3 g 53 cur from hgb) j).trans h1
 obtain⟨ip,hip⟩:∃ip,ks[i]? =some ip:=⟨_,List.getElem?_eq_getElem (by omega)⟩
 obtain⟨e,hel,hei⟩:=List.mem_map.1 (hperm.mem_iff.1 (List.mem_of_getElem? hip))
 have hipl:ip<4294967296:=hei▸hlt e hel
 have hnot:e.ip∉ks.take i:=by
  rw[hei]
  intro hx
  rw[(List.take_append_drop i ks).symm]at hknd
  exact(List.nodup_append.1 hknd).2.2 ip hx ip (List.mem_of_getElem? (i:=0) (by rw[List.getElem?_drop];exact hip)) rfl
 have hmn:((mSt l now (ks.take i)).map (·.ip)).Nodup:=by obtain⟨D,_,hr⟩:=hm3;exact hr.nd
 have hfd:lB (mSt l now (ks.take i)) ip=some e:=by rw[←hei];exact eW hmn (F8 hel hnot)
 have hml:(mSt l now (ks.take i)).length≤4:=Nat.le_trans (List.length_filterMap_le _ _) hl4
 have hT:=nY ks i ip hip
 have hFl:(ks.take (i+1)).filter (jA l now)=(ks.take i).filter (jA l now)++(if St.asksE now e=true then [ip]else []):=by
  rw[yF l now ks i ip hip,show jA l now ip=St.asksE now e by unfold jA;rw[←hei,eW hnd hel]]
 obtain⟨ad,x,rfl,hx,hcu⟩:=(hA2.keep hf3).at_ hlti
 rw[List.getElem?_map,hip]at hx
 obtain rfl:kV ip=x:=Option.some.inj hx
 clear hx
 have hkl:((ks.take i).filter (jA l now)).length≤1000:=by have h1:=List.length_filter_le (jA l now) (ks.take i);have h2:=List.length_take_le i ks;omega
 have hi1:IntKind.i64.wrap ((i:Int)+1)=((i+1:Nat):Int):=(IntWalk.i64_in _ (by omega)).trans (by omega)
 obtain⟨dm,hown,hrep⟩:=id hm3
 obtain⟨hhas,hat⟩:=yN hrep hfd
 obtain⟨v',ps,hrun,hv⟩:=hown.lookup fF Tryz.underlying77 (nQ w3) (fV tP) (AL hipl)
 rw[hat]at hv
 obtain rfl:=jN hv
 clear hv hat hhas hown hrep
 unfold pB at hrun
 have hDel:St.keepE now e=none→mSt l now (ks.take (i+1))=(mSt l now (ks.take i)).filter fun x=>x.ip !=ip:=fun hk=>by rw[hT,←hei,Fi hnd hel hnot hk]
 have hAsk:∀y,St.keepE now e=some y→mSt l now (ks.take (i+1))=bM (mSt l now (ks.take i)) ip fun _=>y:=fun y hk=>by rw[hT,←hei,Gi hnd hel hnot hk]
 have hKeep:St.keepE now e=some e→mSt l now (ks.take (i+1))=mSt l now (ks.take i):=fun hk=>by rw[hT,←hei,Dg hnd hel hk]
 generalize(ks.take i).filter (jA l now)=fl at*
 generalize mSt l now (ks.take i)=m at*
 refine W ?_
 refine sA ?_
 intro w4 hE f4
 refine W ?_
 refine sT ?_
 intro w5 hE f5
 have f5:=bA f4 (Nat.le_refl _) f5
 have hbw:b<w3.heap.size:=Nat.lt_of_lt_of_le (by omega) hf3.size
 have hcw:cb<w3.heap.size:=Nat.lt_of_lt_of_le (by omega) hf3.size
 have hc5:=(f5.cell (a:=⟨cb,co,none⟩) hcw (fun x=>x)).trans hc3
 have hm5:=hm3.keep f5 (fun x=>x)
 have hov5:=dJ hov f5 (fun _ _ x=>x)
 have hF5:=hf3.trans (f5.of_no _)
 refine W ?_
 by_cases hd:now<e.due
 ·refine W ?_
  have hk:St.keepE now e=some e:=by unfold St.keepE;rw[if_pos hd]
  refine⟨(i+1,v),(mt (p:=True) trivial).1,⟨by show i+1≤l.length;omega,hc5,by dsimp only;rw[hKeep hk];exact hm5,?_,hF5⟩,by show l.length-(i+1)<l.length-i;omega⟩
  rw[show St.asksE now e=false by unfold St.asksE;rw[decide_eq_true hd];rfl]at hFl
  rw[if_neg Bool.false_ne_true,List.append_nil]at hFl
  dsimp only
  rw[hFl];exact hov5
 refine cF (h:= ?_)
 refine cS ?_
 obtain⟨q,hq⟩:∃q,q=(e.known||decide (e.asked=3)):=⟨_,rfl⟩
 refine cM [0,1,5,7,8,14,15,16] [(49,.bool q)] (fun w'=>w5=w') ?_ ?_
 ·cases hkn:e.known
  ·rw[hkn,Bool.false_or]at hq
   by_cases ha:e.asked=3
   all_goals
    refine W ?_
    subst hq
    exact mt rfl
  ·refine W ?_
   rw[hkn]at hq
   subst hq
   exact mt rfl
 rintro u _ rfl
 refine cC (fun h=> ?_) fun h=> ?_
 ·refine W ?_
  replace hq:=hq.symm.trans h
  have hk:St.keepE now e=none:=by unfold St.keepE;rw[if_neg hd,if_pos hq]
  rw[show St.asksE now e=false by unfold St.asksE;rw[hq];simp]at hFl
  rw[if_neg Bool.false_ne_true,List.append_nil]at hFl
  obtain⟨dm,hown,hrep⟩:=hm5
  rw[cJ]
  refine wpList_delete_own _ rfl (.tmp 60) (.tmp 61) 77 53 rfl 107 fF Tryz.underlying77 mE b m.length dm (by go_simp) hown _ (ipL ip) (by go_simp) (AL hipl) ?_
  intro w6 hown6 ht6
  rw[←cJ]
  have hm6:=dR.of hown6 (hrep.del ip)
  have f6:Fr (aJ b) w5 w6:=(Fr.refl (aJ b) w5).grown ht6.grown (fun g h _=>by injection h with h;exact h.symm)
  refine W ?_
  refine⟨(i+1,v),(mt (p:=True) trivial).1,⟨by show i+1≤l.length;omega,(f6.cell (a:=⟨cb,co,none⟩) (bK hc5) (fun x=>hcb x)).trans hc5,by dsimp only;rw[hDel hk];exact hm6,?_,hF5.trans f6⟩,by show l.length-(i+1)<l.length-i;omega⟩
  dsimp only
  rw[hFl];exact dJ hov5 f6 (fun k hk e=>by have e':k=b:=e;omega)
 ·replace hq:=hq.symm.trans h
  have hk:St.keepE now e=some {e with asked:=wrap64 (e.asked+1),due:=wrap64 (e.due+2)}:=by unfold St.keepE;rw[if_neg hd,if_neg (by rw[hq];decide)]
  rw[show St.asksE now e=true by unfold St.asksE;rw[decide_eq_false hd,hq];rfl]at hFl
  rw[if_pos rfl]at hFl
  clear hq h
  refine W ?_
  rw[iQ]
  refine sK (Jx {e with asked:=wrap64 (e.asked+1)}) hE ?_
  intro w6 hE f6
  refine W ?_
  rw[iQ]
  refine sK (Jx {e with asked:=wrap64 (e.asked+1),due:=wrap64 (e.due+2)}) hE ?_
  intro w7 hE f7
  have f7:=bA f5 (Nat.le_refl _) (f6.trans f7)
  clear f5 f6 hc5 hm5 hov5 hF5
  have hc7:=(f7.cell (a:=⟨cb,co,none⟩) hcw (fun x=>x)).trans hc3
  obtain⟨dm,hown,hrep⟩:=hm3.keep f7 (fun x=>x)
  have hov7:=dJ hov f7 (fun _ _ x=>x)
  refine W ?_
  refine dI (An hE hc7) [6] [0,1,2,3,4,5,6] (h:= ?_)
  rintro w8 ⟨hE,hc8⟩ f8
  refine D ?_
  refine dQ (v:= .map (some b)) ?_ ?_
  ·intro w' hS
   have h1:=hS.2
   go_simp
  refine D ?_
  obtain⟨w9,hrun,hown9,ht9⟩:=(iT hown f8 id).store fF Tryz.underlying77 (by unfold maxLen;omega) (AL hipl) (fV {e with asked:=wrap64 (e.asked+1),due:=wrap64 (e.due+2)})
  simp only[pB]at hrun
  refine dS ?_
  have hm9:dR w9 b (bM m ip fun _=>{e with asked:=wrap64 (e.asked+1),due:=wrap64 (e.due+2)}):=by
   have hmem:e.ip∈m.map (·.ip):=by {rw[hei];have:=gR hfd;exact this.2▸List.mem_map_of_mem this.1}
   subst hei
   exact .of hown9 (hrep.old (e:={e with asked:=wrap64 (e.asked+1),due:=wrap64 (e.due+2)}) hmem)
  have f9:Fr (aJ b) w8 w9:=(Fr.refl (aJ b) w8).grown ht9.grown (fun g h _=>by injection h with h;exact h.symm)
  have f9:=(f8.of_no (aJ b)).trans f9
  have hc9:=(f9.cell (a:=⟨cb,co,none⟩) (bK hc7) (fun x=>hcb x)).trans hc7
  have hov9:=dJ hov7 f9 (fun k hk e=>by have e':k=b:=e;omega)
  refine D ?_
  refine W ?_
  refine sA ?_
  intro w10 hU f10
  have hov10:=dJ hov9 f10 (fun _ _ x=>x)
  have hS10:SlR w10 noB 1 (some ⟨w9.heap.size,0,none⟩) 1 [kV ip]:=SlR.of_bk hU id rfl
  obtain⟨A,c2,rfl,_⟩:=fW hov10
  refine W ?_
  refine sP (hi:=zK) hov10 hS10 (by simp[Value.oneCell']) Tryz.underlying89 (by unfold maxLen;omega) (by omega) (by have h1:=f7.size;have h2:=hf3.size;have h3:=f9.size;have h4:=f10.size;omega) ?_
  intro A' cap' w11 ha
  refine W ?_
  have hge:∀k,(∃a,A=some a∧a.block=k)→w2.heap.size≤k:=fun k ⟨a,hA,e⟩=>e▸(hov10.lt _ (by rw[hA];rfl)).1
  have f11:=ha.fr
  have F1:=f9.trans' f10 fun _ _ x=>x.elim
  refine⟨(i+1,.slice A' (fl.length+1) cap'),(mt (p:=True) trivial).1,⟨by show i+1≤l.length;omega,(f11.cell (a:=⟨cb,co,none⟩) ?_ (fun x=>absurd (hge _ x) ?_)).trans ((f10.cell (a:=⟨cb,co,none⟩) ?_ id).trans hc9),?_,?_,((hf3.trans (f7.of_no _)).trans F1).trans' f11 fun b' hb' x=>absurd (hge _ x) (by omega)⟩,by show l.length-(i+1)<l.length-i;omega⟩
  ·have h1:=f7.size;have h3:=f9.size;have h4:=f10.size;exact(by omega:cb<w10.heap.size)
  ·exact Nat.not_le.2 (by omega:cb<w2.heap.size)
  ·exact bK hc9
  ·dsimp only
   rw[hAsk _ hk]
   exact(hm9.keep f10 id).keep f11 fun x=>absurd (hge _ x) (by omega)
  ·dsimp only
   rw[hFl,List.length_append,List.map_append]
   exact ha.own
end Go.Proofs.YtcllkmllflheiaaGreatDoor
